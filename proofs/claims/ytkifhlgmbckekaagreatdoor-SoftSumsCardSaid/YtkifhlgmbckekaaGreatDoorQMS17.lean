/-
  soft's plus where one is endless.
-/
import Derived.Test.YtkifhlgmbckekaaGreatDoorInfF
import Derived.Test.YtkifhlgmbckekaaGreatDoorQMS16
import Derived.Test.YtkifhlgmbckekaaGreatDoorSoftH
import Derived.Deep.Cut
import Derived.Deep.RegionHeld3
namespace Go.Proofs.YtkifhlgmbckekaaGreatDoor

open Go.RowKit Go.Lb

attribute [local go_sem] Go.World.cell?_alloc_some

theorem endless_info : (Tryz.prog.info? 283).map (fun i => i.zero) = some (some (.agg #[.bool false])) := by kernel_rfl

theorem finite_info : (Tryz.prog.info? 176).map (fun i => i.zero) = some (some (.agg #[.bool false, .bool false, .slice none 0 0, .int .i64 0, .int .u64 0])) := by kernel_rfl

theorem taF_no {T : TypeId} (h : T ≠ 176) (v : Value) (W : World) : (Instr.typeAssert (.iface T v) 94 176 true).run Tryz.prog W = .ok (.tuple #[.agg #[.bool false, .bool false, .slice none 0 0, .int .i64 0, .int .u64 0], .bool false]) W := by
  obtain ⟨i, hi, hz⟩ := Option.map_eq_some_iff.1 finite_info
  simp [Instr.typeAssert, run_underlying Tryz.underlying176, h, zeroValue, typeInfo, hi, hz]

theorem taE_yes (v : Value) (W : World) : (Instr.typeAssert (.iface 283 v) 94 283 true).run Tryz.prog W = .ok (.tuple #[v, .bool true]) W := by
  simp [Instr.typeAssert, run_underlying Tryz.underlying283]

theorem taE_no {T : TypeId} (h : T ≠ 283) (v : Value) (W : World) : (Instr.typeAssert (.iface T v) 94 283 true).run Tryz.prog W = .ok (.tuple #[.agg #[.bool false], .bool false]) W := by
  obtain ⟨i, hi, hz⟩ := Option.map_eq_some_iff.1 endless_info
  simp [Instr.typeAssert, run_underlying Tryz.underlying283, h, zeroValue, typeInfo, hi, hz]

set_option maxRecDepth 100000 in
set_option maxHeartbeats 4000000 in
theorem finPlus_inf (pk e f : Nat) (s x y : Bool) (a1 : Option Addr) (n1 c1 b1 : Nat) (X m : Int) (w : World) (h : formE (e : Int) (f : Int) = 0) (hK : Box3 w pk (.int .i64 e) (.int .i64 f) (.int .u8 m)) :
    Calls Tryz.prog 421 #[.agg #[.bool x, .bool s, .slice a1 n1 c1, .int .i64 X, .int .u64 (b1 : Int)], .pointer (some ⟨pk, 0, none⟩), .iface 283 (.agg #[.bool y])] w fun en w' => en = .returned (.agg #[.int .u64 (joinN e f y (maskN e) 0 : Int), .int .u8 0, .int .i64 0]) ∧ Below w.heap.size w w' := by
  have kI : ∀ W, Below w.heap.size w W → Calls Tryz.prog 425 #[.pointer (some ⟨pk, 0, none⟩), .bool y, .int .u8 0] W _ := fun W hW => kitInf_any pk e f m 0 y W h (hK.stay hW)
  generalize joinN e f y (maskN e) 0 = J at *
  obtain ⟨W2, hW2⟩ : ∃ W2 : World, W2 = (w.alloc (.cells #[.bool x, .bool s, .slice a1 n1 c1, .int .i64 X, .int .u64 (b1 : Int)] 176)).alloc (.cells #[.int .u64 0, .int .u8 0, .int .i64 0] 90) := ⟨_, rfl⟩
  have hb2 : Below w.heap.size w W2 := hW2 ▸ more (more (Below.refl _ _) _) _
  have R2 : Box3 W2 (w.heap.size + 1) (.int .u64 0) (.int .u8 0) (.int .i64 0) := by
    have := box3_new (w.alloc (.cells #[.bool x, .bool s, .slice a1 n1 c1, .int .i64 X, .int .u64 (b1 : Int)] 176)) (.int .u64 0) (.int .u8 0) (.int .i64 0) 90
    rw [World.size_alloc] at this
    exact hW2 ▸ this
  have hta := fun W => taF_no (show 283 ≠ 176 by decide) (.agg #[.bool y]) W
  have htb := fun W => taE_yes (.agg #[.bool y]) W
  clear hK h
  go_enter Tryz.func421, Tryz.ntmps421
  go_upto_region 1 with fail
  rw [← hW2]
  clear hW2
  go_upto_region 7 with fail
  obtain ⟨W3, hW3⟩ : ∃ W3 : World, W3 = W2.alloc (.cells #[.bool y] 283) := ⟨_, rfl⟩
  have hb3 : Below W2.heap.size W2 W3 := hW3 ▸ more (Below.refl _ _) _
  have y0 : W3.cell? ⟨W2.heap.size, 0, none⟩ = some (.bool y) := by rw [hW3]; simp
  rw [← hW3]
  clear hW3
  have V3 := next hb2 hb3
  have R3 := R2.stay hb3
  clear R2 hb2 hb3 hta htb
  generalize W2.heap.size = Q at *
  go_wp2_with fail
  refine (kI W3 V3).mono ?_
  rintro en w4 ⟨rfl, hb4⟩
  have V := next V3 hb4
  have R := R3.stay hb4
  have ⟨r0, r1, r2, _, _, _⟩ := R
  go_wp2
  obtain ⟨t0, t1, t2⟩ := R.set (.int .u64 (J : Int)) (.int .u8 0) (.int .i64 0)
  refine bodyPost_ret (v := .agg #[.int .u64 (J : Int), .int .u8 0, .int .i64 0]) (by simp [results, Tryz.results421, go_sem, t0, t1, t2]) rfl ⟨rfl, ((V.setCell (by simp) _).setCell (by simp) _).setCell (by simp) _⟩

set_option maxRecDepth 100000 in
set_option maxHeartbeats 4000000 in
theorem endPlus_fin (pk e f : Nat) (x : Bool) (v : Value) (m : Int) (w : World) (h : formE (e : Int) (f : Int) = 0) (hK : Box3 w pk (.int .i64 e) (.int .i64 f) (.int .u8 m)) :
    Calls Tryz.prog 452 #[.agg #[.bool x], .pointer (some ⟨pk, 0, none⟩), .iface 176 v] w fun en w' => en = .returned (.agg #[.int .u64 (joinN e f x (maskN e) 0 : Int), .int .u8 0, .int .i64 0]) ∧ Below w.heap.size w w' := by
  have kI : ∀ W, Below w.heap.size w W → Calls Tryz.prog 425 #[.pointer (some ⟨pk, 0, none⟩), .bool x, .int .u8 0] W _ := fun W hW => kitInf_any pk e f m 0 x W h (hK.stay hW)
  generalize joinN e f x (maskN e) 0 = J at *
  obtain ⟨W2, hW2⟩ : ∃ W2 : World, W2 = (w.alloc (.cells #[.bool x] 283)).alloc (.cells #[.int .u64 0, .int .u8 0, .int .i64 0] 90) := ⟨_, rfl⟩
  have hb2 : Below w.heap.size w W2 := hW2 ▸ more (more (Below.refl _ _) _) _
  have x0 : W2.cell? ⟨w.heap.size, 0, none⟩ = some (.bool x) := by rw [hW2]; simp [World.cell?_alloc_some]
  have R2 : Box3 W2 (w.heap.size + 1) (.int .u64 0) (.int .u8 0) (.int .i64 0) := by
    have := box3_new (w.alloc (.cells #[.bool x] 283)) (.int .u64 0) (.int .u8 0) (.int .i64 0) 90
    rw [World.size_alloc] at this
    exact hW2 ▸ this
  have hta := fun W => taE_no (show 176 ≠ 283 by decide) v W
  clear hK h
  go_enter Tryz.func452, Tryz.ntmps452
  go_upto_region 1 with fail
  rw [← hW2]
  clear hW2
  go_upto_region 2 with fail
  obtain ⟨W3, hW3⟩ : ∃ W3 : World, W3 = W2.alloc (.cells #[.bool false] 283) := ⟨_, rfl⟩
  have hb3 : Below W2.heap.size W2 W3 := hW3 ▸ more (Below.refl _ _) _
  rw [← hW3]
  clear hW3
  have V3 := next hb2 hb3
  replace x0 := cellStay x0 hb3
  have R3 := R2.stay hb3
  clear R2 hb2 hb3 hta
  generalize W2.heap.size = Q at *
  go_wp2_with fail
  refine (kI W3 V3).mono ?_
  rintro en w4 ⟨rfl, hb4⟩
  have V := next V3 hb4
  have R := R3.stay hb4
  have ⟨r0, r1, r2, _, _, _⟩ := R
  go_wp2
  obtain ⟨t0, t1, t2⟩ := R.set (.int .u64 (J : Int)) (.int .u8 0) (.int .i64 0)
  refine bodyPost_ret (v := .agg #[.int .u64 (J : Int), .int .u8 0, .int .i64 0]) (by simp [results, Tryz.results452, go_sem, t0, t1, t2]) rfl ⟨rfl, ((V.setCell (by simp) _).setCell (by simp) _).setCell (by simp) _⟩

/-- The sum of two that are endless: its bits and flags. -/
def iiB (e f : Nat) (x y : Bool) : Nat := if x = y then joinN e f x (maskN e) 0 else nanN e f

def iiG (x y : Bool) : Nat := if x = y then 0 else 16

set_option maxRecDepth 100000 in
set_option maxHeartbeats 4000000 in
theorem endPlus_inf (pk e f : Nat) (x y : Bool) (m : Int) (w : World) (h : formE (e : Int) (f : Int) = 0) (hK : Box3 w pk (.int .i64 e) (.int .i64 f) (.int .u8 m)) :
    Calls Tryz.prog 452 #[.agg #[.bool x], .pointer (some ⟨pk, 0, none⟩), .iface 283 (.agg #[.bool y])] w fun en w' => en = .returned (.agg #[.int .u64 (iiB e f x y : Int), .int .u8 (iiG x y : Int), .int .i64 0]) ∧ Below w.heap.size w w' := by
  have kI : ∀ W, Below w.heap.size w W → Calls Tryz.prog 425 #[.pointer (some ⟨pk, 0, none⟩), .bool x, .int .u8 0] W _ := fun W hW => kitInf_any pk e f m 0 x W h (hK.stay hW)
  have kN : ∀ W, Below w.heap.size w W → Calls Tryz.prog 161 #[.pointer (some ⟨pk, 0, none⟩), .int .u8 16] W _ := fun W hW => kitNan_any pk e f m 16 W h (hK.stay hW)
  obtain ⟨W2, hW2⟩ : ∃ W2 : World, W2 = (w.alloc (.cells #[.bool x] 283)).alloc (.cells #[.int .u64 0, .int .u8 0, .int .i64 0] 90) := ⟨_, rfl⟩
  have hb2 : Below w.heap.size w W2 := hW2 ▸ more (more (Below.refl _ _) _) _
  have x0 : W2.cell? ⟨w.heap.size, 0, none⟩ = some (.bool x) := by rw [hW2]; simp [World.cell?_alloc_some]
  have R2 : Box3 W2 (w.heap.size + 1) (.int .u64 0) (.int .u8 0) (.int .i64 0) := by
    have := box3_new (w.alloc (.cells #[.bool x] 283)) (.int .u64 0) (.int .u8 0) (.int .i64 0) 90
    rw [World.size_alloc] at this
    exact hW2 ▸ this
  have hta := fun W => taE_yes (.agg #[.bool y]) W
  clear hK h
  by_cases hxy : x = y
  · have hB : iiB e f x y = joinN e f x (maskN e) 0 := if_pos hxy
    have hG : iiG x y = 0 := if_pos hxy
    rw [hB, hG]
    have hne : (y == x) = true := by rw [hxy]; simp
    clear hB hG hxy kN
    generalize joinN e f x (maskN e) 0 = J at *
    go_enter Tryz.func452, Tryz.ntmps452
    go_upto_region 1 with fail
    rw [← hW2]
    clear hW2
    go_upto_region 2 with fail
    obtain ⟨W3, hW3⟩ : ∃ W3 : World, W3 = W2.alloc (.cells #[.bool y] 283) := ⟨_, rfl⟩
    have hb3 : Below W2.heap.size W2 W3 := hW3 ▸ more (Below.refl _ _) _
    have y0 : W3.cell? ⟨W2.heap.size, 0, none⟩ = some (.bool y) := by rw [hW3]; simp
    rw [← hW3]
    clear hW3
    have V3 := next hb2 hb3
    replace x0 := cellStay x0 hb3
    have R3 := R2.stay hb3
    clear R2 hb2 hb3 hta
    generalize W2.heap.size = Q at *
    go_wp2_with fail
    refine (kI W3 V3).mono ?_
    rintro en w4 ⟨rfl, hb4⟩
    have V := next V3 hb4
    have R := R3.stay hb4
    have ⟨r0, r1, r2, _, _, _⟩ := R
    go_wp2
    obtain ⟨t0, t1, t2⟩ := R.set (.int .u64 (J : Int)) (.int .u8 0) (.int .i64 0)
    refine bodyPost_ret (v := .agg #[.int .u64 (J : Int), .int .u8 0, .int .i64 0]) (by simp [results, Tryz.results452, go_sem, t0, t1, t2]) rfl ⟨rfl, ((V.setCell (by simp) _).setCell (by simp) _).setCell (by simp) _⟩
  · have hB : iiB e f x y = nanN e f := if_neg hxy
    have hG : iiG x y = 16 := if_neg hxy
    rw [hB, hG]
    have hne : (y == x) = false := by simpa using fun h => hxy h.symm
    clear hB hG hxy kI
    generalize nanN e f = J at *
    go_enter Tryz.func452, Tryz.ntmps452
    go_upto_region 1 with fail
    rw [← hW2]
    clear hW2
    go_upto_region 2 with fail
    obtain ⟨W3, hW3⟩ : ∃ W3 : World, W3 = W2.alloc (.cells #[.bool y] 283) := ⟨_, rfl⟩
    have hb3 : Below W2.heap.size W2 W3 := hW3 ▸ more (Below.refl _ _) _
    have y0 : W3.cell? ⟨W2.heap.size, 0, none⟩ = some (.bool y) := by rw [hW3]; simp
    rw [← hW3]
    clear hW3
    have V3 := next hb2 hb3
    replace x0 := cellStay x0 hb3
    have R3 := R2.stay hb3
    clear R2 hb2 hb3 hta
    generalize W2.heap.size = Q at *
    go_wp2_with fail
    refine (kN W3 V3).mono ?_
    rintro en w4 ⟨rfl, hb4⟩
    have V := next V3 hb4
    have R := R3.stay hb4
    have ⟨r0, r1, r2, _, _, _⟩ := R
    go_wp2
    obtain ⟨t0, t1, t2⟩ := R.set (.int .u64 (J : Int)) (.int .u8 16) (.int .i64 0)
    refine bodyPost_ret (v := .agg #[.int .u64 (J : Int), .int .u8 16, .int .i64 0]) (by simp [results, Tryz.results452, go_sem, t0, t1, t2]) rfl ⟨rfl, ((V.setCell (by simp) _).setCell (by simp) _).setCell (by simp) _⟩

end Go.Proofs.YtkifhlgmbckekaaGreatDoor

/-
  The walks of the reference's nans, less, pick, Min, Max. The walks of the reference's pick, Min, Max.
-/
namespace Go.Proofs.YtkifhlgmbckekaaGreatDoor

open Go.RowKit Go.Lb

/-- Is one none, and is one of these loud? -/
def nansB : List (Bool × Bool) → Bool
  | [] => false
  | p :: l => p.1 || nansB l

def loudB : List (Bool × Bool) → Bool
  | [] => false
  | p :: l => (p.1 && !p.2) || loudB l

theorem nansB_snoc (p : Bool × Bool) : ∀ l : List (Bool × Bool), nansB (l ++ [p]) = (nansB l || p.1)
  | [] => by simp [nansB]
  | q :: l => by simp [nansB, nansB_snoc p l, Bool.or_assoc]

theorem loudB_snoc (p : Bool × Bool) : ∀ l : List (Bool × Bool), loudB (l ++ [p]) = (loudB l || (p.1 && !p.2))
  | [] => by simp [loudB]
  | q :: l => by simp [loudB, loudB_snoc p l, Bool.or_assoc]

def loudN (l : List (Bool × Bool)) : Int := if loudB l = true then 16 else 0

theorem take_snoc {L : List (Bool × Bool)} {k : Nat} (h : k < L.length) : L.take (k + 1) = L.take k ++ [L[k]] := by
  rw [List.take_add_one, List.getElem?_eq_getElem h]; rfl

set_option maxRecDepth 100000 in
set_option maxHeartbeats 1600000 in
theorem nans_any (pl : Nat) (L : List (Bool × Bool)) (w : World) (hl : L.length ≤ 1000) (hv : ∀ j, (h : j < L.length) → w.cell? ⟨pl, j * 7 + 1, none⟩ = some (.bool L[j].1) ∧ w.cell? ⟨pl, j * 7 + 2, none⟩ = some (.bool L[j].2)) :
    Calls Tryz.prog 67 #[.slice (some ⟨pl, 0, none⟩) L.length L.length] w fun en w' => en = .returned (.tuple #[.bool (nansB L), .int .u8 (loudN L)]) ∧ Below w.heap.size w w' := by
  go_enter Tryz.func67, Tryz.ntmps67
  go_wp2
  go_loopw [4, 5, 6] (fun an fl i wr => ∃ k : Nat, k ≤ L.length ∧ i = .int .i64 k ∧ an = .bool (nansB (L.take k)) ∧ fl = .int .u8 (loudN (L.take k)) ∧ wr = w) (fun _ _ i _ => L.length - (intOf i).toNat)
  case atStart => exact ⟨0, by omega, rfl, rfl, rfl, rfl⟩
  case round =>
    obtain ⟨k, hk, rfl, rfl, rfl, rfl⟩ := hrel
    by_cases hkl : k < L.length
    · obtain ⟨v1, v2⟩ := hv k hkl
      have ht := take_snoc hkl
      have t1 := nansB_snoc L[k] (L.take k)
      have t2 := loudB_snoc L[k] (L.take k)
      rw [← ht] at t1 t2
      have t3 : loudN (L.take (k + 1)) = if (L[k].1 && !L[k].2) = true then 16 else loudN (L.take k) := by
        unfold loudN
        rw [t2]
        cases loudB (List.take k L) <;> cases (L[k].1 && !L[k].2) <;> rfl
      clear t2 ht hv
      cases h1 : L[k].1
      · rw [h1] at v1 t1 t3
        go_wp2
        exact ⟨⟨k + 1, by omega, rfl, by rw [t1, Bool.or_false], by rw [t3]; rfl, trivial⟩, by simp [intOf]; omega⟩
      · rw [h1] at v1 t1 t3
        cases h2 : L[k].2
        · rw [h2] at v2 t3
          go_wp2
          exact ⟨⟨k + 1, by omega, rfl, by rw [t1, Bool.or_true], by rw [t3]; rfl, trivial⟩, by simp [intOf]; omega⟩
        · rw [h2] at v2 t3
          go_wp2
          exact ⟨⟨k + 1, by omega, rfl, by rw [t1, Bool.or_true], by rw [t3]; rfl, trivial⟩, by simp [intOf]; omega⟩
    · obtain rfl : k = L.length := by omega
      rw [List.take_length]
      clear hv
      go_wp2
      refine bodyPost_ret (v := .tuple #[.bool (nansB L), .int .u8 (loudN L)]) (by simp [results, Tryz.results67, go_sem]) rfl ⟨rfl, Below.refl _ _⟩

theorem Box7.other {w : World} {b : Nat} {v0 v1 v2 v3 v4 v5 v6 : Value} (h : Box7 w b v0 v1 v2 v3 v4 v5 v6) {p : Nat} (hne : p ≠ b) (u0 u1 u2 u3 u4 u5 u6 : Value) :
    Box7 (((((((w.setCell ⟨p, 0, none⟩ u0).setCell ⟨p, 1, none⟩ u1).setCell ⟨p, 2, none⟩ u2).setCell ⟨p, 3, none⟩ u3).setCell ⟨p, 4, none⟩ u4).setCell ⟨p, 5, none⟩ u5).setCell ⟨p, 6, none⟩ u6) b v0 v1 v2 v3 v4 v5 v6 := by
  obtain ⟨h0, h1, h2, h3, h4, h5, h6, z0, z1, z2, z3, z4, z5, z6⟩ := h
  constructor
  all_goals first
    | (simp [World.cell?_setCell_other, h0, h1, h2, h3, h4, h5, h6]; done)
    | (simp [z0, z1, z2, z3, z4, z5, z6]; done)

theorem box7_at {w : World} {b : Nat} (hb : w.heap.size = b) (v0 v1 v2 v3 v4 v5 v6 : Value) (t : TypeId) : Box7 (w.alloc (.cells #[v0, v1, v2, v3, v4, v5, v6] t)) b v0 v1 v2 v3 v4 v5 v6 := hb ▸ box7_new w v0 v1 v2 v3 v4 v5 v6 t

theorem box7_nex {w : World} {b : Nat} (hb : w.heap.size = b) (o : Obj) (v0 v1 v2 v3 v4 v5 v6 : Value) (t : TypeId) : Box7 ((w.alloc o).alloc (.cells #[v0, v1, v2, v3, v4, v5, v6] t)) (b + 1) v0 v1 v2 v3 v4 v5 v6 := by
  have := box7_new (w.alloc o) v0 v1 v2 v3 v4 v5 v6 t
  rw [World.size_alloc, hb] at this
  exact this

/-- Seven cells, whatever they hold. -/
def Ex7 (w : World) (b : Nat) : Prop := ∃ v0 v1 v2 v3 v4 v5 v6, Box7 w b v0 v1 v2 v3 v4 v5 v6

theorem Ex7.of {w : World} {b : Nat} {v0 v1 v2 v3 v4 v5 v6 : Value} (h : Box7 w b v0 v1 v2 v3 v4 v5 v6) : Ex7 w b := ⟨_, _, _, _, _, _, _, h⟩

theorem Ex7.alloc {w : World} {b : Nat} (h : Ex7 w b) (o : Obj) : Ex7 (w.alloc o) b := by
  obtain ⟨_, _, _, _, _, _, _, h⟩ := h
  exact .of (h.alloc o)

theorem Ex7.set {w : World} {b : Nat} (h : Ex7 w b) (u0 u1 u2 u3 u4 u5 u6 : Value) :
    Box7 (((((((w.setCell ⟨b, 0, none⟩ u0).setCell ⟨b, 1, none⟩ u1).setCell ⟨b, 2, none⟩ u2).setCell ⟨b, 3, none⟩ u3).setCell ⟨b, 4, none⟩ u4).setCell ⟨b, 5, none⟩ u5).setCell ⟨b, 6, none⟩ u6) b u0 u1 u2 u3 u4 u5 u6 := by
  obtain ⟨_, _, _, _, _, _, _, h⟩ := h
  exact h.set ..

theorem Ex7.other {w : World} {b : Nat} (h : Ex7 w b) {p : Nat} (hne : p ≠ b) (u0 u1 u2 u3 u4 u5 u6 : Value) :
    Ex7 (((((((w.setCell ⟨p, 0, none⟩ u0).setCell ⟨p, 1, none⟩ u1).setCell ⟨p, 2, none⟩ u2).setCell ⟨p, 3, none⟩ u3).setCell ⟨p, 4, none⟩ u4).setCell ⟨p, 5, none⟩ u5).setCell ⟨p, 6, none⟩ u6) b := by
  obtain ⟨_, _, _, _, _, _, _, h⟩ := h
  exact .of (h.other hne ..)

/-- A number made of late: its block lies between two bounds. -/
structure FrT (e : TypeId) (w : World) (base top : Nat) (ao : Option Addr) (n c : Nat) (xs : List Nat) : Prop where
  fr : Fr e w base ao n c xs
  le : top ≤ w.heap.size
  lt : ∀ g, blkOf ao = some g → g < top

theorem frT {e : TypeId} {w : World} {base : Nat} {ao : Option Addr} {n c : Nat} {xs : List Nat} (h : Fr e w base ao n c xs) : FrT e w base w.heap.size ao n c xs := ⟨h, Nat.le_refl _, fun _ hg => (fr_lt h hg).2⟩

theorem FrT.slo {e : TypeId} {w w' : World} {base top : Nat} {ao : Option Addr} {n c : Nat} {xs : List Nat} (_ : FrT e w base top ao n c xs) (h : FrT e w' base top ao n c xs) : Sl w' ao n c xs := h.fr.sl

theorem FrT.below {e : TypeId} {w w' : World} {base top : Nat} {ao : Option Addr} {n c : Nat} {xs : List Nat} (h : FrT e w base top ao n c xs) (hb : Below w.heap.size w w') : FrT e w' base top ao n c xs := ⟨h.fr.below hb, Nat.le_trans h.le hb.size, h.lt⟩

theorem FrT.alloc {e : TypeId} {w : World} {base top : Nat} {ao : Option Addr} {n c : Nat} {xs : List Nat} (h : FrT e w base top ao n c xs) (o : Obj) : FrT e (w.alloc o) base top ao n c xs := h.below ((Below.refl _ _).alloc (Nat.le_refl _) o)

theorem FrT.drew {e : TypeId} {w : World} {base top : Nat} {ao : Option Addr} {n c : Nat} {xs : List Nat} (h : FrT e w base top ao n c xs) : FrT e w.drew base top ao n c xs := h.below (Below.refl _ _).drew

theorem FrT.setCell {e : TypeId} {w : World} {base top : Nat} {ao : Option Addr} {n c : Nat} {xs : List Nat} (h : FrT e w base top ao n c xs) {p : Addr} (hp : p.block < base ∨ top ≤ p.block) (v : Value) : FrT e (w.setCell p v) base top ao n c xs :=
  ⟨fr_at h.fr (by simp) fun g hg _ => Below.heap_setCell w p v g (by have := (fr_lt h.fr hg).1; have := h.lt g hg; omega), by simpa using h.le, h.lt⟩

theorem FrT.set7 {e : TypeId} {w : World} {base top : Nat} {ao : Option Addr} {n c : Nat} {xs : List Nat} (h : FrT e w base top ao n c xs) {p : Nat} (hp : p < base ∨ top ≤ p) (u0 u1 u2 u3 u4 u5 u6 : Value) :
    FrT e (((((((w.setCell ⟨p, 0, none⟩ u0).setCell ⟨p, 1, none⟩ u1).setCell ⟨p, 2, none⟩ u2).setCell ⟨p, 3, none⟩ u3).setCell ⟨p, 4, none⟩ u4).setCell ⟨p, 5, none⟩ u5).setCell ⟨p, 6, none⟩ u6) base top ao n c xs :=
  ((((((h.setCell hp _).setCell hp _).setCell hp _).setCell hp _).setCell hp _).setCell hp _).setCell hp _

/-- Two floats taken apart, each in its box. -/
structure TwoF (e f a b : Nat) (w0 wx : World) (bx bY : Nat) (qa sa : Bool) (aoa : Option Addr) (na ca : Nat) (xa : Int) (qb sb : Bool) (aob : Option Addr) (nb cb : Nat) (xb : Int) : Prop where
  below : Below w0.heap.size w0 wx
  cx : Box7 wx bx (.bool (sgB e f a)) (.bool (nanB e f a)) (.bool qa) (.bool (infB e f a)) (.bool sa) (.slice aoa na ca) (.int .i64 xa)
  cy : Box7 wx bY (.bool (sgB e f b)) (.bool (nanB e f b)) (.bool qb) (.bool (infB e f b)) (.bool sb) (.slice aob nb cb) (.int .i64 xb)
  qx : nanB e f a = true → qa = qtB f a
  qy : nanB e f b = true → qb = qtB f b
  fx : exN e f a ≠ maskN e → sa = valS e f a ∧ xa = valX e f a ∧ Sl wx aoa na ca (limbs (valN e f a))
  fy : exN e f b ≠ maskN e → sb = valS e f b ∧ xb = valX e f b ∧ Sl wx aob nb cb (limbs (valN e f b))

end Go.Proofs.YtkifhlgmbckekaaGreatDoor

namespace Go.Proofs.YtkifhlgmbckekaaGreatDoor

open Go.RowKit Go.Lb

theorem nans_two (pl : Nat) (x q y r : Bool) (w : World) (h1 : w.cell? ⟨pl, 1, none⟩ = some (.bool x)) (h2 : w.cell? ⟨pl, 2, none⟩ = some (.bool q)) (h3 : w.cell? ⟨pl, 8, none⟩ = some (.bool y)) (h4 : w.cell? ⟨pl, 9, none⟩ = some (.bool r)) :
    Calls Tryz.prog 67 #[.slice (some ⟨pl, 0, none⟩) 2 2] w fun en w' => en = .returned (.tuple #[.bool (x || y), .int .u8 (loudN [(x, q), (y, r)])]) ∧ Below w.heap.size w w' := by
  refine (nans_any pl [(x, q), (y, r)] w (by simp) ?_).mono ?_
  · intro j hj
    match j, hj with
    | 0, _ => exact ⟨h1, h2⟩
    | 1, _ => exact ⟨h3, h4⟩
  · rintro en w' ⟨rfl, hW⟩
    exact ⟨by simp [nansB], hW⟩

end Go.Proofs.YtkifhlgmbckekaaGreatDoor

