/-
  Contracts of numeral/round: large, limbs.
-/
import Derived.Test.YtaddnoneoflimaaGreatDoorQbTBgV
import Derived.Deep.RegionHeld3
import Derived.Test.YtaddnoneoflimaaGreatDoorQbTBigL
namespace Go.Proofs.YtaddnoneoflimaaGreatDoor

open Go.RowKit Go.Lb

attribute [local go_sem ↓] Go.wp_at_zero Go.wp_at_succ

theorem val_drop_next (xs : List Nat) (t : Nat) (h : t < xs.length) : val (xs.drop t) = val (xs.drop (t + 1)) * 4294967296 + nth xs t := by
  rw [List.drop_eq_getElem_cons h, val]
  unfold nth
  rw [List.getD_eq_getElem?_getD, List.getElem?_eq_getElem h, Option.getD_some]
  omega

set_option maxRecDepth 100000 in
set_option maxHeartbeats 3000000 in
theorem rdLarge_any (ao : Option Addr) (n c : Nat) (xs : List Nat) (w : World) (h : Sl w ao n c xs) (hn : n ≤ 8388608) :
    Calls Tryz.prog 219 #[.agg #[.slice ao n c]] w (MkZ 23 (val xs : Int) w) := by
  have hle := h.le
  have hcap := h.cap
  have hlen := h.len
  have HV : Hid (∀ t, t < n → val (xs.drop t) = val (xs.drop (t + 1)) * 4294967296 + nth xs t) := Lib.hid (fun t ht => val_drop_next xs t (by omega))
  have HL : Hid (∀ j, ln (val (xs.drop j)) ≤ 8388608) := Lib.hid (fun j => Nat.le_trans (ln_le (val_lt (ok_drop h.ok j))) (by rw [List.length_drop]; omega))
  obtain ⟨W2, hW2⟩ : ∃ W2 : World, W2 = (w.alloc (.cells #[.slice ao n c] 78)).alloc (.cells #[.bool false, .slice none 0 0] 290) := ⟨_, rfl⟩
  have hb2 : Below w.heap.size w W2 := hW2 ▸ more (more (Below.refl _ _) _) _
  have hI : Iz 23 W2 (w.heap.size + 1) (w.heap.size + 1) ((val (xs.drop n) : Nat) : Int) := by
    have := iz_new (e := 23) (t := 290) (w.alloc (.cells #[.slice ao n c] 78))
    rw [World.size_alloc] at this
    rw [hW2, List.drop_of_length_le (by omega)]
    exact this
  have hc : W2.cell? ⟨w.heap.size, 0, none⟩ = some (.slice ao n c) := by rw [hW2]; simp [World.cell?_alloc_some]
  have HD0 : Hid (val xs = val (xs.drop 0)) := Lib.hid (by rw [List.drop_zero])
  clear hlen
  go_enter Tryz.func219, Tryz.ntmps219
  go_wp2
  rw [← hW2]
  clear hW2
  go_loopw [4] (fun iv wr => ∃ j : Nat, j ≤ n ∧ iv = .int .i64 ((j : Int) - 1) ∧ Iz 23 wr (w.heap.size + 1) (w.heap.size + 1) ((val (xs.drop j) : Nat) : Int) ∧ wr.cell? ⟨w.heap.size, 0, none⟩ = some (.slice ao n c) ∧ Below w.heap.size w wr) (fun iv _ => (intOf iv + 1).toNat)
  case atStart => exact ⟨n, Nat.le_refl _, rfl, hI, hc, hb2⟩
  case round =>
    obtain ⟨j, hj, rfl, hI, hc, hW⟩ := hrel
    clear hb2
    by_cases hj0 : j = 0
    · subst hj0
      have j1 : ¬ ((0 : Nat) : Int) - 1 ≥ 0 := by decide
      go_wp2
      go_ret
      exact ⟨_, rfl, by rw [HD0.out]; exact hI.mono (Nat.le_succ _), hW⟩
    · obtain ⟨t, rfl⟩ : ∃ t, j = t + 1 := ⟨j - 1, by omega⟩
      have ej : ((t + 1 : Nat) : Int) - 1 = (t : Int) := by omega
      rw [ej]
      have htn : t < n := by omega
      obtain ⟨g, o, rfl, hg, hcc⟩ := (h.below hW).at_ (by omega)
      have hcell := hcc t htn
      have hlt := nth_lt h.ok t
      have hv := HV.out t htn
      have HVt := Lib.hid hv
      have hl1 := HL.out (t + 1)
      have HT : Hid (t + 1 ≤ n) := Lib.hid hj
      have hgw : g ≠ w.heap.size + 1 := by
        obtain ⟨g', o', e', hg', _⟩ := h.at_ (by omega)
        cases e'
        omega
      generalize val (xs.drop (t + 1)) = V at *
      generalize nth xs t = x at *
      have i1 : (0 : Int) ≤ (t : Int) := by omega
      have i2 : (t : Int) < (n : Int) := by omega
      have i3 : (t : Int) ≥ 0 := by omega
      have hzc := hI.zc
      have hsz := hW.size
      have hbl := hI.lt
      have hLs := bgLsh_any (w.heap.size + 1) (w.heap.size + 1) (w.heap.size + 1) (w.heap.size + 1) 32 (V : Int) wr.drew (hzc.stay (Below.refl _ _).drew) (Nat.le_of_lt hbl) (hI.stay (Below.refl _ _).drew) (by rw [Int.natAbs_natCast]; omega) (by decide)
      rw [show (V : Int) * 2 ^ 32 = ((V * 4294967296 : Nat) : Int) by simp, show ((32 : Nat) : Int) = 32 from rfl] at hLs
      have hwx : IntKind.i64.wrap (x : Int) = (x : Int) := IntWalk.i64_in _ (by omega)
      have hz2 := hzc.stay (Below.refl wr.heap.size wr).drew
      have hN := bgNewZ_any (x : Int)
      have hO : ∀ W B bb, Below w.heap.size w W → Iz 23 W (w.heap.size + 1) (w.heap.size + 1) ((V * 4294967296 : Nat) : Int) → Iz 23 W B bb (x : Int) → Calls Tryz.prog 323 #[.pointer (some ⟨w.heap.size + 1, 0, none⟩), .pointer (some ⟨w.heap.size + 1, 0, none⟩), .pointer (some ⟨bb, 0, none⟩)] W (StZ 23 (w.heap.size + 1) (w.heap.size + 1) ((V * 4294967296 + x : Nat) : Int) W) := fun W B bb hW hi hx =>
        bgOrLow_any (w.heap.size + 1) (w.heap.size + 1) (w.heap.size + 1) B (w.heap.size + 1) bb _ x W hi.zc (Nat.le_of_lt hi.lt) hi hx (by omega) hlt (by
          have e : V * 4294967296 = V * 2 ^ 32 := rfl
          rw [e]
          exact Nat.le_trans (ln_shl V 32) (by omega))
      have hw0 : w.heap.size ≠ w.heap.size + 1 := by omega
      clear hcc hv hl1 ej hj hj0
      go_wp2
      go_region_held3 (fun w' => w'.cell? ⟨w.heap.size, 0, none⟩ = some (.slice (some ⟨g, o, none⟩) n c) ∧ w'.cell? ⟨g, o + t, none⟩ = some (.int .u32 (x : Int)))
        ((first | exact ⟨p2, p3⟩ | exact ⟨o2, o3⟩ | exact ⟨f2, f3⟩ | (go_keep; done)))
        (first
          | (go_at_call 319; (with_reducible refine hLs.mono ?_); rintro en wA hS; have VA := hS.below hW.drew hsz (Nat.le_succ _); have hgA := hS.grown; obtain ⟨rfl, hIA, _⟩ := hS.in_ hz2 (Nat.le_refl _); have f2 := hgA.cell hc (fun e => by injection e with e; exact hw0 e); have f3 := hgA.cell hcell (fun e => by injection e with e; exact hgw e))
          | (go_at_call 263; (with_reducible refine (hN _ ?_).mono ?_); (exact ⟨by omega, by omega⟩); rintro en wB ⟨bb, rfl, hIx, hbB⟩; have o2 := cellStay f2 hbB; have o3 := cellStay f3 hbB; have VB := next VA hbB; have hIB := hIA.stay hbB)
          | (go_at_call 323; (with_reducible refine (hO _ _ _ VB hIB hIx).mono ?_); rintro en wC hS; have VC := hS.below VB VB.size (Nat.le_succ _); have hgC := hS.grown; obtain ⟨rfl, hIC, _⟩ := hS.in_ hIB.zc (Nat.le_refl _); have p2 := hgC.cell o2 (fun e => by injection e with e; exact hw0 e); have p3 := hgC.cell o3 (fun e => by injection e with e; exact hgw e)))
      all_goals
        rw [← HVt.out] at hIC
        go_wp2
        exact ⟨⟨t, by have := HT.out; omega, rfl, hIC, p2, VC⟩, by simp [intOf] <;> omega⟩

theorem in_row {e : TypeId} {w w' : World} {base b : Nat} {s : Bool} {ao : Option Addr} {k c N : Nat} {row : Option Nat} (h : In e w base b s ao k c N) (hg : w.grownBy w' row) (h1 : row ≠ some b) (h2 : ∀ g, row = some g → blkOf ao ≠ some g) : In e w' base b s ao k c N := by
  have hb : w'.heap[b]? = w.heap[b]? := hg.block b h.lt (fun e => h1 e.symm)
  refine ⟨(World.cell?_of_block hb).trans h.c0, (World.cell?_of_block hb).trans h.c1, (World.frozen?_of_block hb).trans h.z0, (World.frozen?_of_block hb).trans h.z1, ?_, h.ne, h.hb⟩
  exact fr_at h.fr hg.size (fun g hgb hgl => hg.block g hgl (fun e => h2 g e.symm hgb))

/-- How long a slice is. -/
def lenV : Value → Nat
  | .slice _ n _ => n
  | _ => 0

theorem limbs_take_next (x i : Nat) (h : x / 2 ^ (32 * i) ≠ 0) : (limbs x).take (i + 1) = (limbs x).take i ++ [x / 2 ^ (32 * i) % 4294967296] ∧ i < ln x := by
  have hi : i < ln x := by
    rcases Nat.lt_or_ge i (ln x) with h1 | h1
    · exact h1
    · exfalso
      apply h
      refine Nat.div_eq_of_lt (Nat.lt_of_lt_of_le (ln_lt x) ?_)
      rw [show (4294967296 : Nat) = 2 ^ 32 from rfl, ← Nat.pow_mul]
      exact Nat.pow_le_pow_right (by decide) (by omega)
  refine ⟨?_, hi⟩
  have hn : nth (limbs x) i = x / 2 ^ (32 * i) % 4294967296 := by
    obtain ⟨r, hr⟩ := val_part (limbs x) (i := i) (ok_limbs x)
    rw [val_limbs'] at hr
    have := nth_lt (ok_limbs x) i
    omega
  rw [List.take_succ_eq_append_getElem hi, ← hn]
  unfold nth
  rw [List.getD_eq_getElem?_getD, List.getElem?_eq_getElem hi]
  rfl

theorem limbs_take_done (x i : Nat) (h : x / 2 ^ (32 * i) = 0) : (limbs x).take i = limbs x := by
  refine List.take_of_length_le ?_
  refine limbs_length_le ?_
  rw [show (4294967296 : Nat) = 2 ^ 32 from rfl, ← Nat.pow_mul]
  have hp := Nat.two_pow_pos (32 * i)
  rcases Nat.lt_or_ge x (2 ^ (32 * i)) with h1 | h1
  · exact h1
  · have := Nat.div_pos h1 hp
    omega

set_option maxRecDepth 100000 in
set_option maxHeartbeats 3000000 in
theorem rdLimbs_any (B1 b1 x : Nat) (w : World) (h1 : Iz 23 w B1 b1 (x : Int)) (l1 : ln x ≤ 8388608) :
    Calls Tryz.prog 221 #[.pointer (some ⟨b1, 0, none⟩)] w fun e w' => ∃ ao k c, e = .returned (.agg #[.slice ao k c]) ∧ Fr 23 w' w.heap.size ao k c (limbs x) ∧ Below w.heap.size w w' := by
  obtain ⟨i0, hi0, hz0, hz1, hz2⟩ := info_parts u32_infoL
  obtain ⟨W1, hW1⟩ : ∃ W1 : World, W1 = w.alloc (.cells #[.slice none 0 0] 78) := ⟨_, rfl⟩
  have hb1 : Below w.heap.size w W1 := hW1 ▸ more (Below.refl _ _) _
  have hs1 : W1.heap.size = w.heap.size + 1 := by rw [hW1]; simp
  have hc1 : W1.cell? ⟨w.heap.size, 0, none⟩ = some (.slice none 0 0) := by rw [hW1]; simp
  have hz1' : W1.frozen? ⟨w.heap.size, 0, none⟩ = false := by rw [hW1]; simp [go_sem]
  have L1 := Lib.hid l1
  have HS1 := Lib.hid hs1
  clear hs1
  obtain ⟨W2, hW2⟩ : ∃ W2 : World, W2 = W1.alloc (.cells #[.bool false, .slice none 0 0] 290) := ⟨_, rfl⟩
  have hb2 : Below W1.heap.size W1 W2 := hW2 ▸ more (Below.refl _ _) _
  have hZ : Zc W2 (w.heap.size + 1) := by
    have := zc_new W1 290 (.bool false) (.slice none 0 0)
    rw [HS1.out] at this
    rw [hW2]
    exact this
  have hpW : W1.heap.size ≤ w.heap.size + 1 := by rw [HS1.out]; exact Nat.le_refl _
  have hSet := bgSetZ_any (w.heap.size + 1) (w.heap.size + 1) B1 b1 (x : Int) W2 hZ (Nat.le_of_lt hZ.lt) (h1.stay (next hb1 hb2)) (by rw [Int.natAbs_natCast]; have := L1.out; omega)
  clear l1 h1
  go_enter Tryz.func221, Tryz.ntmps221
  go_wp2_with fail
  rw [← hW1, ← hW2]
  clear hW1 hW2
  refine hSet.mono ?_
  rintro e w3 hS
  have hb3 : Below W1.heap.size W1 w3 := hS.below hb2 hb2.size hpW
  obtain ⟨rfl, hI3, _⟩ := hS.in_ hZ (Nat.le_refl _)
  have hc3 := cellStay hc1 hb3
  have hz3 := (hb3.frozen (World.block_lt_of_cell? W1 _ hc1)).trans hz1'
  have W3 := next hb1 hb3
  obtain ⟨an, kn, cn, in3⟩ := iz_nat hI3
  clear hSet hS hI3 hb2 hZ hb3
  go_wp2_with fail
  go_loopw [3] (fun v wr => ∃ (i : Nat) (an : Option Addr) (kn cn : Nat), i ≤ ln x ∧ lenV v = i ∧ wr.ownsRow (w.heap.size + 2) 23 1 v i (lvs ((limbs x).take i)) ∧ In 23 wr (w.heap.size + 1) (w.heap.size + 1) false an kn cn (x / 2 ^ (32 * i)) ∧ (∀ g, v.ownBlock = some g → blkOf an ≠ some g) ∧ wr.cell? ⟨w.heap.size, 0, none⟩ = some (.slice none 0 0) ∧ wr.frozen? ⟨w.heap.size, 0, none⟩ = false ∧ w.heap.size + 2 ≤ wr.heap.size ∧ Below w.heap.size w wr) (fun v _ => ln x - lenV v)
  case atStart => exact ⟨0, an, kn, cn, Nat.zero_le _, rfl, World.ownsRow_nil _ _ _ _, by simpa using in3, (fun g hg => by cases hg), hc3, hz3, in3.lt, W3⟩
  case round =>
    obtain ⟨i, an, kn, cn, hi, hv, ho, hI, hne, hc, hz, hsz, hW⟩ := hrel
    clear in3 hc3 hz3 W3
    have hIz : Iz 23 wr (w.heap.size + 1) (w.heap.size + 1) ((x / 2 ^ (32 * i) : Nat) : Int) := ⟨an, kn, cn, by rw [nonneg_nat, Int.natAbs_natCast]; exact hI⟩
    have hSg := bgSignZ_any (w.heap.size + 1) (w.heap.size + 1) _ wr hIz
    by_cases h0 : x / 2 ^ (32 * i) = 0
    · have hdone := limbs_take_done x i h0
      rw [h0] at hSg
      rw [hdone] at ho
      obtain ⟨ao, c, rfl, hF⟩ := fr_own_any ho (ok_limbs x)
      clear h0 hdone hv hne hIz hI
      go_wp2_with fail
      refine hSg.mono ?_
      rintro e w4 ⟨rfl, rfl⟩
      go_wp2
      have d3 := World.cell?_setCell_same wr ⟨w.heap.size, 0, none⟩ (.slice ao i c) hc
      have F3 := fr_grown hF (grown_set wr w.heap.size 0 (.slice ao i c)) (by omega)
      exact bodyPost_ret (v := .agg #[.slice ao i c]) (by simp [results, Tryz.results221, go_sem, d3]) rfl ⟨ao, i, c, rfl, F3.mono (by omega), hW.setCell (Nat.le_refl _) _⟩
    · have hnx := limbs_take_next x i h0
      have hsg : ((x / 2 ^ (32 * i) : Nat) : Int).sign = 1 := Int.sign_eq_one_of_pos (Int.natCast_pos.2 (Nat.pos_of_ne_zero h0))
      rw [hsg] at hSg
      have hq : x / 2 ^ (32 * i) / 2 ^ 32 = x / 2 ^ (32 * (i + 1)) := by rw [Nat.div_div_eq_div_mul, ← Nat.pow_add, show 32 * i + 32 = 32 * (i + 1) by omega]
      have hlx : ln (x / 2 ^ (32 * i)) ≤ 8388608 := Nat.le_trans (ln_div _ _) L1.out
      have hlim : x / 2 ^ (32 * i) % 4294967296 < 4294967296 := Nat.mod_lt _ (by decide)
      obtain ⟨htk, hil⟩ := hnx
      have HTK := Lib.hid htk
      have HQ := Lib.hid hq
      have HV := Lib.hid hv
      clear htk hq hv hsg h0 hi
      generalize x / 2 ^ (32 * i) = y at *
      generalize hlm : y % 4294967296 = d at *
      have hN := bgNewZ_any 4294967295
      go_wp2_with fail
      refine hSg.mono ?_
      rintro e w4 ⟨rfl, rfl⟩
      clear hSg
      obtain ⟨W5, hW5⟩ : ∃ W5 : World, W5 = wr.alloc (.cells #[.bool false, .slice none 0 0] 290) := ⟨_, rfl⟩
      have hb5 : Below wr.heap.size wr W5 := hW5 ▸ more (Below.refl _ _) _
      have hZ5 : Zc W5 wr.heap.size := by rw [hW5]; exact zc_new _ _ _ _
      go_wp2_with fail
      rw [← hW5]
      clear hW5
      refine (hN _ (by decide)).mono ?_
      rintro e w6 ⟨b6, rfl, hI6, hb6⟩
      have V6 := next hb5 hb6
      have hAnd := bgAndLow_any wr.heap.size wr.heap.size (w.heap.size + 1) W5.heap.size (w.heap.size + 1) b6 y w6 (hZ5.stay hb6) V6.size (hIz.stay V6) hI6
      rw [hlm] at hAnd
      go_wp2_with fail
      refine hAnd.mono ?_
      rintro e w7 hS
      have V7 := hS.below V6 V6.size (Nat.le_refl _)
      obtain ⟨rfl, hI7, _⟩ := hS.in_ (hZ5.stay hb6) (Nat.le_refl _)
      have hU := bgUint64_any wr.heap.size wr.heap.size d w7 hI7 (by omega)
      clear hAnd hS hI6 hb5 hb6 hZ5 V6 hN
      go_wp2_with fail
      refine hU.mono ?_
      rintro e w8 ⟨rfl, rfl⟩
      have ho7 := own_keep ho V7
      have hI7' := hI.stay V7
      have hc7 := cellStay hc V7
      have hz7 := (V7.frozen (World.block_lt_of_cell? wr _ hc)).trans hz
      have W7 := next hW V7
      have hs7 := V7.size
      have hmod : (d : Int) % 4294967296 = (d : Int) := by omega
      have hsl := own_sl (bgOwn_one w7 d) (by intro z hz; simp at hz; omega)
      have hil4 : i ≤ 8388608 := by have := L1.out; omega
      clear hU hI7 V7 ho hI hc hz hIz hlm
      go_wp2_with (at_builtin; refine wpList_append_sl _ rfl (.tmp 13) (.tmp 20) _ rfl (w.heap.size + 2) 23 i0 _ Tryz.underlying76 hi0 hz0 hz1 hz2 rfl _ i ((limbs x).take i) rfl (own_keep ho7 (more (Below.refl _ _) _)) (some ⟨w7.heap.size, 0, none⟩) 1 1 [d] rfl hsl (by omega) (by simp; omega) ?_; intro v' w' hown' hg hat)
      have hA8 : Below w7.heap.size w7 (w7.alloc (.cells #[.int .u32 (d : Int)] 23)) := more (Below.refl _ _) _
      have ho8 := own_keep ho7 hA8
      have hI8 := hI7'.stay hA8
      have hc8 := cellStay hc7 hA8
      have hz8 := (hA8.frozen (World.block_lt_of_cell? w7 _ hc7)).trans hz7
      have W8 := next W7 hA8
      have hrow := ho8.lt
      have hI9 := in_row hI8 hg (fun e => by have := (hrow _ e).1; omega) hne
      have hc9 := hg.cell hc8 (fun e => by have := (hrow _ e.symm).1; simp at this; omega)
      have hz9 := (World.frozen?_of_block (hg.block w.heap.size (World.block_lt_of_cell? _ _ hc8) (fun e => by have := (hrow _ e.symm).1; omega))).trans hz8
      have W9 := grownOwn W8 ho8 (by omega) hg
      have hs9 := hg.size
      simp only [World.size_alloc] at hs9
      have hZ9 := hI9.zc
      have hR := bgRsh_any (w.heap.size + 1) w'.heap.size (w.heap.size + 1) (w.heap.size + 1) 32 y w' hZ9 (Nat.le_refl _) ⟨an, kn, cn, by rw [nonneg_nat, Int.natAbs_natCast]; exact hI9⟩ (by omega) (by decide)
      rw [show ((32 : Nat) : Int) = 32 from rfl, HQ.out] at hR
      have hlt' : ∀ g, v'.ownBlock = some g → w.heap.size + 2 ≤ g ∧ g < w'.heap.size := fun g hg => hown'.lt g hg
      rw [← HTK.out] at hown'
      clear hsl hI8 hc8 hz8 ho8 ho7 hI7' hc7 hz7 W7 W8 hA8 hg hat hne hrow
      go_wp2_with fail
      refine hR.mono ?_
      rintro e w10 hS
      obtain ⟨ao, k, c, w11, rfl, hb11, hF, hn11, rfl⟩ := hS
      rw [nonneg_nat, Int.natAbs_natCast] at *
      have Z11 := hZ9.stay hb11
      have I12 := setIn_in Z11 false (hF.mono (by omega)) hn11 (Nat.le_refl (w.heap.size + 1))
      have G12 := setIn_grown w11 (w.heap.size + 1) false (.slice ao k c)
      have o12 := World.ownsRow.kept (own_keep hown' hb11) G12 (.inr (fun e => by have := (hlt' _ e).1; omega))
      have c12 := G12.cell (cellStay hc9 hb11) (fun e => by injection e with e; have e2 : w.heap.size = w.heap.size + 1 := e; omega)
      have z12 := (World.frozen?_of_block (G12.block w.heap.size (World.block_lt_of_cell? _ _ (cellStay hc9 hb11)) (fun e => by injection e with e; omega))).trans ((hb11.frozen (World.block_lt_of_cell? w' _ hc9)).trans hz9)
      have W12 := (next W9 hb11).grown G12 (next W9 hb11).size (fun k hk => by cases hk; exact Nat.le_succ _)
      have hs12 := G12.size
      have hs11 := hb11.size
      have hne12 : ∀ g, v'.ownBlock = some g → blkOf ao ≠ some g := fun g hg => fr_ne hF (hlt' g hg).2
      have hlen : lenV v' = i + 1 := by
        rcases hown'.2 with ⟨rfl, h⟩ | ⟨g, cap, cur, rfl, _⟩
        · exact absurd h (by omega)
        · rfl
      have HLEN := Lib.hid hlen
      clear hlen
      generalize setIn w11 (w.heap.size + 1) false (.slice ao k c) = w12 at *
      clear hR hZ9 hb11 hF hn11 Z11 G12 hown' hI9 hc9 hz9 W9
      go_wp2
      exact ⟨⟨i + 1, ao, k, c, hil, HLEN.out, o12, I12, hne12, c12, z12, by omega, W12⟩, by rw [HLEN.out, HV.out]; omega⟩

end Go.Proofs.YtaddnoneoflimaaGreatDoor

/-
  Plain: a fraction rounded to a whole number, and to a form's float. No program in sight.
-/
namespace Go.Lb

open Go.RowKit Go.Proofs.YtaddnoneoflimaaGreatDoor

/-- Does the number farther from nought stand for what lies between? h: where it lies against the middle. -/
def mdB (mode : Nat) (neg odd : Bool) (h : Int) : Bool :=
  if mode = 0 then decide (0 < h ∨ h = 0 ∧ odd = true) else if mode = 1 then decide (0 ≤ h) else if mode = 2 then false else if mode = 3 then !neg else neg

/-- N by D rounded to a whole number. -/
def rdN (N D : Nat) (neg : Bool) (mode : Nat) : Nat :=
  if N % D = 0 then N / D else N / D + (if mdB mode neg (decide (N / D % 2 = 1)) (cmpN (2 * (N % D)) D) = true then 1 else 0)

/-- Is it a whole number? -/
def exB (N D : Nat) : Bool := decide (N % D = 0)

theorem div_same {N D N' D' : Nat} (hD : 0 < D) (hD' : 0 < D') (h : N * D' = N' * D) : N / D = N' / D' := by
  have one : ∀ {N D N' D' : Nat}, 0 < D → 0 < D' → N * D' = N' * D → N / D ≤ N' / D' := by
    intro N D N' D' hD hD' h
    refine (Nat.le_div_iff_mul_le hD').2 ?_
    have h1 : N / D * D ≤ N := Nat.div_mul_le_self N D
    have h2 : N / D * D' * D ≤ N' * D := by
      rw [← h, Nat.mul_right_comm]
      exact Nat.mul_le_mul_right _ h1
    exact Nat.le_of_mul_le_mul_right h2 hD
  exact Nat.le_antisymm (one hD hD' h) (one hD' hD h.symm)

theorem mod_same {N D N' D' : Nat} (hD : 0 < D) (hD' : 0 < D') (h : N * D' = N' * D) : N % D * D' = N' % D' * D := by
  have hq := div_same hD hD' h
  have e1 := Nat.div_add_mod N D
  have e2 := Nat.div_add_mod N' D'
  rw [← hq] at e2
  have h1 : (D * (N / D) + N % D) * D' = (D' * (N / D) + N' % D') * D := by rw [e1, e2, h]
  rw [Nat.add_mul, Nat.add_mul, Nat.mul_right_comm D, Nat.mul_right_comm D' (N / D) D, Nat.mul_comm D D'] at h1
  omega

theorem cmp_mul {a b c : Nat} (hc : 0 < c) : cmpN (a * c) (b * c) = cmpN a b := by
  unfold cmpN
  have h1 : a * c < b * c ↔ a < b := Nat.mul_lt_mul_right hc
  have h2 : b * c < a * c ↔ b < a := Nat.mul_lt_mul_right hc
  simp only [h1, h2]

theorem cmp_same {N D N' D' : Nat} (hD : 0 < D) (hD' : 0 < D') (h : N * D' = N' * D) : cmpN (2 * (N % D)) D = cmpN (2 * (N' % D')) D' := by
  have hm := mod_same hD hD' h
  rw [← cmp_mul (a := 2 * (N % D)) (b := D) hD', ← cmp_mul (a := 2 * (N' % D')) (b := D') hD, Nat.mul_assoc, hm, ← Nat.mul_assoc, Nat.mul_comm D' D]

theorem ex_same {N D N' D' : Nat} (hD : 0 < D) (hD' : 0 < D') (h : N * D' = N' * D) : exB N D = exB N' D' := by
  have hm := mod_same hD hD' h
  unfold exB
  by_cases h0 : N % D = 0
  · rw [h0, Nat.zero_mul] at hm
    have : N' % D' = 0 := by
      rcases Nat.mul_eq_zero.1 hm.symm with h1 | h1
      · exact h1
      · omega
    rw [decide_eq_true h0, decide_eq_true this]
  · have : N' % D' ≠ 0 := fun h1 => by
      rw [h1, Nat.zero_mul] at hm
      rcases Nat.mul_eq_zero.1 hm with h2 | h2
      · exact h0 h2
      · omega
    rw [decide_eq_false h0, decide_eq_false this]

theorem rd_same {N D N' D' : Nat} (hD : 0 < D) (hD' : 0 < D') (h : N * D' = N' * D) (neg : Bool) (mode : Nat) : rdN N D neg mode = rdN N' D' neg mode := by
  have h1 := ex_same hD hD' h
  have h2 := div_same hD hD' h
  have h3 := cmp_same hD hD' h
  unfold exB at h1
  unfold rdN
  rw [h2, h3]
  by_cases h0 : N % D = 0
  · rw [if_pos h0, if_pos]
    rw [decide_eq_true h0] at h1
    exact of_decide_eq_true h1.symm
  · have h4 : ¬ N' % D' = 0 := by
      rw [decide_eq_false h0] at h1
      exact of_decide_eq_false h1.symm
    rw [if_neg h0, if_neg h4]

theorem rd_ge (N D : Nat) (neg : Bool) (mode : Nat) : N / D ≤ rdN N D neg mode := by
  unfold rdN
  split
  · exact Nat.le_refl _
  · exact Nat.le_add_right _ _

theorem rd_le (N D : Nat) (neg : Bool) (mode : Nat) : rdN N D neg mode ≤ N / D + 1 := by
  unfold rdN
  split
  · omega
  · split <;> omega

/-- Times two to the power of k, as two numbers. -/
def scN (N : Nat) (k : Int) : Nat := N * 2 ^ k.toNat

def scD (D : Nat) (k : Int) : Nat := D * 2 ^ (-k).toNat

theorem scD_pos {D : Nat} (h : 0 < D) (k : Int) : 0 < scD D k := Nat.mul_pos h (Nat.two_pow_pos _)

/-- The same number times 2^k: one more power. -/
theorem sc_step (N D : Nat) (k : Int) (j : Nat) : scN N (k + j) * scD D k = scN N k * 2 ^ j * scD D (k + j) := by
  unfold scN scD
  by_cases h1 : 0 ≤ k
  · have e1 : (k + j).toNat = k.toNat + j := by omega
    have e2 : (-k).toNat = 0 := by omega
    have e3 : (-(k + j)).toNat = 0 := by omega
    rw [e1, e2, e3, Nat.pow_add, ← Nat.mul_assoc N]
  · by_cases h2 : 0 ≤ k + j
    · have e1 : j = (k + j).toNat + (-k).toNat := by omega
      have e2 : k.toNat = 0 := by omega
      have e3 : (-(k + j)).toNat = 0 := by omega
      rw [e2, e3]
      have e4 : 2 ^ j = 2 ^ (k + j).toNat * 2 ^ (-k).toNat := by rw [← Nat.pow_add, ← e1]
      rw [e4, Nat.pow_zero, Nat.mul_one, Nat.mul_one]
      generalize 2 ^ (k + j).toNat = A
      generalize 2 ^ (-k).toNat = B
      rw [Nat.mul_assoc, Nat.mul_assoc, Nat.mul_assoc, Nat.mul_comm D B]
    · have e1 : (-k).toNat = (-(k + j)).toNat + j := by omega
      have e2 : k.toNat = 0 := by omega
      have e3 : (k + j).toNat = 0 := by omega
      rw [e1, e2, e3, Nat.pow_add, Nat.pow_zero, Nat.mul_one, Nat.mul_assoc, ← Nat.mul_assoc D, Nat.mul_comm (D * 2 ^ _) (2 ^ j)]

/-- How many bits a number has. -/
def blN (N : Nat) : Nat := szN (limbs N)

theorem bl_spec {N : Nat} (h : N ≠ 0) : 1 ≤ blN N ∧ 2 ^ (blN N - 1) ≤ N ∧ N < 2 ^ blN N := by
  have hf := fine_limbs N
  have hn : (limbs N).length ≠ 0 := fun hh => h (by rw [← val_limbs' N]; exact (val_zero hf).2 hh)
  have := sz_fine hf hn
  rwa [val_limbs'] at this

/-- The exponent of two of the highest bit. -/
def LgP (N D : Nat) (e : Int) : Prop := scD D (-e) ≤ scN N (-e) ∧ scN N (-e) < 2 * scD D (-e)

def lgE (N D : Nat) : Int :=
  if scN N (-((blN N : Int) - blN D)) < scD D (-((blN N : Int) - blN D)) then (blN N : Int) - blN D - 1 else (blN N : Int) - blN D

theorem lg_spec {N D : Nat} (hN : N ≠ 0) (hD : D ≠ 0) : LgP N D (lgE N D) := by
  obtain ⟨a1, a2, a3⟩ := bl_spec hN
  obtain ⟨b1, b2, b3⟩ := bl_spec hD
  generalize ha : blN N = a at a1 a2 a3
  generalize hb : blN D = b at b1 b2 b3
  have hA : scN N (-((a : Int) - b)) < 2 * scD D (-((a : Int) - b)) := by
    unfold scN scD
    by_cases hab : b ≤ a
    · have e1 : (-((a : Int) - b)).toNat = 0 := by omega
      have e2 : (- -((a : Int) - b)).toNat = a - b := by omega
      rw [e1, e2, Nat.pow_zero, Nat.mul_one]
      have e3 : 2 ^ a = 2 * (2 ^ (b - 1) * 2 ^ (a - b)) := by rw [← Nat.pow_add, ← Nat.pow_succ', show (b - 1 + (a - b)).succ = a by omega]
      have := Nat.mul_le_mul_right (2 ^ (a - b)) b2
      omega
    · have e1 : (-((a : Int) - b)).toNat = b - a := by omega
      have e2 : (- -((a : Int) - b)).toNat = 0 := by omega
      rw [e1, e2, Nat.pow_zero, Nat.mul_one]
      have e3 : 2 ^ b = 2 ^ a * 2 ^ (b - a) := by rw [← Nat.pow_add, show a + (b - a) = b by omega]
      have e4 : 2 ^ b = 2 * 2 ^ (b - 1) := by rw [← Nat.pow_succ', show (b - 1).succ = b by omega]
      have := Nat.mul_lt_mul_of_pos_right a3 (Nat.two_pow_pos (b - a))
      omega
  have hB : scD D (-((a : Int) - b - 1)) ≤ scN N (-((a : Int) - b - 1)) := by
    unfold scN scD
    by_cases hab : b + 1 ≤ a
    · have e1 : (-((a : Int) - b - 1)).toNat = 0 := by omega
      have e2 : (- -((a : Int) - b - 1)).toNat = a - b - 1 := by omega
      rw [e1, e2, Nat.pow_zero, Nat.mul_one]
      have e3 : 2 ^ (a - 1) = 2 ^ b * 2 ^ (a - b - 1) := by rw [← Nat.pow_add, show b + (a - b - 1) = a - 1 by omega]
      have := Nat.mul_le_mul_right (2 ^ (a - b - 1)) (Nat.le_of_lt b3)
      omega
    · have e1 : (-((a : Int) - b - 1)).toNat = b + 1 - a := by omega
      have e2 : (- -((a : Int) - b - 1)).toNat = 0 := by omega
      rw [e1, e2, Nat.pow_zero, Nat.mul_one]
      have e3 : 2 ^ b = 2 ^ (a - 1) * 2 ^ (b + 1 - a) := by rw [← Nat.pow_add, show a - 1 + (b + 1 - a) = b by omega]
      have := Nat.mul_le_mul_right (2 ^ (b + 1 - a)) a2
      omega
  unfold lgE
  rw [ha, hb]
  split
  · rename_i hlt
    refine ⟨hB, ?_⟩
    have hs := sc_step N D (-((a : Int) - b)) 1
    rw [show -((a : Int) - b) + (1 : Nat) = -((a : Int) - b - 1) by omega, Nat.pow_one] at hs
    have hp := scD_pos (Nat.pos_of_ne_zero hD) (-((a : Int) - b))
    have hp2 := scD_pos (Nat.pos_of_ne_zero hD) (-((a : Int) - b - 1))
    have h1 : scN N (-((a : Int) - b)) * 2 * scD D (-((a : Int) - b - 1)) < scD D (-((a : Int) - b)) * 2 * scD D (-((a : Int) - b - 1)) := Nat.mul_lt_mul_of_pos_right (by omega) hp2
    rw [← hs, Nat.mul_assoc (scD D (-((a : Int) - b))), Nat.mul_comm (scD D (-((a : Int) - b)))] at h1
    exact Nat.lt_of_mul_lt_mul_right h1
  · rename_i hlt
    exact ⟨by omega, hA⟩

theorem lg_lt {N D : Nat} (hD : D ≠ 0) {e e' : Int} (h : LgP N D e) (h' : LgP N D e') (hl : e < e') : False := by
  obtain ⟨d, hd⟩ : ∃ d : Nat, e' = e + 1 + d := ⟨(e' - e - 1).toNat, by omega⟩
  have hs := sc_step N D (-e') (1 + d)
  rw [show -e' + ((1 + d : Nat) : Int) = -e by omega] at hs
  have hp := scD_pos (Nat.pos_of_ne_zero hD) (-e')
  have hp2 := scD_pos (Nat.pos_of_ne_zero hD) (-e)
  have h1 : scD D (-e') * 2 ^ (1 + d) * scD D (-e) ≤ scN N (-e) * scD D (-e') := by
    rw [hs]
    exact Nat.mul_le_mul_right _ (Nat.mul_le_mul_right _ h'.1)
  rw [Nat.mul_assoc, Nat.mul_comm (scN N (-e))] at h1
  have h2 := Nat.le_of_mul_le_mul_left h1 hp
  have h3 : 2 ≤ 2 ^ (1 + d) := by rw [Nat.add_comm, Nat.pow_succ]; have := Nat.two_pow_pos d; omega
  have h4 := Nat.mul_le_mul_right (scD D (-e)) h3
  have := h.2
  omega

theorem lg_uniq {N D : Nat} (hD : D ≠ 0) {e e' : Int} (h : LgP N D e) (h' : LgP N D e') : e = e' := by
  rcases Int.lt_trichotomy e e' with hl | hl | hl
  · exact absurd (lg_lt hD h h' hl) id
  · exact hl
  · exact absurd (lg_lt hD h' h hl) id

/-- Two fractions that are one number: so are they times 2^k. -/
theorem sc_cross {N D N' D' : Nat} (h : N * D' = N' * D) (k : Int) : scN N k * scD D' k = scN N' k * scD D k := by
  unfold scN scD
  generalize 2 ^ k.toNat = A
  generalize 2 ^ (-k).toNat = B
  rw [Nat.mul_mul_mul_comm, h, Nat.mul_mul_mul_comm]

theorem lg_same {N D N' D' : Nat} (hD : D ≠ 0) (hD' : D' ≠ 0) (h : N * D' = N' * D) {e : Int} (hl : LgP N D e) : LgP N' D' e := by
  have hc := sc_cross h (-e)
  have hp := scD_pos (Nat.pos_of_ne_zero hD) (-e)
  have hp2 := scD_pos (Nat.pos_of_ne_zero hD') (-e)
  obtain ⟨h1, h2⟩ := hl
  constructor
  · have := Nat.mul_le_mul_right (scD D' (-e)) h1
    rw [hc, Nat.mul_comm] at this
    exact Nat.le_of_mul_le_mul_right this hp
  · have := Nat.mul_lt_mul_of_pos_right h2 hp2
    rw [hc, Nat.mul_assoc, Nat.mul_comm (scD D (-e)), ← Nat.mul_assoc] at this
    exact Nat.lt_of_mul_lt_mul_right this

theorem lgE_same {N D N' D' : Nat} (hN : N ≠ 0) (hD : D ≠ 0) (hN' : N' ≠ 0) (hD' : D' ≠ 0) (h : N * D' = N' * D) : lgE N D = lgE N' D' :=
  lg_uniq hD' (lg_same hD hD' h (lg_spec hN hD)) (lg_spec hN' hD')

/-- A number times 2^(F-e), its highest bit at e: it has F+1 bits ahead of the point. -/
theorem sc_norm {N D : Nat} (hD : D ≠ 0) {e : Int} (h : LgP N D e) (F : Nat) : 2 ^ F * scD D (F - e) ≤ scN N (F - e) ∧ scN N (F - e) < 2 ^ (F + 1) * scD D (F - e) := by
  have hs := sc_step N D (-e) F
  rw [show -e + (F : Int) = F - e by omega] at hs
  have hp := scD_pos (Nat.pos_of_ne_zero hD) (-e)
  have hp2 := scD_pos (Nat.pos_of_ne_zero hD) ((F : Int) - e)
  obtain ⟨h1, h2⟩ := h
  generalize scD D (-e) = A at hs hp h1 h2
  generalize scN N (-e) = B at hs h1 h2
  generalize scN N (F - e) = X at hs ⊢
  generalize scD D (F - e) = Y at hs hp2 ⊢
  have hF := Nat.two_pow_pos F
  constructor
  · have h3 : 2 ^ F * Y * A ≤ X * A := by
      rw [hs, Nat.mul_comm (2 ^ F * Y), ← Nat.mul_assoc]
      exact Nat.mul_le_mul_right _ (Nat.mul_le_mul_right _ h1)
    exact Nat.le_of_mul_le_mul_right h3 hp
  · have h3 : X * A < 2 ^ (F + 1) * Y * A := by
      rw [hs, Nat.pow_succ, Nat.mul_assoc, Nat.mul_assoc (2 ^ F * 2), Nat.mul_comm Y A, Nat.mul_comm (2 ^ F) 2, ← Nat.mul_assoc B, ← Nat.mul_assoc (2 * 2 ^ F), Nat.mul_comm (2 * 2 ^ F) A, ← Nat.mul_assoc A, Nat.mul_comm A 2]
      exact Nat.mul_lt_mul_of_pos_right (Nat.mul_lt_mul_of_pos_right h2 hF) hp2
    exact Nat.lt_of_mul_lt_mul_right h3

theorem sc_low {N D : Nat} (hD : D ≠ 0) {e low : Int} (h : LgP N D e) (hl : e < low) (F : Nat) : scN N (F - low) < 2 ^ F * scD D (F - low) := by
  obtain ⟨d, hd⟩ : ∃ d : Nat, low = e + (d + 1 : Nat) := ⟨(low - e - 1).toNat, by omega⟩
  have hn := (sc_norm hD h F).2
  have hs := sc_step N D (F - low) (d + 1)
  rw [show (F : Int) - low + ((d + 1 : Nat) : Int) = F - e by omega] at hs
  have hp := scD_pos (Nat.pos_of_ne_zero hD) ((F : Int) - low)
  have hp2 := scD_pos (Nat.pos_of_ne_zero hD) ((F : Int) - e)
  generalize scD D (F - low) = A at hs hp ⊢
  generalize scN N (F - low) = B at hs ⊢
  generalize scN N (F - e) = X at hs hn
  generalize scD D (F - e) = Y at hs hn hp2
  have h1 : B * 2 ^ (d + 1) * Y < 2 ^ (F + 1) * A * Y := by
    rw [← hs, Nat.mul_assoc, Nat.mul_comm A Y, ← Nat.mul_assoc]
    exact Nat.mul_lt_mul_of_pos_right hn hp
  have h2 := Nat.lt_of_mul_lt_mul_right h1
  have h3 : B * 2 ≤ B * 2 ^ (d + 1) := Nat.mul_le_mul_left _ (by rw [Nat.pow_succ]; have := Nat.two_pow_pos d; omega)
  have h4 : 2 ^ (F + 1) * A = 2 ^ F * A * 2 := by rw [Nat.pow_succ, Nat.mul_right_comm]
  omega

/-- A form's numbers. -/
def bsN (E : Nat) : Nat := 2 ^ (E - 1) - 1

def infN (E F : Nat) : Nat := 2 ^ (E + F) - 2 ^ F

def lwE (E N D : Nat) : Int := max (lgE N D) (1 - (bsN E : Int))

/-- The whole number that a number above nought is rounded to, in the form's unit; whether it is that. -/
def sgM (E F N D : Nat) (neg : Bool) (mode : Nat) : Nat := rdN (scN N (F - lwE E N D)) (scD D (F - lwE E N D)) neg mode

def sgX (E F N D : Nat) : Bool := exB (scN N (F - lwE E N D)) (scD D (F - lwE E N D))

/-- The like as if exponents had no lower end. -/
def sgK (F N D : Nat) (neg : Bool) (mode : Nat) : Nat := rdN (scN N (F - lgE N D)) (scD D (F - lgE N D)) neg mode

/-- The bits, where it is no overflow. -/
def sgB (E F N D : Nat) (neg : Bool) (mode : Nat) : Nat := sgM E F N D neg mode + (lwE E N D + bsN E - 1).toNat * 2 ^ F

def ovB (E F N D : Nat) (neg : Bool) (mode : Nat) : Bool := decide ((bsN E : Int) < lwE E N D ∨ infN E F ≤ sgB E F N D neg mode)

def tiny (E F N D : Nat) (neg : Bool) (mode : Nat) : Bool := decide (lgE N D < 1 - (bsN E : Int) ∧ (lgE N D < -(bsN E : Int) ∨ blN (sgK F N D neg mode) ≤ F + 1))

/-- Does a mode stay finite beyond the greatest float? -/
def stayB (neg : Bool) (mode : Nat) : Bool := decide (mode = 2 ∨ mode = 3 ∧ neg = true ∨ mode = 4 ∧ neg = false)

/-- The float to which N by D is rounded (without its sign), and the flags. -/
def flB (E F N D : Nat) (neg : Bool) (mode : Nat) : Nat := if ovB E F N D neg mode = true then (if stayB neg mode = true then infN E F - 1 else infN E F) else sgB E F N D neg mode

def flG (E F N D : Nat) (neg : Bool) (mode : Nat) : Nat := if ovB E F N D neg mode = true then 3 else if sgX E F N D = true then 0 else if tiny E F N D neg mode = true then 5 else 1

theorem lw_cases (E N D : Nat) : lwE E N D = lgE N D ∨ lgE N D < lwE E N D ∧ lwE E N D = 1 - (bsN E : Int) := by
  unfold lwE
  omega

theorem lw_ge (E N D : Nat) : 1 - (bsN E : Int) ≤ lwE E N D := by unfold lwE; omega

theorem sg_le {E F N D : Nat} (hN : N ≠ 0) (hD : D ≠ 0) (neg : Bool) (mode : Nat) : sgM E F N D neg mode ≤ 2 ^ (F + 1) := by
  have hl := lg_spec hN hD
  have hp := scD_pos (Nat.pos_of_ne_zero hD) (F - lwE E N D)
  have hr := rd_le (scN N (F - lwE E N D)) (scD D (F - lwE E N D)) neg mode
  have hq : scN N (F - lwE E N D) / scD D (F - lwE E N D) < 2 ^ (F + 1) := by
    rw [Nat.div_lt_iff_lt_mul hp]
    rcases lw_cases E N D with h | ⟨h, _⟩
    · rw [h]; exact (sc_norm hD hl F).2
    · have := sc_low hD hl h F
      have h2 : 2 ^ F * scD D (F - lwE E N D) ≤ 2 ^ (F + 1) * scD D (F - lwE E N D) := Nat.mul_le_mul_right _ (Nat.pow_le_pow_right (by decide) (by omega))
      omega
  unfold sgM
  omega

theorem sg_ge {E F N D : Nat} (hN : N ≠ 0) (hD : D ≠ 0) (neg : Bool) (mode : Nat) (h : lwE E N D = lgE N D) : 2 ^ F ≤ sgM E F N D neg mode := by
  have hl := lg_spec hN hD
  have hp := scD_pos (Nat.pos_of_ne_zero hD) (F - lwE E N D)
  refine Nat.le_trans ?_ (rd_ge _ _ neg mode)
  rw [Nat.le_div_iff_mul_le hp, h]
  exact (sc_norm hD hl F).1

theorem sgK_bounds {F N D : Nat} (hN : N ≠ 0) (hD : D ≠ 0) (neg : Bool) (mode : Nat) : 2 ^ F ≤ sgK F N D neg mode ∧ sgK F N D neg mode ≤ 2 ^ (F + 1) := by
  have hl := lg_spec hN hD
  have hp := scD_pos (Nat.pos_of_ne_zero hD) (F - lgE N D)
  have hr := rd_le (scN N (F - lgE N D)) (scD D (F - lgE N D)) neg mode
  obtain ⟨h1, h2⟩ := sc_norm hD hl F
  constructor
  · refine Nat.le_trans ?_ (rd_ge _ _ neg mode)
    rw [Nat.le_div_iff_mul_le hp]
    exact h1
  · have hq : scN N (F - lgE N D) / scD D (F - lgE N D) < 2 ^ (F + 1) := by
      rw [Nat.div_lt_iff_lt_mul hp]
      exact h2
    unfold sgK
    omega

end Go.Lb

