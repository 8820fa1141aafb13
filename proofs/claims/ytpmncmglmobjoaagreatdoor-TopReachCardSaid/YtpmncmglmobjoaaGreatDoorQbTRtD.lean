/-
  Contracts: SetBytes, Bytes of big; limbs, whole of ratio. Contracts: Bytes of big; limbs, whole of ratio. Contracts: whole, limbs, long, told of ratio. Contracts: long, told, seen of ratio.
-/
import Derived.Test.YtpmncmglmobjoaaGreatDoorQbTBgI
import Derived.StillTailTactics
set_option maxHeartbeats 4000000
set_option maxRecDepth 100000
namespace Go.Proofs.YtpmncmglmobjoaaGreatDoor
open Go.RowKit Go.Lb
theorem bgSetBytes_any (b base : Nat) (ao : Option Addr) (L c n : Nat) (xs : List Nat) (w : World) (hz : Zc w b) (h : By w ao L c xs) (hx : Fine xs) (hn : xs.length = n) (hL : (L + 3) / 4 = n) (hLn : L ≤ 4294967296) (h0 : stgs xs L = List.replicate n 0) (hb : base ≤ w.heap.size) :
 Calls Tryz.prog 159 #[.pointer (some ⟨b, 0, none⟩), .slice ao L c] w (StI 40 b base false (val xs) w) := by
 have hbl := hz.lt
 have hle := h.le
 have hcap := h.cap
 obtain ⟨i0, hi0, hz0, hz1, hz2⟩ := info_parts u32_infoL
 have q1 : ((L : Int) + 3) / 4 = (n : Int) := by omega
 have q2 : ((L : Int) + 3).tdiv 4 = (n : Int) := by rw [Int.tdiv_eq_ediv_of_nonneg (by omega)]; exact q1
 go_enter Tryz.func159, Tryz.ntmps159
 go_wp2_with (at_make; refine wpList_make_full _ rfl _ _ 25 rfl w.heap.size 40 i0 _ 1 Tryz.underlying25 hi0 hz0 hz1 _ _ _ _ n rfl rfl rfl rfl (by rw [hz2]; omega) (by unfold maxLen; omega) (Nat.le_refl _) ?_; intro w1 hown hg1; rw [made_lvs] at hown; have hb1 := (Below.refl w.heap.size w).grown hg1 (Nat.le_refl _) (by simp))
 go_loopw [16] (fun i wr => ∃ k : Nat, k ≤ L ∧ i = .int .i64 (k : Int) ∧ wr.ownsRow w.heap.size 40 1 (.slice (some ⟨w.heap.size, 0, none⟩) n n) n (lvs (stgs xs (L - k))) ∧ Below w.heap.size w wr) (fun i _ => L - (intOf i).toNat)
 case atStart => exact ⟨0, Nat.zero_le _, rfl, by rw [Nat.sub_zero, h0]; exact hown, hb1⟩
 case round =>
  obtain ⟨k, hk, rfl, ho, hbk⟩ := hrel
  by_cases hkL : k < L
  · obtain ⟨t, ht⟩ : ∃ t, L = k + t + 1 := ⟨L - k - 1, by omega⟩
    obtain ⟨bb, rfl, hbb, hc⟩ := (h.below hbk).at_ (by omega)
    have hcell := hc k hkL
    rw [show L - 1 - k = t by omega] at hcell
    have hst := own_cell ho (j := t / 4) (by omega)
    rw [nth_stgs, show L - k = t + 1 by omega, show clp (t + 1) (t / 4) = t % 4 + 1 by unfold clp; omega] at hst
    have hfz := ho.frozenAt (t / 4)
    have k1 : (k : Int) < (L : Int) := by omega
    have k2 : (L : Int) - 1 - (k : Int) = (t : Int) := by omega
    have k3 : (t : Int) / 4 = ((t / 4 : Nat) : Int) := by omega
    have k4 : (t : Int).tdiv 4 = ((t / 4 : Nat) : Int) := by rw [Int.tdiv_eq_ediv_of_nonneg (by omega)]; exact k3
    have k5 : (t : Int) % 4 = ((t % 4 : Nat) : Int) := by omega
    have k6 : (t : Int).tmod 4 = ((t % 4 : Nat) : Int) := by rw [Int.tmod_eq_emod_of_nonneg (by omega)]; exact k5
    obtain ⟨q, hq⟩ : ∃ q, q = t / 4 := ⟨_, rfl⟩
    obtain ⟨m, hm⟩ : ∃ m, m = t % 4 := ⟨_, rfl⟩
    rw [← hq] at hst hfz k3 k4
    rw [← hm] at hst k5 k6
    have hql : q < n := by omega
    have hm4 : m < 4 := by omega
    have i1 : (0 : Int) ≤ (q : Int) := by omega
    have i2 : (q : Int) < (n : Int) := by omega
    have w1 : IntKind.i64.wrap (q : Int) = (q : Int) := IntWalk.i64_in _ (by constructor <;> omega)
    have w2 : IntKind.i64.wrap (m : Int) = (m : Int) := IntWalk.i64_in _ (by constructor <;> omega)
    have w3 : IntKind.i64.wrap (8 * (m : Int)) = 8 * (m : Int) := IntWalk.i64_in _ (by constructor <;> omega)
    have i3 : (0 : Int) ≤ 8 * (m : Int) := by omega
    have E := Lib.hid (or_byte hx.1 hq hm)
    have hoD : wr.drew.ownsRow w.heap.size 40 1 (.slice (some ⟨w.heap.size, 0, none⟩) n n) n (lvs (stgs xs (L - k))) := ho
    obtain ⟨o1, r1⟩ := hoD.stored q (lv (stg (nth xs q) m))
    rw [show L - k = t + 1 by omega, hq, hm, stgs_set xs t (by omega), ← hq, ← hm] at o1
    have o2 : (wr.drew.setCell ⟨w.heap.size, q, none⟩ (lv (stg (nth xs q) m))).ownsRow w.heap.size 40 1 (.slice (some ⟨w.heap.size, 0, none⟩) n n) n (lvs (stgs xs (L - (k + 1)))) := by rw [show L - (k + 1) = t by omega]; exact o1
    have hb3 := (Below.drew hbk).grown r1 hbk.size (by simp)
    have HT := Lib.hid ht
    have HQ := Lib.hid hq
    have HM := Lib.hid hm
    clear ht hq hm k3 k5 hkL o1 r1
    go_wp2
    go_still_tail 13, (by kernel_rfl)
    change wpList _ _ _ _ _ wr.drew
    rw [E.out]
    go_wp2
    exact ⟨⟨k + 1, by omega, by go_num, o2, hb3⟩, by simp [intOf]; omega⟩
  · obtain rfl : k = L := by omega
    rw [Nat.sub_self, stgs_zero] at ho
    have hok := hx.1
    go_wp2_with fail
    refine (bgTrim_own _ ho hok).mono ?_
    rintro e w2 ⟨k2, rfl, hF, rfl⟩
    have hk2 := hF.sl.le
    have hF2 := hF
    go_wp2_with fail
    refine (bgSetWords_any b _ k2 n base (limbs (val xs)) _ (hz.stay hbk) hF.sl (fine_limbs _) (by omega) (Nat.le_trans hb hbk.size)).mono ?_
    rw [val_limbs']
    rintro e w3 ⟨ao, k3, c3, w4, rfl, hb4, hF4, hne, rfl⟩
    go_wp2
    go_ret
    exact ⟨ao, k3, c3, w4, rfl, next hbk hb4, hF4, hne, rfl⟩
theorem u8_infoL : (Tryz.prog.info? 5).map (fun i => (i.zero, i.size, i.bytes)) = some (some (.int .u8 0), 1, 1) := by kernel_rfl
theorem made_bf (n : Nat) : (madeCells (Value.int .u8 0).cells (n * 1)).toList = bf n (fun _ => 0) := by
 rw [← bf_zero]
 refine List.ext_getElem (by simp [madeCells]) fun i h1 h2 => ?_
 simp [madeCells, Value.cells, Nat.mod_one]
theorem szN_len {xs : List Nat} (hok : Ok xs) : szN xs ≤ 32 * xs.length := by
 unfold szN
 split
 · omega
 · have := bitLen_le32 _ (nth_lt hok (xs.length - 1))
   omega
def btk (xs : List Nat) (L k p : Nat) : Nat := if p < k then byt xs (L - 1 - p) else 0
theorem btk_set (xs : List Nat) {L k t : Nat} (ht : L = k + t + 1) : (bf L (btk xs L k)).set k (.int .u8 (byt xs t : Int)) = bf L (btk xs L (k + 1)) := by
 refine bf_set k _ ?_ ?_
 · unfold btk
   rw [if_pos (by omega), show L - 1 - k = t by omega]
 · intro q hq hne
   unfold btk
   by_cases h : q < k
   · rw [if_pos h, if_pos (by omega)]
   · rw [if_neg h, if_neg (by omega)]
theorem byte_cast (x m : Nat) : (x : Int) / 2 ^ (8 * m) % 256 = ((x / 256 ^ m % 256 : Nat) : Int) := by
 rw [show (2 : Int) ^ (8 * m) = ((256 ^ m : Nat) : Int) by rw [Int.pow_mul]; simp]
 omega
theorem bf_put (L : Nat) (f : Nat → Nat) (p v : Nat) : (bf L f).set p (.int .u8 (v : Int)) = bf L (fun q => if q = p then v else f q) :=
 bf_set p v (by simp) (fun q _ hne => by simp [hne])
def wtk (xs : List Nat) (L i p : Nat) : Nat := if L ≤ p + 4 * i then byt xs (L - 1 - p) else 0
theorem wtk_zero (xs : List Nat) (L : Nat) : bf L (fun _ => 0) = bf L (wtk xs L 0) := bf_congr fun p hp => by unfold wtk; rw [if_neg (by omega)]
theorem wtk_full (xs : List Nat) {n : Nat} {p : Nat} : wtk xs (4 * n) n p = byt xs (4 * n - 1 - p) := by unfold wtk; rw [if_pos (by omega)]
theorem wtk_set (xs : List Nat) {L n i : Nat} (hL : L = 4 * n) (hi : i < n) :
 ((((bf L (wtk xs L i)).set (L - 4 * i - 1) (.int .u8 (byt xs (4 * i) : Int))).set (L - 4 * i - 2) (.int .u8 (byt xs (4 * i + 1) : Int))).set (L - 4 * i - 3) (.int .u8 (byt xs (4 * i + 2) : Int))).set (L - 4 * i - 4) (.int .u8 (byt xs (4 * i + 3) : Int)) = bf L (wtk xs L (i + 1)) := by
 rw [bf_put, bf_put, bf_put, bf_put]
 refine bf_congr fun p hp => ?_
 show (if p = L - 4 * i - 4 then _ else if p = L - 4 * i - 3 then _ else if p = L - 4 * i - 2 then _ else if p = L - 4 * i - 1 then _ else wtk xs L i p) = _
 unfold wtk
 by_cases h4 : p = L - 4 * i - 4
 · rw [if_pos h4, if_pos (by omega), show L - 1 - p = 4 * i + 3 by omega]
 rw [if_neg h4]
 by_cases h3 : p = L - 4 * i - 3
 · rw [if_pos h3, if_pos (by omega), show L - 1 - p = 4 * i + 2 by omega]
 rw [if_neg h3]
 by_cases h2 : p = L - 4 * i - 2
 · rw [if_pos h2, if_pos (by omega), show L - 1 - p = 4 * i + 1 by omega]
 rw [if_neg h2]
 by_cases h1 : p = L - 4 * i - 1
 · rw [if_pos h1, if_pos (by omega), show L - 1 - p = 4 * i by omega]
 rw [if_neg h1]
 by_cases h0 : L ≤ p + 4 * i
 · rw [if_pos h0, if_pos (by omega)]
 · rw [if_neg h0, if_neg (by omega)]
theorem byt_word (xs : List Nat) (i m : Nat) (hm : m < 4) : byt xs (4 * i + m) = nth xs i / 256 ^ m % 256 := by
 unfold byt
 rw [show (4 * i + m) / 4 = i by omega, show (4 * i + m) % 4 = m by omega]
theorem stgs_words {xs : List Nat} (hok : Ok xs) {n : Nat} (hn : xs.length = n) : stgs xs (4 * n) = List.replicate n 0 := by
 rw [← hn]
 refine stgs_full xs _ fun j => ?_
 by_cases h : j < xs.length
 · rw [show clp (4 * xs.length) j = 4 by unfold clp; omega]
   exact nth_lt hok j
 · rw [nth_over (by omega)]
   exact Nat.pow_pos (by decide)
theorem byteN_words {xs : List Nat} (hf : Fine xs) : (byteN xs + 3) / 4 = xs.length ∧ stgs xs (byteN xs) = List.replicate xs.length 0 := by
 by_cases h0 : xs.length = 0
 · obtain rfl := List.length_eq_zero_iff.1 h0
   decide
 · have h1 : nth xs (xs.length - 1) ≠ 0 := fine_top hf h0
   have h2 := nth_lt hf.1 (xs.length - 1)
   have h3 := bitLen_le32 _ h2
   obtain ⟨h4, _, h5⟩ := Lib.bitLenAux_bounds 64 (nth xs (xs.length - 1)) (by omega) h1
   change 1 ≤ Lib.bitLen (nth xs (xs.length - 1)) at h4
   change nth xs (xs.length - 1) < 2 ^ Lib.bitLen (nth xs (xs.length - 1)) at h5
   have hb : byteN xs = (32 * (xs.length - 1) + Lib.bitLen (nth xs (xs.length - 1)) + 7) / 8 := by unfold byteN; rw [szN_pos h0]
   refine ⟨by omega, stgs_full xs _ fun j => ?_⟩
   by_cases h : j < xs.length - 1
   · rw [show clp (byteN xs) j = 4 by unfold clp; omega]
     exact nth_lt hf.1 j
   · by_cases hj : j = xs.length - 1
     · subst hj
       have h6 : clp (byteN xs) (xs.length - 1) = (Lib.bitLen (nth xs (xs.length - 1)) + 7) / 8 := by unfold clp; omega
       rw [h6]
       refine Nat.lt_of_lt_of_le h5 ?_
       rw [show (256 : Nat) = 2 ^ 8 from rfl, ← Nat.pow_mul]
       exact Nat.pow_le_pow_right (by decide) (by omega)
     · rw [nth_over (by omega)]
       exact Nat.pow_pos (by decide)
theorem bgBytes_any (b base : Nat) (s : Bool) (ao : Option Addr) (k c N L : Nat) (w : World) (h : In 40 w base b s ao k c N) (hk : k ≤ 4194304) (hL : L = byteN (limbs N)) :
 Calls Tryz.prog 161 #[.pointer (some ⟨b, 0, none⟩)] w fun e w' => e = .returned (.slice (some ⟨w.heap.size, 0, none⟩) L L) ∧ By w' (some ⟨w.heap.size, 0, none⟩) L L (limbs N) ∧ Below w.heap.size w w' := by
 have hbl := h.lt
 have hlen := h.fr.sl.len
 have hsl := h.fr.sl
 obtain ⟨i0, hi0, hz0, hz1, hz2⟩ := info_parts u8_infoL
 have hC := bgIBitLen_any b base s ao k c N w h (by omega)
 obtain ⟨c0, c1, _, _, _, _, _⟩ := h
 obtain ⟨xs, hxs⟩ : ∃ xs, xs = limbs N := ⟨_, rfl⟩
 rw [← hxs] at hL hlen hsl hC ⊢
 have hsz : szN xs ≤ 32 * k := by have := szN_len (hxs.symm ▸ ok_limbs N : Ok xs); omega
 have hL2 : L ≤ 4 * k := by rw [hL]; unfold byteN; omega
 have q1 : ((szN xs : Int) + 7) / 8 = (L : Int) := by rw [hL]; unfold byteN; omega
 have q2 : ((szN xs : Int) + 7).tdiv 8 = (L : Int) := by rw [Int.tdiv_eq_ediv_of_nonneg (by omega)]; exact q1
 clear hxs hL
 obtain ⟨Z, hZ⟩ : ∃ Z, Z = szN xs := ⟨_, rfl⟩
 rw [← hZ] at hC q1 q2 hsz
 clear hZ
 have hZ : Z ≤ 134217728 := by omega
 go_enter Tryz.func161, Tryz.ntmps161
 go_wp2_with (first
  | (go_at_call 49; refine hC.mono ?_; rintro e w1 ⟨rfl, rfl⟩)
  | (at_make; (refine wpList_make_full _ rfl _ _ 185 rfl w.heap.size 5 i0 _ 1 Tryz.underlying185 hi0 hz0 hz1 _ _ _ _ L rfl rfl rfl rfl (by rw [hz2]; omega) (by unfold maxLen; omega) (Nat.le_refl _) ?_; intro w1 hown hg1; rw [made_bf] at hown; have hb1 := (Below.refl w.heap.size w).grown hg1 (Nat.le_refl _) (by simp))))
 clear hC q1 q2
 go_loopw [13] (fun i wr => ∃ j : Nat, j ≤ L ∧ i = .int .i64 (j : Int) ∧ wr.ownsRow w.heap.size 5 1 (.slice (some ⟨w.heap.size, 0, none⟩) L L) L (bf L (btk xs L j)) ∧ Below w.heap.size w wr) (fun i _ => L - (intOf i).toNat)
 case atStart => exact ⟨0, Nat.zero_le _, rfl, hown, hb1⟩
 case round =>
  obtain ⟨j, hj, rfl, ho, hbj⟩ := hrel
  by_cases hjL : j < L
  · obtain ⟨t, ht⟩ : ∃ t, L = j + t + 1 := ⟨L - j - 1, by omega⟩
    obtain ⟨bb, o, rfl, hbb, hc⟩ := (hsl.below hbj).at_ (by omega)
    have hcell := hc (t / 4) (by omega)
    have hbs := btk_set xs ht
    have hfz := ho.frozenAt j
    have c0' := cellStay c0 hbj
    have c1' := cellStay c1 hbj
    have k1 : (j : Int) < (L : Int) := by omega
    have k2 : (L : Int) - 1 - (j : Int) = (t : Int) := by omega
    have k3 : (t : Int) / 4 = ((t / 4 : Nat) : Int) := by omega
    have k4 : (t : Int).tdiv 4 = ((t / 4 : Nat) : Int) := by rw [Int.tdiv_eq_ediv_of_nonneg (by omega)]; exact k3
    have k5 : (t : Int) % 4 = ((t % 4 : Nat) : Int) := by omega
    have k6 : (t : Int).tmod 4 = ((t % 4 : Nat) : Int) := by rw [Int.tmod_eq_emod_of_nonneg (by omega)]; exact k5
    have hst := (World.ownsRow.cellAt ho j (by omega)).trans (bf_get _ _ hjL)
    have hby : byt xs t = nth xs (t / 4) / 256 ^ (t % 4) % 256 := rfl
    obtain ⟨q, hq⟩ : ∃ q, q = t / 4 := ⟨_, rfl⟩
    obtain ⟨m, hm⟩ : ∃ m, m = t % 4 := ⟨_, rfl⟩
    rw [← hq] at hcell k3 k4 hby
    rw [← hm] at k5 k6 hby
    have hql : q < k := by omega
    have hm4 : m < 4 := by omega
    have E := byte_cast (nth xs q) m
    rw [← hby] at E
    have hE := Lib.hid E
    clear E hby
    have i1 : (0 : Int) ≤ (q : Int) := by omega
    have i2 : (q : Int) < (k : Int) := by omega
    have w1 : IntKind.i64.wrap (q : Int) = (q : Int) := IntWalk.i64_in _ (by constructor <;> omega)
    have w2 : IntKind.i64.wrap (m : Int) = (m : Int) := IntWalk.i64_in _ (by constructor <;> omega)
    have w3 : IntKind.i64.wrap (8 * (m : Int)) = 8 * (m : Int) := IntWalk.i64_in _ (by constructor <;> omega)
    have i3 : (0 : Int) ≤ 8 * (m : Int) := by omega
    obtain ⟨o1, r1⟩ := ho.stored j (.int .u8 (byt xs t : Int))
    rw [hbs] at o1
    have hb3 := hbj.grown r1 hbj.size (by simp)
    have HT := Lib.hid ht
    have HQ := Lib.hid hq
    have HM := Lib.hid hm
    clear ht hq hm k3 k5 hjL r1
    go_wp2
    rw [hE.out]
    exact ⟨⟨j + 1, by omega, by go_num, o1, hb3⟩, by simp [intOf]; omega⟩
  · obtain rfl : j = L := by omega
    go_wp2
    go_ret
    refine ⟨rfl, ⟨Nat.le_refl _, by omega, fun _ => ⟨_, rfl, (ho.lt _ rfl).2, fun p hp => ?_⟩⟩, hbj⟩
    rw [ho.cellAt p (by omega), bf_get _ _ hp]
    unfold btk
    rw [if_pos hp]
theorem rtWhole_any (ao : Option Addr) (n c : Nat) (xs : List Nat) (w : World) (h : Sl w ao n c xs) (hx : Fine xs) (hn : n ≤ 16384) :
 Calls Tryz.prog 121 #[.agg #[.slice ao n c]] w (MkI 40 false (val xs) w) := by
 have hlen := h.len
 obtain ⟨i0, hi0, hz0, hz1, hz2⟩ := info_parts u8_infoL
 obtain ⟨L, hL⟩ : ∃ L, L = 4 * n := ⟨_, rfl⟩
 have q1 : 4 * (n : Int) = (L : Int) := by omega
 have hL6 : L ≤ 65536 := by omega
 have HL := Lib.hid hL
 clear hL
 go_enter Tryz.func121, Tryz.ntmps121
 go_wp2_with ((at_make; refine wpList_make_full _ rfl _ _ 185 rfl (w.heap.size + 1) 5 i0 _ 1 Tryz.underlying185 hi0 hz0 hz1 _ _ _ _ L rfl rfl rfl rfl (by rw [hz2]; omega) (by unfold maxLen; omega) (by simp) ?_; intro w1 hown hg1; rw [made_bf] at hown; have hb1 := grown_new (grown_trans (grown_below (more (Below.refl w.heap.size w) _) _) hg1) (by simp); go_loud (have d0 := hg1.cell (a := ⟨w.heap.size, 0, none⟩) (v := .slice ao n c) (by simp) (by simp))))
 clear q1
 go_loopw [15] (fun i wr => ∃ j : Nat, j ≤ n ∧ i = .int .i64 (j : Int) ∧ wr.ownsRow (w.heap.size + 1) 5 1 (.slice (some ⟨w.heap.size + 1, 0, none⟩) L L) L (bf L (wtk xs L j)) ∧ Below w.heap.size w wr) (fun i _ => n - (intOf i).toNat)
 case atStart => exact ⟨0, Nat.zero_le _, rfl, by rw [← wtk_zero]; simpa using hown, hb1⟩
 case round =>
  obtain ⟨j, hj, rfl, ho, hbj⟩ := hrel
  by_cases hjL : j < n
  · obtain ⟨bb, o, rfl, hbb, hc⟩ := (h.below hbj).at_ (by omega)
    have hcell := hc j (by omega)
    have k1 : (j : Int) < (n : Int) := by omega
    obtain ⟨p, hp⟩ : ∃ p, L = 4 * j + 4 + p := ⟨L - 4 * j - 4, by have := HL.out; omega⟩
    have k2 : (L : Int) - 4 * (j : Int) = (p : Int) + 4 := by omega
    have e1 := (World.ownsRow.cellAt ho (p + 3) (by omega)).trans (bf_get _ _ (by omega))
    have e2 := (World.ownsRow.cellAt ho (p + 2) (by omega)).trans (bf_get _ _ (by omega))
    have e3 := (World.ownsRow.cellAt ho (p + 1) (by omega)).trans (bf_get _ _ (by omega))
    have e4 := (World.ownsRow.cellAt ho p (by omega)).trans (bf_get _ _ (by omega))
    have f1 := ho.frozenAt (p + 3)
    have f2 := ho.frozenAt (p + 2)
    have f3 := ho.frozenAt (p + 1)
    have f4 := ho.frozenAt p
    have HP := Lib.hid hp
    clear hp
    obtain ⟨o1, r1⟩ := ho.stored (p + 3) (.int .u8 (byt xs (4 * j) : Int))
    obtain ⟨o2, r2⟩ := o1.stored (p + 2) (.int .u8 (byt xs (4 * j + 1) : Int))
    obtain ⟨o3, r3⟩ := o2.stored (p + 1) (.int .u8 (byt xs (4 * j + 2) : Int))
    obtain ⟨o4, r4⟩ := o3.stored p (.int .u8 (byt xs (4 * j + 3) : Int))
    have hset := wtk_set xs HL.out hjL
    rw [show L - 4 * j - 1 = p + 3 by have := HP.out; omega, show L - 4 * j - 2 = p + 2 by have := HP.out; omega, show L - 4 * j - 3 = p + 1 by have := HP.out; omega, show L - 4 * j - 4 = p by have := HP.out; omega] at hset
    rw [hset] at o4
    have hb3 := hbj.grown (grown_trans (grown_trans (grown_trans r1 r2) r3) r4) hbj.size (by simp)
    have b1 : (nth xs j : Int) % 256 = (byt xs (4 * j) : Int) := by rw [show byt xs (4 * j) = nth xs j / 256 ^ 0 % 256 from byt_word xs j 0 (by decide)]; omega
    have b2 : (nth xs j : Int) / 256 % 256 = (byt xs (4 * j + 1) : Int) := by rw [byt_word xs j 1 (by decide)]; omega
    have b3 : (nth xs j : Int) / 65536 % 256 = (byt xs (4 * j + 2) : Int) := by rw [byt_word xs j 2 (by decide)]; omega
    have b4 : (nth xs j : Int) / 16777216 % 256 = (byt xs (4 * j + 3) : Int) := by rw [byt_word xs j 3 (by decide)]; omega
    have B := Lib.hid (And.intro b1 (And.intro b2 (And.intro b3 b4)))
    clear b1 b2 b3 b4 o1 o2 o3 r1 r2 r3 r4 hset
    go_wp2
    obtain ⟨b1, b2, b3, b4⟩ := B.out
    rw [b1, b2, b3, b4]
    exact ⟨⟨j + 1, by omega, by go_num, o4, hb3⟩, by simp [intOf]; omega⟩
  · obtain rfl : j = n := by omega
    have hby : ∀ W, Below wr.heap.size wr W → By W (some ⟨w.heap.size + 1, 0, none⟩) L L xs := fun W hW =>
     ⟨Nat.le_refl _, by omega, fun _ => ⟨_, rfl, Nat.lt_of_lt_of_le (ho.lt _ rfl).2 hW.size, fun p hp => (hW.cell (p := ⟨_, p, none⟩) (ho.lt _ rfl).2).trans (by
      rw [ho.cellAt p (by omega), bf_get _ _ hp, HL.out, wtk_full])⟩⟩
    have hZs := stgs_words hx.1 hlen
    rw [← HL.out] at hZs
    have hq : (L + 3) / 4 = j := by have := HL.out; omega
    go_wp2_with (go_at_call 159; refine (bgSetBytes_any wr.heap.size wr.heap.size _ L L j xs _ (zc_new _ _ _ _) (hby _ (more (Below.refl _ _) _)) hx hlen hq (by omega) hZs (by simp)).mono ?_; rintro e w2 hS; obtain ⟨b2, ao2, k2, c2, rfl, hI, hb2⟩ := hS.mk)
    go_ret
    exact ⟨b2, ao2, k2, c2, rfl, hI.mono hbj.size, next hbj hb2⟩
theorem rtLimbs_any (b base : Nat) (s : Bool) (ao : Option Addr) (k c N : Nat) (w : World) (h : In 40 w base b s ao k c N) (hk : k ≤ 4194304) :
 Calls Tryz.prog 130 #[.pointer (some ⟨b, 0, none⟩)] w fun e w' => ∃ g n, e = .returned (.agg #[.slice (some ⟨g, 0, none⟩) n n]) ∧ Fr 40 w' w.heap.size (some ⟨g, 0, none⟩) n n (limbs N) ∧ Below w.heap.size w w' := by
 have hlen := h.fr.sl.len
 obtain ⟨i0, hi0, hz0, hz1, hz2⟩ := info_parts u32_infoL
 obtain ⟨L, hL⟩ : ∃ L, L = byteN (limbs N) := ⟨_, rfl⟩
 have hC := bgBytes_any b base s ao k c N L (w.alloc (.cells #[.slice none 0 0] 27)) (h.stay (more (Below.refl _ _) _)) hk hL
 obtain ⟨hLn, h0⟩ := byteN_words (fine_limbs N)
 rw [← hL, hlen] at hLn h0
 have hL4 : L ≤ 16777216 := by omega
 have hx := fine_limbs N
 obtain ⟨xs, hxs⟩ : ∃ xs, xs = limbs N := ⟨_, rfl⟩
 rw [← hxs] at hlen hC h0 hx ⊢
 clear hL h hxs
 have q1 : ((L : Int) + 3) / 4 = (k : Int) := by omega
 have q2 : ((L : Int) + 3).tdiv 4 = (k : Int) := by rw [Int.tdiv_eq_ediv_of_nonneg (by omega)]; exact q1
 go_enter Tryz.func130, Tryz.ntmps130
 go_wp2_with (first
  | (go_at_call 161; refine hC.mono ?_; rintro e w1 ⟨rfl, hB, hb1⟩; have hb0 := next (more (Below.refl w.heap.size w) (.cells #[.slice none 0 0] 27)) hb1; have d0 := cellStay (wp := w.alloc (.cells #[.slice none 0 0] 27)) (p := ⟨w.heap.size, 0, none⟩) (v := .slice none 0 0) (by simp) hb1)
  | (at_make; refine wpList_make_full _ rfl _ _ 25 rfl w1.heap.size 40 i0 _ 1 Tryz.underlying25 hi0 hz0 hz1 _ _ _ _ k rfl rfl rfl rfl (by rw [hz2]; omega) (by unfold maxLen; omega) (Nat.le_refl _) ?_; intro w2 hown hg2; rw [made_lvs] at hown; have hb2 := grown_new hg2 (by simp)))
 clear q1 q2 hC
 have hb3 := next hb0 hb2
 have d1 := cellStay d0 hb2
 have dl : w.heap.size < w2.heap.size := World.block_lt_of_cell? w2 ⟨w.heap.size, 0, none⟩ d1
 have hs01 := hb0.size
 have hz : w2.frozen? ⟨w.heap.size, 0, none⟩ = false := by
  rw [hb2.frozen (p := ⟨w.heap.size, 0, none⟩) (World.block_lt_of_cell? w1 ⟨w.heap.size, 0, none⟩ d0), hb1.frozen (p := ⟨w.heap.size, 0, none⟩) (by simp)]
  simp [go_sem]
 obtain ⟨p1, hp1⟩ : ∃ p, p = w1.heap.size := ⟨_, rfl⟩
 have hpw : w.heap.size < p1 := by rw [hp1]; exact World.block_lt_of_cell? w1 ⟨w.heap.size, 0, none⟩ d0
 rw [← hp1] at hown ⊢
 have hA : 0 < L → ∃ g, (some ⟨(w.alloc (.cells #[.slice none 0 0] 27)).heap.size, 0, none⟩ : Option Addr) = some ⟨g, 0, none⟩ ∧ g < p1 ∧ ∀ p, p < L → w2.cell? ⟨g, p, none⟩ = some (.int .u8 (byt xs (L - 1 - p) : Int)) := fun hn => by
  obtain ⟨g, e, g1, g2⟩ := hB.at_ hn
  exact ⟨g, e, by rw [hp1]; exact g1, fun p hp => (hb2.cell (p := ⟨g, p, none⟩) g1).trans (g2 p hp)⟩
 clear hB hb0 hb1 hb2 d0 hg2 hs01 hp1
 go_loopw [17] (fun i wr => ∃ j : Nat, j ≤ L ∧ i = .int .i64 (j : Int) ∧ wr.ownsRow p1 40 1 (.slice (some ⟨p1, 0, none⟩) k k) k (lvs (stgs xs (L - j))) ∧ Below w.heap.size w wr ∧ Below p1 w2 wr) (fun i _ => L - (intOf i).toNat)
 case atStart => exact ⟨0, Nat.zero_le _, by simp, by rw [Nat.sub_zero, h0]; exact hown, hb3, Below.refl _ _⟩
 case round =>
  obtain ⟨j, hj, rfl, ho, hbj, hbp⟩ := hrel
  have hbw : Below w.heap.size w wr := hbj
  have d2 := (hbp.cell (p := ⟨w.heap.size, 0, none⟩) hpw).trans d1
  have hz2 := (hbp.frozen (p := ⟨w.heap.size, 0, none⟩) hpw).trans hz
  by_cases hjL : j < L
  · obtain ⟨t, ht⟩ : ∃ t, L = j + t + 1 := ⟨L - j - 1, by omega⟩
    obtain ⟨bb, hbb, hbp1, hc⟩ := hA (by omega)
    obtain rfl : w.heap.size + 1 = bb := by simpa using hbb
    have hcell := (hbp.cell (p := ⟨w.heap.size + 1, j, none⟩) hbp1).trans (hc j hjL)
    rw [show L - 1 - j = t by omega] at hcell
    have hst := own_cell ho (j := t / 4) (by omega)
    rw [nth_stgs, show L - j = t + 1 by omega, show clp (t + 1) (t / 4) = t % 4 + 1 by unfold clp; omega] at hst
    have hfz := ho.frozenAt (t / 4)
    have k1 : (j : Int) < (L : Int) := by omega
    have k2 : (L : Int) - 1 - (j : Int) = (t : Int) := by omega
    have k3 : (t : Int) / 4 = ((t / 4 : Nat) : Int) := by omega
    have k4 : (t : Int).tdiv 4 = ((t / 4 : Nat) : Int) := by rw [Int.tdiv_eq_ediv_of_nonneg (by omega)]; exact k3
    have k5 : (t : Int) % 4 = ((t % 4 : Nat) : Int) := by omega
    have k6 : (t : Int).tmod 4 = ((t % 4 : Nat) : Int) := by rw [Int.tmod_eq_emod_of_nonneg (by omega)]; exact k5
    obtain ⟨q, hq⟩ : ∃ q, q = t / 4 := ⟨_, rfl⟩
    obtain ⟨m, hm⟩ : ∃ m, m = t % 4 := ⟨_, rfl⟩
    rw [← hq] at hst hfz k3 k4
    rw [← hm] at hst k5 k6
    have hql : q < k := by omega
    have hm4 : m < 4 := by omega
    have i1 : (0 : Int) ≤ (q : Int) := by omega
    have i2 : (q : Int) < (k : Int) := by omega
    have wq : IntKind.i64.wrap (q : Int) = (q : Int) := IntWalk.i64_in _ (by constructor <;> omega)
    have wm : IntKind.i64.wrap (m : Int) = (m : Int) := IntWalk.i64_in _ (by constructor <;> omega)
    have w8 : IntKind.i64.wrap (8 * (m : Int)) = 8 * (m : Int) := IntWalk.i64_in _ (by constructor <;> omega)
    have i3 : (0 : Int) ≤ 8 * (m : Int) := by omega
    have E := Lib.hid (or_byte hx.1 hq hm)
    have hoD : wr.drew.ownsRow p1 40 1 (.slice (some ⟨p1, 0, none⟩) k k) k (lvs (stgs xs (L - j))) := ho
    obtain ⟨o1, r1⟩ := hoD.stored q (lv (stg (nth xs q) m))
    rw [show L - j = t + 1 by omega, hq, hm, stgs_set xs t (by omega), ← hq, ← hm] at o1
    have o2 : (wr.drew.setCell ⟨p1, q, none⟩ (lv (stg (nth xs q) m))).ownsRow p1 40 1 (.slice (some ⟨p1, 0, none⟩) k k) k (lvs (stgs xs (L - (j + 1)))) := by rw [show L - (j + 1) = t by omega]; exact o1
    have hb4 := (Below.drew hbj).grown r1 hbj.size (by simp; omega)
    have hb5 := (Below.drew hbp).grown r1 (Nat.le_of_lt (ho.lt _ rfl).2) (by simp)
    have HT := Lib.hid ht
    have HQ := Lib.hid hq
    have HM := Lib.hid hm
    clear ht hq hm k3 k5 hjL o1 r1
    go_wp2
    go_still_tail 13, (by kernel_rfl)
    change wpList _ _ _ _ _ wr.drew
    rw [E.out]
    go_wp2
    exact ⟨⟨j + 1, by omega, by go_num, o2, hb4, hb5⟩, by simp [intOf]; omega⟩
  · obtain rfl : j = L := by omega
    rw [Nat.sub_self, stgs_zero] at ho
    have hoS : (wr.setCell ⟨w.heap.size, 0, none⟩ (.slice (some ⟨p1, 0, none⟩) k k)).ownsRow p1 40 1 (.slice (some ⟨p1, 0, none⟩) k k) k (lvs xs) := ownsRow_setCell_below ho hpw _
    go_wp2
    have hF := fr_own (own_mono hoS (Nat.le_of_lt hpw)) hx.1 (Nat.le_refl _) (Nat.le_refl _) (Nat.le_refl _)
    rw [List.take_of_length_le (by rw [hlen]; exact Nat.le_refl _)] at hF
    have d3 := World.cell?_setCell_same wr ⟨w.heap.size, 0, none⟩ (.slice (some ⟨p1, 0, none⟩) k k) d2
    refine bodyPost_ret (v := .agg #[.slice (some ⟨p1, 0, none⟩) k k]) (by simp [results, Tryz.results130, go_sem, d3]) rfl ⟨p1, k, rfl, hF, hbj.setCell (Nat.le_refl _) _⟩
theorem long_iff (N : Nat) : 524288 < szN (limbs N) ↔ 16384 < (limbs N).length := by
 have hf := fine_limbs N
 generalize limbs N = xs at hf
 by_cases h0 : xs.length = 0
 · rw [szN_zero h0]; omega
 · have h1 : nth xs (xs.length - 1) ≠ 0 := fine_top hf h0
   have h2 := nth_lt hf.1 (xs.length - 1)
   have h3 := bitLen_le32 _ h2
   obtain ⟨h4, _, _⟩ := Lib.bitLenAux_bounds 64 (nth xs (xs.length - 1)) (by omega) h1
   change 1 ≤ Lib.bitLen (nth xs (xs.length - 1)) at h4
   rw [szN_pos h0]
   omega
def lngB (N : Nat) : Bool := decide (16384 < (limbs N).length)
theorem rtLong_any (b base : Nat) (s : Bool) (ao : Option Addr) (k c N : Nat) (w : World) (h : In 40 w base b s ao k c N) (hk : k ≤ 4294967296) :
 Calls Tryz.prog 127 #[.pointer (some ⟨b, 0, none⟩)] w fun e w' => e = .returned (.bool (lngB N)) ∧ w = w' := by
 have hi := long_iff N
 have hC := bgIBitLen_any b base s ao k c N w h hk
 have hd : Hid (lngB N = decide ((szN (limbs N) : Int) > 524288)) := Lib.hid (by
  unfold lngB
  by_cases hh : 524288 < szN (limbs N)
  · rw [decide_eq_true (hi.1 hh), decide_eq_true (by omega)]
  · rw [decide_eq_false (fun h => hh (hi.2 h)), decide_eq_false (by omega)])
 generalize szN (limbs N) = Z at hC hd
 clear hi
 go_enter Tryz.func127, Tryz.ntmps127
 go_wp2_with (go_at_call 49; refine hC.mono ?_; rintro e w1 ⟨rfl, rfl⟩)
 go_ret
 exact ⟨by rw [hd.out]; rfl, rfl⟩
def Rtn (s : Bool) (N D : Nat) (er : Int) (w : World) (en : Ending) (w' : World) : Prop :=
 ∃ a1 n1 c1 a2 n2 c2, en = .returned (.tuple #[.agg #[.bool s, .slice a1 n1 c1, .slice a2 n2 c2], .int .i64 er]) ∧ Fr 40 w' w.heap.size a1 n1 c1 (limbs N) ∧ Fr 40 w' w.heap.size a2 n2 c2 (limbs D) ∧
  (∀ g, blkOf a1 = some g → blkOf a2 ≠ some g) ∧ Below w.heap.size w w'
theorem rtn_no {er : Int} {w w' : World} (h : Below w.heap.size w w') : Rtn false 0 0 er w (.returned (.tuple #[.agg #[.bool false, .slice none 0 0, .slice none 0 0], .int .i64 er])) w' :=
 ⟨none, 0, 0, none, 0, 0, rfl, by rw [limbs_zero]; exact fr_nil _ _ _, by rw [limbs_zero]; exact fr_nil _ _ _, (fun _ h => by cases h), h⟩
theorem sgn_nz (s : Bool) (N : Nat) : decide (sgnI s N < 0) = nzB s N := by
 unfold sgnI nzB
 by_cases h : N = 0
 · simp [h]
 · cases s <;> simp [h]
theorem rtTold_yes (b base : Nat) (s : Bool) (N D : Nat) (w : World) (h : Ra 40 w base b s N D) (hN : (limbs N).length ≤ 4194304) (hD : (limbs D).length ≤ 4194304) (hl : lngB N = false) (hd : lngB D = false) :
 Calls Tryz.prog 82 #[.pointer (some ⟨b, 0, none⟩)] w (Rtn (nzB s N) N D 0 w) := by
 have cN : ∀ W : World, Below w.heap.size w W → Calls Tryz.prog 128 #[.pointer (some ⟨b, 0, none⟩)] W (MkI 40 (nzB s N) N W) := fun W hW => bgRNum_any b base s N D W (h.stay hW) (by omega)
 have cD : ∀ W : World, Below w.heap.size w W → Calls Tryz.prog 125 #[.pointer (some ⟨b, 0, none⟩)] W (MkI 40 false D W) := fun W hW => bgRDenom_any b base s N D W (h.stay hW) (by omega)
 have cS : ∀ W : World, Below w.heap.size w W → Calls Tryz.prog 129 #[.pointer (some ⟨b, 0, none⟩)] W fun e w' => e = .returned (.int .i64 (sgnI s N)) ∧ W = w' := fun W hW => bgRSign_any b base s N D W (h.stay hW)
 go_enter Tryz.func82, Tryz.ntmps82
 go_wp2_with fail
 refine (cN _ (more (Below.refl _ _) _)).mono ?_
 rintro e w1 ⟨b1, a1, k1, c1, rfl, hI, hb1⟩
 have hk1 := hI.fr.sl.len
 have hW := next (more (Below.refl _ _) _) hb1
 have d0 := (box3_new w (.bool false) (.slice none 0 0) (.slice none 0 0) 29).stay hb1
 go_wp2_with fail
 refine (rtLong_any b1 _ _ a1 k1 c1 N _ hI (by omega)).mono ?_
 rintro e w2 ⟨rfl, rfl⟩
 rw [hl]
 go_wp2_with fail
 refine (cD _ hW).mono ?_
 rintro e w2 ⟨b2, a2, k2, c2, rfl, hI2, hb2⟩
 have hk2 := hI2.fr.sl.len
 replace hW := next hW hb2
 replace d0 := d0.stay hb2
 go_wp2_with fail
 refine (rtLong_any b2 _ _ a2 k2 c2 D _ hI2 (by omega)).mono ?_
 rintro e w3 ⟨rfl, rfl⟩
 rw [hd]
 go_wp2_with fail
 refine (cS _ hW).mono ?_
 rintro e w3 ⟨rfl, rfl⟩
 go_wp2_with fail
 refine (cN _ hW).mono ?_
 rintro e w3 ⟨b3, a3, k3, c3, rfl, hI3, hb3⟩
 have hk3 := hI3.fr.sl.len
 replace hW := next hW hb3
 replace d0 := d0.stay hb3
 have d0l3 := d0.lt
 go_wp2_with fail
 refine (rtLimbs_any b3 _ _ a3 k3 c3 N _ hI3 (by omega)).mono ?_
 rintro e w4 ⟨g1, m1, rfl, hF1, hb4⟩
 replace hW := next hW hb4
 replace d0 := d0.stay hb4
 go_wp2_with fail
 refine (cD _ hW).mono ?_
 rintro e w5 ⟨b5, a5, k5, c5, rfl, hI5, hb5⟩
 have hk5 := hI5.fr.sl.len
 replace hW := next hW hb5
 replace d0 := d0.stay hb5
 have hF1' := hF1.below hb5
 go_wp2_with fail
 refine (rtLimbs_any b5 _ _ a5 k5 c5 D _ hI5 (by omega)).mono ?_
 rintro e w6 ⟨g2, m2, rfl, hF2, hb6⟩
 replace hW := next hW hb6
 replace d0 := d0.stay hb6
 have hF3 := hF1'.below hb6
 have ⟨d1, d2, d3, d4, d5, d6⟩ := d0
 go_wp2
 have hsz : w.heap.size < w3.heap.size := d0l3
 have hsz5 := hb5.size
 have hsz4 := hb4.size
 have ⟨t0, t1, t2⟩ := d0.set (.bool (decide (sgnI s N < 0))) (.slice (some ⟨g1, 0, none⟩) m1 m1) (.slice (some ⟨g2, 0, none⟩) m2 m2)
 have hg1 := fr_lt hF1 rfl
 have hg2 := fr_lt hF2 rfl
 refine bodyPost_ret (v := .tuple #[.agg #[.bool (decide (sgnI s N < 0)), .slice (some ⟨g1, 0, none⟩) m1 m1, .slice (some ⟨g2, 0, none⟩) m2 m2], .int .i64 0]) (by simp [results, Tryz.results82, go_sem, t0, t1, t2]) rfl ?_
 refine ⟨_, _, _, _, _, _, by rw [sgn_nz], ((((hF3.setCell (by simp; omega) _).setCell (by simp; omega) _).setCell (by simp; omega) _).mono (by omega)), ((((hF2.setCell (by simp; omega) _).setCell (by simp; omega) _).setCell (by simp; omega) _).mono (by omega)), ?_, ((hW.setCell (by simp) _).setCell (by simp) _).setCell (by simp) _⟩
 intro g e1 e2
 obtain rfl : g1 = g := Option.some.inj e1
 obtain rfl : g2 = g1 := Option.some.inj e2
 omega
theorem rtSeen_any (s : Bool) (a1 a2 : Option Addr) (n1 n2 c1 c2 : Nat) (w : World) :
 Calls Tryz.prog 124 #[.agg #[.bool s, .slice a1 n1 c1, .slice a2 n2 c2]] w fun e w' => e = .returned (.agg #[.bool s, .int .i64 (n1 : Int), .int .i64 (n2 : Int)]) ∧ Below w.heap.size w w' := by
 go_enter Tryz.func124, Tryz.ntmps124
 go_wp2
 refine bodyPost_ret (v := .agg #[.bool s, .int .i64 (n1 : Int), .int .i64 (n2 : Int)]) (by simp [results, Tryz.results124, go_sem]) rfl ⟨rfl, more (more (Below.refl _ _) _) _⟩
end Go.Proofs.YtpmncmglmobjoaaGreatDoor
