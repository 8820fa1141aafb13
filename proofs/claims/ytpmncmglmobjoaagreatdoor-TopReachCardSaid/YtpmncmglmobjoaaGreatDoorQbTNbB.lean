/-
  Contracts of numeralbig: trim, copied, fromUint, toUint, cmpWords, bitLen, zeros. (Printed by wip/gen/big.py.) Contracts of numeralbig: up, down, divSmall. (Printed by wip/gen/big.py.)
-/
import Derived.Test.YtpmncmglmobjoaaGreatDoorQbTBigL
set_option maxHeartbeats 3000000
set_option maxRecDepth 100000
namespace Go.Proofs.YtpmncmglmobjoaaGreatDoor
open Go.RowKit Go.Lb
theorem nbTrim_any (ao : Option Addr) (n c : Nat) (ys : List Nat) (w : World) (h : Sl w ao n c ys) (hnil : ao = none → c = 0) :
 Calls Tryz.prog 103 #[.slice ao n c] w fun e w' => ∃ k, k ≤ n ∧ e = .returned (.slice ao k c) ∧ ys.take k = limbs (val ys) ∧ w = w' := by
 have hle := h.le
 have hcap := h.cap
 go_enter Tryz.func103, Tryz.ntmps103
 go_wp2
 go_loop [3] (fun i => ∃ k : Nat, k ≤ n ∧ i = .int .i64 k ∧ Hid (∀ j, k ≤ j → j < n → nth ys j = 0)) (fun i => (intOf i).toNat)
 case atStart => exact ⟨n, Nat.le_refl _, rfl, Lib.hid (fun j h1 h2 => absurd h2 (by omega))⟩
 case round =>
  obtain ⟨k, hk, rfl, H⟩ := hrel
  by_cases h0 : k = 0
  · subst h0
    have hc0 := cut_limbs h.ok (Nat.zero_le _) (by rw [h.len]; exact H.out) (.inl rfl)
    rcases hao : ao with _ | ⟨b, o, sp⟩
    · subst hao
      obtain rfl : 0 = c := (hnil rfl).symm
      obtain rfl : 0 = n := by omega
      go_wp2
      go_ret
      exact ⟨rfl, by simp⟩
    · subst hao
      go_wp2
      go_ret
      exact ⟨0, Nat.zero_le _, rfl, hc0, rfl⟩
  · obtain ⟨b, o, rfl, hb, hc⟩ := h.at_ (by omega)
    have hcell := hc (k - 1) (by omega)
    by_cases h2 : nth ys (k - 1) = 0
    · rw [h2] at hcell
      have H2 := Lib.hid h2
      clear hc h2
      go_wp2
      go_round
      case rel => exact ⟨k - 1, by omega, by go_num, Lib.hid (fun j h1 h3 => by
       by_cases hj : j = k - 1
       · rw [hj]; exact H2.out
       · exact H.out j (by omega) h3)⟩
      case measure => simp [intOf]; omega
    · have hne : ((nth ys (k - 1) : Int) == 0) = false := by simp; omega
      have hcl := cut_limbs h.ok (by rw [h.len]; omega) (by rw [h.len]; exact H.out) (.inr h2)
      have Hcl := Lib.hid hcl
      clear hc hcl
      go_wp2
      go_ret
      exact ⟨k, hk, rfl, Hcl.out, rfl⟩
theorem nbTrim_own {base g n c : Nat} {ys : List Nat} (w : World) (h : w.ownsRow base 40 1 (.slice (some ⟨g, 0, none⟩) n c) n (lvs ys)) (hok : Ok ys) :
 Calls Tryz.prog 103 #[.slice (some ⟨g, 0, none⟩) n c] w fun e w' => ∃ k, e = .returned (.slice (some ⟨g, 0, none⟩) k c) ∧ Fr 40 w base (some ⟨g, 0, none⟩) k c (limbs (val ys)) ∧ w = w' := by
 refine (nbTrim_any _ n c ys w (own_sl h hok) (fun hh => by cases hh)).mono ?_
 rintro e w' ⟨k, hk, rfl, hl, rfl⟩
 obtain ⟨hc1, hc2⟩ := own_cap h
 have := fr_own h hok hk (show k ≤ c by omega) (Nat.le_refl _)
 rw [hl] at this
 exact ⟨k, rfl, this, rfl⟩
theorem nbCopied_any (ao : Option Addr) (n c : Nat) (xs : List Nat) (w : World) (h : Sl w ao n c xs) (hn : n ≤ 4294967296) :
 Calls Tryz.prog 101 #[.slice ao n c] w fun e w' => ∃ g, e = .returned (.slice (some ⟨g, 0, none⟩) n n) ∧ w'.ownsRow w.heap.size 40 1 (.slice (some ⟨g, 0, none⟩) n n) n (lvs xs) ∧ Below w.heap.size w w' := by
 obtain ⟨i0, hi0, hz0, hz1, hz2⟩ := info_parts u32_infoL
 have hle := h.le
 have hcap := h.cap
 have hlen := h.len
 have hm : n ≤ maxLen := by unfold maxLen; omega
 have hsz : (Tryz.prog.info? 40).map (·.size) = some 1 := by kernel_rfl
 go_enter Tryz.func101, Tryz.ntmps101
 go_wp2_with (first
  | (at_make; refine wpList_make_full _ rfl _ _ 25 rfl w.heap.size 40 i0 _ 1 Tryz.underlying25 hi0 hz0 hz1 _ _ _ _ n rfl rfl rfl rfl (by rw [hz2]; omega) (by unfold maxLen; omega) (Nat.le_refl _) ?_; intro w1 hown hg1; rw [made_lvs] at hown; have hb1 := (Below.refl w.heap.size w).grown hg1 (Nat.le_refl _) (by simp))
  | (refine wpList_copy_splice rfl (.tmp 7) (.tmp 8) 25 25 rfl 40 Tryz.underlying25 hsz (some ⟨w.heap.size, 0, none⟩) ao n n n c rfl rfl w.heap.size 0 (lvs (List.replicate n 0)) _ (block_own hown) (lvs xs) ?_ (fun hp => ⟨rfl, lvs_cell (h.below hb1) ?_⟩) ?_ ?_ w.heap.size w hb1 (Nat.le_refl _) ?_; (focus (simp [lvs, hlen])); (focus (simp [lvs, hlen] at hp; omega)); (focus (simp [lvs, hlen])); (focus (exact lvs_oneCell xs)); intro w2 hw2 hb2))
 go_ret
 have hsp : splice (lvs (List.replicate n 0)) 0 (lvs xs) = lvs xs := by simp [splice, lvs, hlen]
 have hw3 := hw2.out
 rw [hsp] at hw3
 exact ⟨_, rfl, own_block hw3 (Nat.le_refl _) hlen hm, hb2⟩
theorem nbFromUint_any (x : Nat) (z : Int) (hz : z = (x : Int)) (w : World) (hx : x < 18446744073709551616) :
 Calls Tryz.prog 102 #[.int .u64 z] w (Wd 40 x w) := by
 subst hz
 have hv := Lib.hid (val_two hx)
 go_enter Tryz.func102, Tryz.ntmps102
 go_wp2_with fail
 have ow := own_two w x (x := (x : Int) % 4294967296) (y := (x : Int) / 4294967296) rfl (by omega)
 refine (nbTrim_own _ ow (ok_two x)).mono ?_
 rintro e w1 ⟨k, rfl, hF, rfl⟩
 rw [hv.out] at hF
 go_wp2
 go_ret
 exact ⟨_, _, _, rfl, hF, more (Below.refl _ _) _⟩
theorem nbToUint_any (ao : Option Addr) (n c : Nat) (xs : List Nat) (w : World) (h : Sl w ao n c xs) :
 Calls Tryz.prog 110 #[.slice ao n c] w fun e w' => e = .returned (.int .u64 ((nth xs 0 + 4294967296 * nth xs 1 : Nat) : Int)) ∧ w = w' := by
 have hle := h.le
 have hcap := h.cap
 have hlen := h.len
 have l0 := nth_lt h.ok 0
 have l1 := nth_lt h.ok 1
 by_cases h0 : n = 0
 · have e0 : nth xs 0 = 0 := nth_over (by omega)
   have e1 : nth xs 1 = 0 := nth_over (by omega)
   have H : Hid (((nth xs 0 + 4294967296 * nth xs 1 : Nat) : Int) = 0) := Lib.hid (by rw [e0, e1]; rfl)
   clear e0 e1 l0 l1
   subst h0
   go_enter Tryz.func110, Tryz.ntmps110
   go_wp2
   go_ret
   exact ⟨by rw [H.out]; rfl, rfl⟩
 · obtain ⟨b, o, rfl, hb, hc⟩ := h.at_ (by omega)
   have c0 := hc 0 (by omega)
   have c00 : w.cell? ⟨b, o, none⟩ = some (.int .u32 (nth xs 0 : Int)) := c0
   by_cases h1 : n = 1
   · have e1 : nth xs 1 = 0 := nth_over (by omega)
     have H : Hid (((nth xs 0 + 4294967296 * nth xs 1 : Nat) : Int) = (nth xs 0 : Int)) := Lib.hid (by rw [e1]; rfl)
     have hz := u64_zero_or (nth xs 0) (by omega)
     clear e1 l1 hc
     subst h1
     go_enter Tryz.func110, Tryz.ntmps110
     go_wp2
     go_ret
     exact ⟨by rw [H.out]; rfl, rfl⟩
   · have c1 := hc 1 (by omega)
     have g1 : decide ((1 : Int) < (n : Int)) = true := decide_eq_true (by omega)
     have g2 : (1 : Int) < (n : Int) := by omega
     have g0 : (0 : Int) < (n : Int) := by omega
     have hw : IntKind.u64.wrap ((nth xs 1 : Int) * 4294967296) = (nth xs 1 : Int) * 4294967296 := IntWalk.u64_in _ (by omega)
     have hor : bits .or .u64 ((nth xs 1 : Int) * 4294967296) (nth xs 0 : Int) = ((nth xs 0 + 4294967296 * nth xs 1 : Nat) : Int) := by
      rw [show (nth xs 1 : Int) * 4294967296 = ((nth xs 1 * 2 ^ 32 : Nat) : Int) by omega, u64_or_nat _ _ (by omega) (by omega), or_disj (by omega)]
      omega
     have H := Lib.hid hor
     clear hor hc
     go_enter Tryz.func110, Tryz.ntmps110
     go_wp2
     go_ret
     exact ⟨by rw [← H.out]; rfl, rfl⟩
theorem nbCmp_any (a1 a2 : Option Addr) (n1 n2 c1 c2 : Nat) (xs ys : List Nat) (w : World) (h1 : Sl w a1 n1 c1 xs) (h2 : Sl w a2 n2 c2 ys) (fx : Fine xs) (fy : Fine ys) :
 Calls Tryz.prog 60 #[.slice a1 n1 c1, .slice a2 n2 c2] w fun e w' => e = .returned (.int .i64 (cmpN (val xs) (val ys))) ∧ Below w.heap.size w w' := by
 have lx := h1.len
 have ly := h2.len
 have hle := h1.le
 have hcap := h1.cap
 rcases Nat.lt_trichotomy n1 n2 with hl | hl | hl
 · have H := Lib.hid (cmpN_lt (cmp_len h1.ok fy (by omega)))
   have hli : (n1 : Int) < (n2 : Int) := by omega
   clear h1 h2 fx fy lx ly
   go_enter Tryz.func60, Tryz.ntmps60
   go_wp2
   go_ret
   exact ⟨by rw [H.out]; rfl, Below.refl _ _⟩
 · subst hl
   go_enter Tryz.func60, Tryz.ntmps60
   go_wp2
   go_loopw [5] (fun i wr => ∃ k m : Nat, k ≤ n1 ∧ i = .int .i64 ((k : Int) - 1) ∧ wr = w.drewN m ∧ Hid (∀ j, k ≤ j → j < n1 → nth xs j = nth ys j)) (fun i _ => (intOf i + 1).toNat)
   case atStart => exact ⟨n1, 0, by omega, rfl, rfl, Lib.hid (fun j h1 h2 => absurd h2 (by omega))⟩
   case round =>
    obtain ⟨k, m, hk, rfl, rfl, HA⟩ := hrel
    by_cases h0 : k = 0
    · subst h0
      have he : xs = ys := ext_nth (by omega) fun j hj => HA.out j (by omega) (by omega)
      have H := Lib.hid (cmpN_eq (congrArg val he))
      clear he
      go_wp2
      go_ret
      exact ⟨by rw [H.out]; rfl, drewn (Below.refl _ _) _⟩
    · obtain ⟨j, rfl⟩ : ∃ j, k = j + 1 := ⟨k - 1, by omega⟩
      obtain ⟨b1, o1, rfl, hb1, hc1⟩ := h1.at_ (by omega)
      obtain ⟨b2, o2, rfl, hb2, hc2⟩ := h2.at_ (by omega)
      have k1 := hc1 j (by omega)
      have k2 := hc2 j (by omega)
      have hj0 : (0 : Int) ≤ (j : Int) := by omega
      have hjn : (j : Int) < (n1 : Int) := by omega
      rcases Nat.lt_trichotomy (nth xs j) (nth ys j) with hq | hq | hq
      · have H := Lib.hid (cmpN_lt (cmp_at h1.ok (by omega) (by omega) (fun i hi hi2 => HA.out i (by omega) (by omega)) hq))
        have d1 : nth xs j < nth ys j := hq
        clear hc1 hc2 h1 h2 fx fy lx ly hq
        go_wp2
        go_quiet (fail)
        go_wp2
        go_ret
        exact ⟨by rw [H.out]; rfl, drewn (drewn (Below.refl _ _) _) _⟩
      · have d1 : ¬ nth xs j < nth ys j := by omega
        have d2 : ¬ nth ys j < nth xs j := by omega
        have HQ := Lib.hid hq
        clear hc1 hc2 hq
        go_wp2
        go_quiet (fail)
        go_wp2
        go_quiet (fail)
        go_wp2
        go_roundw
        case rel => exact ⟨j, _, by omega, by go_num, rfl, Lib.hid (fun i hi hi2 => by
         by_cases e : i = j
         · rw [e]; exact HQ.out
         · exact HA.out i (by omega) hi2)⟩
        case measure => simp [intOf]
      · have H := Lib.hid (cmpN_gt (cmp_at h2.ok (by omega) (by omega) (fun i hi hi2 => (HA.out i (by omega) (by omega)).symm) hq))
        have d1 : ¬ nth xs j < nth ys j := by omega
        have d2 : nth ys j < nth xs j := hq
        clear hc1 hc2 h1 h2 fx fy lx ly hq
        go_wp2
        go_quiet (fail)
        go_wp2
        go_quiet (fail)
        go_wp2
        go_ret
        exact ⟨by rw [H.out]; rfl, drewn (drewn (drewn (Below.refl _ _) _) _) _⟩
 · have H := Lib.hid (cmpN_gt (cmp_len h2.ok fx (by omega)))
   have hli : (n2 : Int) < (n1 : Int) := by omega
   clear h1 h2 fx fy lx ly
   go_enter Tryz.func60, Tryz.ntmps60
   go_wp2
   go_ret
   exact ⟨by rw [H.out]; rfl, Below.refl _ _⟩
theorem nbBitLen_any (ao : Option Addr) (n c : Nat) (xs : List Nat) (w : World) (h : Sl w ao n c xs) (hn : n ≤ 4294967296) :
 Calls Tryz.prog 105 #[.slice ao n c] w fun e w' => e = .returned (.int .i64 (szN xs)) ∧ w = w' := by
 have hlen := h.len
 have hle := h.le
 have hcap := h.cap
 by_cases h0 : n = 0
 · have H := Lib.hid (szN_zero (xs := xs) (by omega))
   subst h0
   go_enter Tryz.func105, Tryz.ntmps105
   go_wp2
   go_ret
   exact ⟨by rw [H.out]; rfl, rfl⟩
 · have hs := szN_pos (xs := xs) (by omega)
   obtain ⟨b, o, rfl, hb, hc⟩ := h.at_ (by omega)
   have hcell := hc (n - 1) (by omega)
   have hlt := nth_lt h.ok (n - 1)
   have hbl := bitLen_le32 _ hlt
   have hn0 : 0 < n := by omega
   have H : Hid ((szN xs : Int) = 32 * ((n : Int) - 1) + (Lib.bitLen (nth xs (n - 1)) : Int)) := Lib.hid (by rw [hs, hlen]; omega)
   clear hs hc hlen
   go_enter Tryz.func105, Tryz.ntmps105
   go_wp2_with (go_at_call 139; refine (len32_any (nth xs (n - 1) : Int) _ (by omega) (by omega)).mono ?_; rintro e w2 ⟨rfl, rfl⟩)
   go_ret
   exact ⟨by rw [H.out]; rfl, rfl⟩
theorem nbZeros_any (ao : Option Addr) (n c : Nat) (ys : List Nat) (w : World) (h : Sl w ao n c ys) (h0 : val ys ≠ 0) (hn : n ≤ 4294967296) (hT : Tab w) :
 Calls Tryz.prog 104 #[.slice ao n c] w fun e w' => e = .returned (.int .i64 (tz (val ys))) ∧ w = w' := by
 have hl := h.len
 have hle := h.le
 have hcap := h.cap
 go_enter Tryz.func104, Tryz.ntmps104
 go_wp2
 go_loop [3] (fun i => ∃ k : Nat, 32 * k ≤ tz (val ys) ∧ i = .int .i64 (k : Int)) (fun i => tz (val ys) + 1 - (intOf i).toNat)
 case atStart => exact ⟨0, by omega, rfl⟩
 case round =>
  obtain ⟨k, hk, rfl⟩ := hrel
  have ht := tz_lt h.ok h0
  have hkn : k < n := by omega
  obtain ⟨b, o, rfl, hb, hc⟩ := h.at_ (by omega)
  have hcell := hc k hkn
  have hne2 : ((k : Int) == (n : Int)) = false := by simp; omega
  clear hc
  by_cases h2 : nth ys k = 0
  · have hnx := tz_next h.ok h0 hk h2
    rw [h2] at hcell
    clear h2
    go_wp2
    go_round
    case rel => exact ⟨k + 1, by omega, by go_num⟩
    case measure => simp [intOf]; omega
  · have hh := tz_here h.ok h0 hk h2
    have hlt := nth_lt h.ok k
    have hne : ((nth ys k : Int) == 0) = false := by simp; omega
    have Hh := Lib.hid hh
    have hcl : Lib.ctz 32 (nth ys k) < 32 := (Lib.lowest_bit 32 _ h2 hlt).2
    clear hh
    go_wp2_with (go_at_call 113; refine (tz32_any (nth ys k) hlt h2 _ hT).mono ?_; rintro e w1 ⟨rfl, rfl⟩)
    go_ret
    exact ⟨by rw [Hh.out, Int.natCast_add, Int.natCast_mul]; rfl, rfl⟩
theorem nbUp_any (ao : Option Addr) (n c k : Nat) (x : Int) (hx : x = (k : Int)) (ys : List Nat) (w : World) (h : Sl w ao n c ys) (hn : n ≤ 4294967296) (hk : k ≤ 4294967296) :
 Calls Tryz.prog 106 #[.slice ao n c, .int .i64 x] w (Wd 40 (val ys * 2 ^ k) w) := by
 subst hx
 have hle := h.le
 have hcap := h.cap
 have hlen := h.len
 by_cases h0 : n = 0
 · have hv : val ys * 2 ^ k = 0 := by
    have : ys = [] := List.length_eq_zero_iff.1 (by omega)
    rw [this]
    exact Nat.zero_mul _
   have Hv := Lib.hid hv
   subst h0
   clear hv
   go_enter Tryz.func106, Tryz.ntmps106
   go_wp2
   go_ret
   exact ⟨none, 0, 0, rfl, by rw [Hv.out]; exact fr_nil _ _ _, Below.refl _ _⟩
 · obtain ⟨i0, hi0, hz0, hz1, hz2⟩ := info_parts u32_infoL
   obtain ⟨q, hq⟩ : ∃ q, q = k / 32 := ⟨_, rfl⟩
   obtain ⟨s, hs⟩ : ∃ s, s = k % 32 := ⟨_, rfl⟩
   have hq1 : (k : Int) / 32 = (q : Int) := by omega
   have hq2 : (k : Int).tdiv 32 = (q : Int) := by rw [Int.tdiv_eq_ediv_of_nonneg (by omega)]; omega
   have hs1 : (k : Int) % 32 = (s : Int) := by omega
   have hs2 : (k : Int).tmod 32 = (s : Int) := by rw [Int.tmod_eq_emod_of_nonneg (by omega)]; omega
   have hs3 : s < 32 := by omega
   have hq3 : q ≤ 134217728 := by omega
   have hws : IntKind.u64.wrap (s : Int) = (s : Int) := IntWalk.u64_in _ (by omega)
   have hval : val (List.replicate q 0 ++ upL s ys) = val ys * 2 ^ k := by rw [hq, hs]; exact val_up ys k
   have Hval := Lib.hid hval
   have hok : Ok (List.replicate q 0 ++ upL s ys) := ok_append (ok_replicate _) (ok_upL hs3 h.ok)
   clear hq hs hval
   go_enter Tryz.func106, Tryz.ntmps106
   go_wp2_with (at_make; refine wpList_make_full _ rfl _ _ 25 rfl w.heap.size 40 i0 _ 1 Tryz.underlying25 hi0 hz0 hz1 _ _ _ _ (n + q + 1) rfl rfl rfl rfl (by rw [hz2]; omega) (by unfold maxLen; omega) (Nat.le_refl _) ?_; intro w1 hown hg1; rw [made_lvs] at hown; have hb1 := (Below.refl w.heap.size w).grown hg1 (Nat.le_refl _) (by simp))
   go_loopw [8] (fun i wr => ∃ j : Nat, j ≤ n ∧ i = .int .i64 j ∧ wr.ownsRow w.heap.size 40 1 (.slice (some ⟨w.heap.size, 0, none⟩) (n + q + 1) (n + q + 1)) (n + q + 1) (lvs (List.replicate q 0 ++ upAt s n j ys)) ∧ Below w.heap.size w wr) (fun i _ => n - (intOf i).toNat)
   case atStart => exact ⟨0, by omega, rfl, by rw [upAt_zero, List.replicate_append_replicate, show q + (n + 1) = n + q + 1 by omega]; exact hown, hb1⟩
   case round =>
    obtain ⟨j, hj, rfl, hownj, hbj⟩ := hrel
    by_cases hjn : j < n
    · obtain ⟨b, o, rfl, hb, hc⟩ := (h.below hbj).at_ (by omega)
      have hcell := hc j hjn
      clear hc
      have hx := nth_lt h.ok j
      have hC : upC s 0 (ys.take j) < 2 ^ s := upC_lt (ok_take h.ok j) (Nat.two_pow_pos s)
      have hp32 : (2 : Nat) ^ s ≤ 2 ^ 31 := Nat.pow_le_pow_right (by decide) (by omega)
      have hprod : nth ys j * 2 ^ s < 18446744073709551616 := Nat.lt_of_le_of_lt (Nat.mul_le_mul_left _ hp32) (by omega)
      obtain ⟨g1, g2⟩ := or_carry (x := nth ys j) hs3 hC
      have hst := own_cell hownj (j := j + q) (by omega)
      rw [nth_rep, nth_upAt (by omega)] at hst
      have hfz := hownj.frozenAt (j + q)
      have hfz2 := hownj.frozenAt (j + q + 1)
      have hst2 : ∀ v, (wr.setCell ⟨w.heap.size, j + q, none⟩ v).cell? ⟨w.heap.size, j + q + 1, none⟩ = some (.int .u32 (nth (List.replicate q 0 ++ upAt s n j ys) (j + q + 1) : Int)) := fun v => by
       rw [World.cell?_setCell_other _ _ _ _ (by simp)]
       exact own_cell hownj (by omega)
      have hW : IntKind.u64.wrap ((nth ys j : Int) * 2 ^ s) = ((nth ys j * 2 ^ s : Nat) : Int) := by
       rw [show (nth ys j : Int) * 2 ^ s = ((nth ys j * 2 ^ s : Nat) : Int) by rw [Int.natCast_mul, Int.natCast_pow]; rfl]
       exact IntWalk.u64_in _ (by omega)
      have eW1 : Value.int IntKind.u32 (bits BinOp.or IntKind.u32 (upC s 0 (ys.take j) : Int) (IntKind.u64.wrap ((nth ys j : Int) * 2 ^ s) % 4294967296)) = lv ((nth ys j * 2 ^ s + upC s 0 (ys.take j)) % 4294967296) := by
       unfold lv
       rw [hW, show ((nth ys j * 2 ^ s : Nat) : Int) % 4294967296 = ((nth ys j * 2 ^ s % 4294967296 : Nat) : Int) from by omega, u32_or_nat _ _ (by omega) (by omega), g1]
      have eW2 : Value.int IntKind.u32 (IntKind.u64.wrap ((nth ys j : Int) * 2 ^ s) / 4294967296 % 4294967296) = lv ((nth ys j * 2 ^ s + upC s 0 (ys.take j)) / 4294967296) := by
       unfold lv
       rw [hW, ← g2]
       have : nth ys j * 2 ^ s / 4294967296 < 4294967296 := by omega
       congr 1
       omega
      obtain ⟨o1, r1⟩ := hownj.stored (j + q) (lv ((nth ys j * 2 ^ s + upC s 0 (ys.take j)) % 4294967296))
      obtain ⟨o2, r2⟩ := o1.stored (j + q + 1) (lv ((nth ys j * 2 ^ s + upC s 0 (ys.take j)) / 4294967296))
      rw [set_rep, show j + q + 1 = (j + 1) + q by omega, show lvs (List.replicate q 0) = (List.replicate q 0).map lv from rfl, List.set_append_right _ _ (by simp)] at o2
      simp only [List.length_map, List.length_replicate, Nat.add_sub_cancel] at o2
      rw [upAt_step hjn hlen, show (List.replicate q 0).map lv ++ lvs (upAt s n (j + 1) ys) = lvs (List.replicate q 0 ++ upAt s n (j + 1) ys) from (List.map_append ..).symm, show j + 1 + q = j + q + 1 by omega] at o2
      have hb2 := (hbj.grown r1 hbj.size (by simp)).grown r2 (by simp; exact hbj.size) (by simp)
      have E1 := Lib.hid eW1
      have E2 := Lib.hid eW2
      clear eW1 eW2 hW g1 g2 hprod hp32 hC o1 r1 r2
      go_wp2
      rw [E1.out, E2.out]
      exact ⟨⟨j + 1, by omega, by go_num, o2, hb2⟩, by simp [intOf]; omega⟩
    · obtain rfl : j = n := by omega
      rw [upAt_full hlen] at hownj
      go_wp2_with fail
      refine (nbTrim_own _ hownj hok).mono ?_
      rintro e w2 ⟨k2, rfl, hF, rfl⟩
      rw [Hval.out] at hF
      go_wp2
      go_ret
      exact ⟨_, _, _, rfl, hF, hbj⟩
theorem nbDown_any (ao : Option Addr) (n c k : Nat) (x : Int) (hx : x = (k : Int)) (ys : List Nat) (w : World) (h : Sl w ao n c ys) (hn : n ≤ 4294967296) (hk : k ≤ 9223372036854775807) :
 Calls Tryz.prog 158 #[.slice ao n c, .int .i64 x] w (Wd 40 (val ys / 2 ^ k) w) := by
 subst hx
 have hle := h.le
 have hcap := h.cap
 have hlen := h.len
 obtain ⟨i0, hi0, hz0, hz1, hz2⟩ := info_parts u32_infoL
 have hval := val_down h.ok k
 obtain ⟨q, hq⟩ : ∃ q, q = k / 32 := ⟨_, rfl⟩
 obtain ⟨s, hs⟩ : ∃ s, s = k % 32 := ⟨_, rfl⟩
 rw [← hq, ← hs] at hval
 have Hval := Lib.hid hval
 have hq1 : (k : Int) / 32 = (q : Int) := by omega
 have hq2 : (k : Int).tdiv 32 = (q : Int) := by rw [Int.tdiv_eq_ediv_of_nonneg (by omega)]; omega
 have hs1 : (k : Int) % 32 = (s : Int) := by omega
 have hs2 : (k : Int).tmod 32 = (s : Int) := by rw [Int.tmod_eq_emod_of_nonneg (by omega)]; omega
 have hs3 : s < 32 := by omega
 have hws : IntKind.u64.wrap (s : Int) = (s : Int) := IntWalk.u64_in _ (by omega)
 by_cases hqn : n ≤ q
 · have hv : val ys / 2 ^ k = 0 := by
    rw [← hval, List.drop_of_length_le (by omega)]
    rfl
   have Hv := Lib.hid hv
   have g1 : (n : Int) ≤ (q : Int) := by omega
   clear hq hs hval hv
   go_enter Tryz.func158, Tryz.ntmps158
   go_wp2
   go_ret
   exact ⟨none, 0, 0, rfl, by rw [Hv.out]; exact fr_nil _ _ _, Below.refl _ _⟩
 · obtain ⟨m, hm⟩ : ∃ m, n = m + q := ⟨n - q, by omega⟩
   have hsub : IntKind.i64.wrap ((n : Int) - (q : Int)) = (m : Int) := by rw [IntWalk.i64_in _ (by omega)]; omega
   have hsub2 : (n : Int) - (q : Int) = (m : Int) := by omega
   have hll : (lowL s (ys.drop q)).length = m := by rw [lowL_length, List.length_drop]; omega
   have g1 : ¬ (n : Int) ≤ (q : Int) := by omega
   clear hq hs hval hqn
   go_enter Tryz.func158, Tryz.ntmps158
   go_wp2_with (at_make; refine wpList_make_full _ rfl _ _ 25 rfl w.heap.size 40 i0 _ 1 Tryz.underlying25 hi0 hz0 hz1 _ _ _ _ m rfl rfl rfl rfl (by rw [hz2]; omega) (by unfold maxLen; omega) (Nat.le_refl _) ?_; intro w1 hown hg1; rw [made_lvs] at hown; have hb1 := (Below.refl w.heap.size w).grown hg1 (Nat.le_refl _) (by simp))
   go_loopw [8] (fun i wr => ∃ j : Nat, j ≤ m ∧ i = .int .i64 j ∧ wr.ownsRow w.heap.size 40 1 (.slice (some ⟨w.heap.size, 0, none⟩) m m) m (lvs ((lowL s (ys.drop q)).take j ++ List.replicate (m - j) 0)) ∧ Below w.heap.size w wr) (fun i _ => m - (intOf i).toNat)
   case atStart => exact ⟨0, by omega, rfl, by simpa using hown, hb1⟩
   case round =>
    obtain ⟨j, hj, rfl, hownj, hbj⟩ := hrel
    by_cases hjn : j < m
    · obtain ⟨b, o, rfl, hb, hc⟩ := (h.below hbj).at_ (by omega)
      have hcell := hc (j + q) (by omega)
      have ha := nth_lt h.ok (j + q)
      have hb2 := nth_lt h.ok (j + q + 1)
      have i1 : (0 : Int) ≤ (j : Int) + (q : Int) := by omega
      have i2 : (j : Int) + (q : Int) < (n : Int) := by omega
      have hlow : ((nth ys (j + q) : Int) + 4294967296 * (nth ys (j + q + 1) : Int)) / 2 ^ s % 4294967296 = (nth (lowL s (ys.drop q)) j : Int) := by
       rw [nth_lowL _ _ (by rw [List.length_drop]; omega), nth_drop, nth_drop, ← low_cast, show q + (j + 1) = j + q + 1 by omega, show q + j = j + q by omega]
       congr 2
       omega
      have hfz := hownj.frozenAt j
      have hst := own_cell hownj (j := j) hjn
      obtain ⟨o1, r1⟩ := hownj.stored j (lv (nth (lowL s (ys.drop q)) j))
      rw [set_front (by rw [List.length_take]; omega) hjn, show (lowL s (ys.drop q)).take j ++ [nth (lowL s (ys.drop q)) j] = (lowL s (ys.drop q)).take (j + 1) from (take_succ_getD (by omega)).symm] at o1
      have hb3 := hbj.grown r1 hbj.size (by simp)
      by_cases hnx : j + q + 1 < n
      · have hcell2 := hc (j + q + 1) hnx
        have i3 : (j : Int) + (q : Int) + 1 < (n : Int) := by omega
        have i4 : (0 : Int) ≤ (j : Int) + (q : Int) + 1 := by omega
        have qw : IntKind.u64.wrap ((nth ys (j + q + 1) : Int) * 4294967296) = (nth ys (j + q + 1) : Int) * 4294967296 := by rw [IntKind.wrap_u64]; omega
        have qo := u64_or_high _ _ ha hb2
        have E : Hid (Value.int IntKind.u32 (((nth ys (j + q) : Int) + 4294967296 * (nth ys (j + q + 1) : Int)) / 2 ^ s % 4294967296) = lv (nth (lowL s (ys.drop q)) j)) := Lib.hid (by rw [hlow]; rfl)
        clear hc hlow r1
        go_wp2
        rw [E.out]
        exact ⟨⟨j + 1, by omega, by go_num, o1, hb3⟩, by simp [intOf]; omega⟩
      · have i3 : ¬ (j : Int) + (q : Int) + 1 < (n : Int) := by omega
        have hz : nth ys (j + q + 1) = 0 := nth_over (by omega)
        have hlow2 := hlow
        rw [hz, show ((0 : Nat) : Int) = 0 from rfl, Int.mul_zero, Int.add_zero] at hlow2
        have E : Hid (Value.int IntKind.u32 ((nth ys (j + q) : Int) / 2 ^ s % 4294967296) = lv (nth (lowL s (ys.drop q)) j)) := Lib.hid (by rw [hlow2]; rfl)
        clear hlow2
        clear hc hlow r1
        go_wp2
        rw [E.out]
        exact ⟨⟨j + 1, by omega, by go_num, o1, hb3⟩, by simp [intOf]; omega⟩
    · obtain rfl : j = m := by omega
      rw [Nat.sub_self, List.replicate_zero, List.append_nil, List.take_of_length_le (by omega)] at hownj
      have hok := ok_lowL s (ys.drop q)
      go_wp2_with fail
      refine (nbTrim_own _ hownj hok).mono ?_
      rintro e w2 ⟨k2, rfl, hF, rfl⟩
      rw [Hval.out] at hF
      go_wp2
      go_ret
      exact ⟨_, _, _, rfl, hF, hbj⟩
theorem nbDivSmall_any (ao : Option Addr) (n c d : Nat) (ys : List Nat) (w : World) (h : Sl w ao n c ys) (hn : n ≤ 4294967296) (hd0 : d ≠ 0) (hd : d < 4294967296) :
 Calls Tryz.prog 156 #[.slice ao n c, .int .u32 (d : Int)] w fun e w' => ∃ ao' k' c', e = .returned (.tuple #[.slice ao' k' c', .int .u32 ((val ys % d : Nat) : Int)]) ∧ Fr 40 w' w.heap.size ao' k' c' (limbs (val ys / d)) ∧ Below w.heap.size w w' := by
 have hle := h.le
 have hcap := h.cap
 have hlen := h.len
 obtain ⟨i0, hi0, hz0, hz1, hz2⟩ := info_parts u32_infoL
 have hdI : ((d : Int) == 0) = false := by simp [hd0]
 have hdI2 : ¬ d = 0 := hd0
 go_enter Tryz.func156, Tryz.ntmps156
 go_wp2_with (at_make; refine wpList_make_full _ rfl _ _ 25 rfl w.heap.size 40 i0 _ 1 Tryz.underlying25 hi0 hz0 hz1 _ _ _ _ n rfl rfl rfl rfl (by rw [hz2]; omega) (by unfold maxLen; omega) (Nat.le_refl _) ?_; intro w1 hown hg1; rw [made_lvs] at hown; have hb1 := (Below.refl w.heap.size w).grown hg1 (Nat.le_refl _) (by simp))
 go_loopw [7, 8] (fun rv i wr => ∃ (k r : Nat) (Q : List Nat), k ≤ n ∧ i = .int .i64 ((k : Int) - 1) ∧ rv = .int .u64 (r : Int) ∧ r < d ∧ Ok Q ∧ Q.length = n - k ∧ Hid (val Q * d + r = val (ys.drop k)) ∧ wr.ownsRow w.heap.size 40 1 (.slice (some ⟨w.heap.size, 0, none⟩) n n) n (lvs (List.replicate k 0 ++ Q)) ∧ Below w.heap.size w wr) (fun _ i _ => (intOf i + 1).toNat)
 case atStart => exact ⟨n, 0, [], Nat.le_refl _, rfl, rfl, by omega, ok_nil, by simp, Lib.hid (by rw [List.drop_of_length_le (by omega)]; simp [val]), by simpa using hown, hb1⟩
 case round =>
  obtain ⟨k, r, Q, hk, rfl, rfl, hr, hQ, hQl, HV, hownk, hbk⟩ := hrel
  by_cases h0 : k = 0
  · subst h0
    have hv : val Q * d + r = val ys := by have := HV.out; rwa [List.drop_zero] at this
    have hdiv : val Q = val ys / d := by
     rw [← hv, Nat.mul_comm, Nat.mul_add_div (by omega), Nat.div_eq_of_lt hr, Nat.add_zero]
    have hmod : r = val ys % d := by
     rw [← hv, Nat.mul_comm, Nat.mul_add_mod, Nat.mod_eq_of_lt hr]
    rw [List.replicate_zero, List.nil_append] at hownk
    have Hd := Lib.hid hdiv
    have Hm := Lib.hid hmod
    have hrm : (r : Int) % 4294967296 = (r : Int) := by omega
    clear hv hdiv hmod HV
    go_wp2_with fail
    refine (nbTrim_own _ hownk hQ).mono ?_
    rintro e w2 ⟨k2, rfl, hF, rfl⟩
    rw [Hd.out] at hF
    go_wp2
    go_ret2
    exact ⟨_, _, _, by rw [← Hm.out]; rfl, hF, hbk⟩
  · obtain ⟨j, rfl⟩ : ∃ j, k = j + 1 := ⟨k - 1, by omega⟩
    obtain ⟨b, o, rfl, hb, hc⟩ := (h.below hbk).at_ (by omega)
    have hcell := hc j (by omega)
    have hx := nth_lt h.ok j
    obtain ⟨t, ht⟩ : ∃ t, t = r * 4294967296 + nth ys j := ⟨_, rfl⟩
    have htl : t < d * 4294967296 := by
     have := Nat.mul_le_mul_right 4294967296 (show r + 1 ≤ d by omega)
     omega
    have hq : t / d < 4294967296 := Nat.div_lt_of_lt_mul htl
    have hrl : t % d < d := Nat.mod_lt _ (by omega)
    have ht64 : t < 18446744073709551616 := by
     have := Nat.mul_le_mul_right 4294967296 (show d ≤ 4294967295 by omega)
     omega
    have hsh : IntKind.u64.wrap ((r : Int) * 4294967296) = (r : Int) * 4294967296 := by rw [IntKind.wrap_u64]; omega
    have hor : bits .or .u64 ((r : Int) * 4294967296) (nth ys j : Int) = (t : Int) := by
     rw [show (r : Int) * 4294967296 = ((r * 2 ^ 32 : Nat) : Int) by omega, u64_or_nat _ _ (by omega) (by omega), or_disj (by omega), ht]
    have hdv : (t : Int) / (d : Int) = ((t / d : Nat) : Int) := (Int.natCast_ediv t d).symm
    have hdv2 : (t : Int).tdiv (d : Int) = ((t / d : Nat) : Int) := by rw [Int.tdiv_eq_ediv_of_nonneg (by omega), hdv]
    have hmd : (t : Int).tmod (d : Int) = ((t % d : Nat) : Int) := (Int.ofNat_tmod t d).symm
    have hmd2 : (t : Int) % (d : Int) = ((t % d : Nat) : Int) := (Int.natCast_emod t d).symm
    have hvn : val ((t / d) :: Q) * d + t % d = val (ys.drop j) := by
     have h1 := HV.out
     have h2 : val (ys.drop j) = nth ys j + 4294967296 * val (ys.drop (j + 1)) := by
      rw [show ys.drop j = nth ys j :: ys.drop (j + 1) from drop_cons (by omega)]
      rfl
     rw [h2, ← h1]
     have h3 := Nat.div_add_mod t d
     show (t / d + 4294967296 * val Q) * d + t % d = _
     rw [Nat.add_mul, Nat.mul_assoc, Nat.mul_comm (t / d) d, Nat.mul_add]
     omega
    obtain ⟨u, hu⟩ : ∃ u, u = t / d := ⟨_, rfl⟩
    obtain ⟨v, hv⟩ : ∃ v, v = t % d := ⟨_, rfl⟩
    rw [← hu] at hq hdv hdv2 hvn
    rw [← hv] at hrl hmd hmd2 hvn
    have hwu : IntKind.u64.wrap (u : Int) = (u : Int) := IntWalk.u64_in _ (by omega)
    have hum : (u : Int) % 4294967296 = (u : Int) := by omega
    have Hvn := Lib.hid hvn
    have hfz := hownk.frozenAt j
    have hst := own_cell hownk (j := j) (by omega)
    obtain ⟨o1, r1⟩ := hownk.stored j (lv u)
    rw [rep_set] at o1
    have hb3 := hbk.grown r1 hbk.size (by simp)
    have hQ2 : Ok (u :: Q) := ok_cons hq hQ
    have i1 : (0 : Int) ≤ (j : Int) := by omega
    have i2 : (j : Int) < (n : Int) := by omega
    clear hc ht htl ht64 hvn hu hv r1 HV
    go_wp2
    exact ⟨⟨j, v, u :: Q, by omega, by go_num, rfl, hrl, hQ2, by simp; omega, Hvn, o1, hb3⟩, by simp [intOf]⟩
end Go.Proofs.YtpmncmglmobjoaaGreatDoor
