/-
  The walks of nat.trimmed and the reference's Trim: a list cut behind its last limb that is not 0. The walk of nat.lowered: a list over a power of two below 2^32, into a row of its own. The walk of nat.Down: a number over a power of two, in a block of its own.
-/
import Derived.Test.YthemcdnlcgmimaaGreatDoorNats
import Derived.Test.YthemcdnlcgmimaaGreatDoorBase
import Derived.Laws.BitsAllLaws
import Derived.Test.YthemcdnlcgmimaaGreatDoorBoxes
namespace Go.Proofs.YthemcdnlcgmimaaGreatDoor
open Go.RowKit Go.Lb

/-- What trimmed hands back. -/
def Trimmed (w : World) (ao : Option Addr) (n : Nat) (ys : List Nat) (e : Ending) (w' : World) : Prop :=
  ∃ k, k ≤ n ∧ e = .returned (.agg #[.slice (if k = 0 then none else ao) k k]) ∧ ys.take k = limbs (val ys) ∧ Below w.heap.size w w'

theorem cut_limbs {ys : List Nat} {k : Nat} (hok : Ok ys) (hk : k ≤ ys.length) (hz : ∀ j, k ≤ j → j < ys.length → nth ys j = 0) (hl : k = 0 ∨ nth ys (k - 1) ≠ 0) : ys.take k = limbs (val ys) :=
  take_eq_limbs hok hk hz hl

set_option maxHeartbeats 800000 in
theorem natTrimmed_any (ao : Option Addr) (n c : Nat) (ys : List Nat) (w : World) (h : Sl w ao n c ys) :
    Calls Tryz.prog 35 #[.slice ao n c] w (Trimmed w ao n ys) := by
  have hle := h.le
  have hcap := h.cap
  go_enter Tryz.func35, Tryz.ntmps35
  go_wp2
  go_loop [3] (fun i => ∃ k : Nat, k ≤ n ∧ i = .int .i64 k ∧ Hid (∀ j, k ≤ j → j < n → nth ys j = 0)) (fun i => (intOf i).toNat)
  case atStart => exact ⟨n, Nat.le_refl _, rfl, Lib.hid (fun j h1 h2 => absurd h2 (by omega))⟩
  case round =>
    obtain ⟨k, hk, rfl, H⟩ := hrel
    by_cases h0 : k = 0
    · subst h0
      go_wp2
      refine bodyPost_ret (v := .agg #[.slice none 0 0]) (by simp [results, Tryz.results35, go_sem]) rfl ⟨0, by omega, rfl, cut_limbs h.ok (by omega) (by rw [h.len]; exact H.out) (.inl rfl), more (Below.refl _ _) _⟩
    · obtain ⟨b, o, rfl, hb, hc⟩ := h.at_ (by omega)
      have hcell := hc (k - 1) (by omega)
      by_cases h2 : nth ys (k - 1) = 0
      · rw [h2] at hcell
        have H2 := Lib.hid h2
        clear hc h2
        go_wp2
        go_round
        case rel => exact ⟨k - 1, by omega, by go_num, Lib.hid (fun j h1 h3 => by
          by_cases hj : j = k - 1
          · rw [hj]; exact H2.out
          · exact H.out j (by omega) h3)⟩
        case measure => simp [intOf]; omega
      · have hne : ((nth ys (k - 1) : Int) == 0) = false := by simp; omega
        have hk0 : ((k : Int) == 0) = false := by simp; omega
        clear hc
        go_wp2
        refine bodyPost_ret (v := .agg #[.slice (some ⟨b, o, none⟩) k k]) (by simp [results, Tryz.results35, go_sem]) rfl ⟨k, by omega, by rw [if_neg h0], cut_limbs h.ok (by rw [h.len]; omega) (by rw [h.len]; exact H.out) (.inr h2), more (Below.refl _ _) _⟩

end Go.Proofs.YthemcdnlcgmimaaGreatDoor

namespace Go.Proofs.YthemcdnlcgmimaaGreatDoor
open Go.RowKit Go.Lb

theorem u32_infoL : (Tryz.prog.info? 46).map (fun i => (i.zero, i.size, i.bytes)) = some (some (.int .u32 0), 1, 4) := by kernel_rfl

theorem made_lvs (n : Nat) : (madeCells (Value.int .u32 0).cells (n * 1)).toList = lvs (List.replicate n 0) := by
  rw [show (Value.int .u32 0).cells = #[Value.int .u32 0] from rfl, toList_madeCells_one, Nat.mul_one]
  unfold lvs
  rw [List.map_replicate]
  rfl

/-- What lowered hands back. -/
def Lowered (w : World) (n s : Nat) (ys : List Nat) (e : Ending) (w' : World) : Prop :=
  ∃ g, e = .returned (.slice (some ⟨g, 0, none⟩) n n) ∧ w'.ownsRow w.heap.size 46 1 (.slice (some ⟨g, 0, none⟩) n n) n (lvs (lowL s ys)) ∧ Below w.heap.size w w'

/-- What stands in the row when the places from k on are done. -/
def lowAt (s k : Nat) (ys : List Nat) : List Nat := List.replicate k 0 ++ (lowL s ys).drop k

theorem lowAt_step {s k : Nat} {ys : List Nat} (hk : k < ys.length) : (lvs (lowAt s (k + 1) ys)).set k (lv (nth (lowL s ys) k)) = lvs (lowAt s k ys) := by
  have hl : k < (lowL s ys).length := by rw [lowL_length]; exact hk
  unfold lowAt lvs
  rw [List.map_append, List.map_append, List.replicate_succ', List.map_append, List.append_assoc, List.set_append_right _ _ (by simp)]
  have e : (lowL s ys).drop k = nth (lowL s ys) k :: (lowL s ys).drop (k + 1) := by
    rw [List.drop_eq_getElem_cons hl]
    unfold nth
    rw [List.getD_eq_getElem?_getD, List.getElem?_eq_getElem hl]
    rfl
  rw [e]
  simp

theorem low_cast (a b s : Nat) : ((a : Int) * 4294967296 + (b : Int)) / 2 ^ s % 4294967296 = (((a * 4294967296 + b) / 2 ^ s % 4294967296 : Nat) : Int) := by
  rw [Int.natCast_emod, Int.natCast_ediv, Int.natCast_add, Int.natCast_mul, Int.natCast_pow]
  rfl

theorem shl_or (t0 y : Nat) (h0 : t0 < 4294967296) (h1 : y < 4294967296) : bits .or .u64 ((t0 : Int) * 4294967296) (y : Int) = ((t0 * 4294967296 + y : Nat) : Int) := by
  rw [show (t0 : Int) * 4294967296 = ((t0 * 4294967296 : Nat) : Int) by omega, u64_or_nat _ _ (by omega) (by omega), nat_join 32 _ _ (by omega) (by omega)]

set_option maxRecDepth 100000 in
set_option maxHeartbeats 1600000 in
theorem natLowered_any (ao : Option Addr) (n c s : Nat) (ys : List Nat) (w : World) (h : Sl w ao n c ys) (hs : s < 32) (hn : n ≤ 35184372088832) :
    Calls Tryz.prog 65 #[.slice ao n c, .int .i64 s] w (Lowered w n s ys) := by
  obtain ⟨i0, hi0, hz0, hz1, hz2⟩ := info_parts u32_infoL
  have hle := h.le
  have hcap := h.cap
  go_enter Tryz.func65, Tryz.ntmps65
  go_wp2_with (at_make; refine wpList_make_full _ rfl _ _ 22 rfl w.heap.size 46 i0 _ 1 Tryz.underlying22 hi0 hz0 hz1 _ _ _ _ n rfl rfl rfl rfl (by rw [hz2]; omega) (by unfold maxLen; omega) (Nat.le_refl _) ?_; intro w1 hown hg1; rw [made_lvs] at hown; have hb1 := (Below.refl w.heap.size w).grown hg1 (Nat.le_refl _) (by simp))
  go_loopw [6, 7] (fun a i wr => ∃ k : Nat, k ≤ n ∧ i = .int .i64 ((k : Int) - 1) ∧ a = .int .u64 (nth ys k : Int) ∧ wr.ownsRow w.heap.size 46 1 (.slice (some ⟨w.heap.size, 0, none⟩) n n) n (lvs (lowAt s k ys)) ∧ Below w.heap.size w wr) (fun _ i _ => (intOf i + 1).toNat)
  case atStart =>
    have e1 : lowAt s n ys = List.replicate n 0 := by unfold lowAt; rw [List.drop_of_length_le (by rw [lowL_length, h.len]; exact Nat.le_refl _), List.append_nil]
    have e2 : nth ys n = 0 := by unfold nth; rw [List.getD_eq_getElem?_getD, List.getElem?_eq_none (by rw [h.len]; exact Nat.le_refl _)]; rfl
    exact ⟨n, Nat.le_refl _, rfl, by rw [e2]; rfl, by rw [e1]; exact hown, hb1⟩
  case round =>
    obtain ⟨k, hk, rfl, rfl, hownk, hbk⟩ := hrel
    by_cases h0 : k = 0
    · subst h0
      go_wp2
      go_ret
      exact ⟨_, rfl, by simpa [lowAt] using hownk, hbk⟩
    · obtain ⟨j, rfl⟩ : ∃ j, k = j + 1 := ⟨k - 1, by omega⟩
      obtain ⟨b, o, rfl, hb, hc⟩ := (h.below hbk).at_ (by omega)
      have hcell := hc j (by omega)
      clear hc
      have hnl := nth_lt h.ok (j + 1)
      have hnj := nth_lt h.ok j
      have hst := own_cell hownk (j := j) (by omega)
      have hfz := hownk.frozenAt j
      have q1 : IntKind.u64.wrap ((nth ys (j + 1) : Int) * 4294967296) = (nth ys (j + 1) : Int) * 4294967296 := by rw [IntKind.wrap_u64]; omega
      have q2 : IntKind.u64.wrap (nth ys j : Int) = (nth ys j : Int) := by rw [IntKind.wrap_u64]; omega
      have q3 := shl_or _ _ hnl hnj
      obtain ⟨hown2, hg2⟩ := hownk.stored j (lv (nth (lowL s ys) j))
      rw [lowAt_step (by rw [h.len]; omega)] at hown2
      have hb2 := hbk.grown hg2 hbk.size (by simp)
      go_wp2

      have eW : (Value.int .u32 (((nth ys (j + 1) : Int) * 4294967296 + (nth ys j : Int)) / 2 ^ s % 4294967296)) = lv (nth (lowL s ys) j) := by
        rw [nth_lowL s ys (by rw [h.len]; omega)]
        unfold lv
        rw [low_cast]
      rw [eW]
      exact ⟨⟨j, by omega, rfl, rfl, hown2, hb2⟩, by simp [intOf]⟩
end Go.Proofs.YthemcdnlcgmimaaGreatDoor

namespace Go.Proofs.YthemcdnlcgmimaaGreatDoor
open Go.RowKit Go.Lb

/-- An answer that is a number and an error. -/
def Numb (w : World) (N : Nat) (er : Int) (e : Ending) (w' : World) : Prop :=
  ∃ ao n c, e = .returned (.tuple #[.agg #[.slice ao n c], .int .i64 er]) ∧ Fr 46 w' w.heap.size ao n c (limbs N) ∧ Below w.heap.size w w'

theorem ok_lowered (s : Nat) (ys : List Nat) : Ok (lowL s ys) := ok_lowL s ys

/-- What trimmed cuts of a row that is owned. -/
theorem fr_trimmed {w w' : World} {base g n k : Nat} {ys : List Nat} (h : w.ownsRow base 46 1 (.slice (some ⟨g, 0, none⟩) n n) n (lvs ys)) (hok : Ok ys) (hk : k ≤ n) (hv : ys.take k = limbs (val ys)) (hb : Below w.heap.size w w') :
    Fr 46 w' base (if k = 0 then none else some ⟨g, 0, none⟩) k k (limbs (val ys)) := by
  by_cases h0 : k = 0
  · subst h0
    rw [if_pos rfl, ← hv]
    exact fr_nil _ _ _
  · rw [if_neg h0, ← hv]
    exact (fr_own h hok hk (Nat.le_refl _) hk).below hb

/-- trimmed of a row that is owned. -/
theorem natTrimmed_own {base g n : Nat} {ys : List Nat} (w : World) (h : w.ownsRow base 46 1 (.slice (some ⟨g, 0, none⟩) n n) n (lvs ys)) (hok : Ok ys) :
    Calls Tryz.prog 35 #[.slice (some ⟨g, 0, none⟩) n n] w fun e w' => ∃ ao k, e = .returned (.agg #[.slice ao k k]) ∧ Fr 46 w' base ao k k (limbs (val ys)) ∧ Below w.heap.size w w' := by
  refine (natTrimmed_any _ n n ys w (own_sl h hok)).mono ?_
  rintro e w' ⟨k, hk, rfl, hv, hb⟩
  exact ⟨_, k, rfl, fr_trimmed h hok hk hv hb, hb⟩

theorem natLowered_i (ao : Option Addr) (n c s : Nat) (x : Int) (hx : x = (s : Int)) (ys : List Nat) (w : World) (h : Sl w ao n c ys) (hs : s < 32) (hn : n ≤ 35184372088832) :
    Calls Tryz.prog 65 #[.slice ao n c, .int .i64 x] w (Lowered w n s ys) := by
  subst hx
  exact natLowered_any ao n c s ys w h hs hn

theorem val_down {ys : List Nat} (h : Ok ys) (k : Nat) : val (lowL (k % 32) (ys.drop (k / 32))) = val ys / 2 ^ k := by
  rw [val_lowL (by omega) (ok_drop h _), val_drop ys h, Nat.div_div_eq_div_mul, ← Nat.pow_add]
  congr 2
  omega

set_option maxRecDepth 100000 in
set_option maxHeartbeats 1600000 in
theorem natDown_any (ao : Option Addr) (n c k : Nat) (ys : List Nat) (w : World) (h : Sl w ao n c ys) (hc : chk ys = 0) (hkb : k ≤ 9223372036854775807) :
    Calls Tryz.prog 48 #[.agg #[.slice ao n c], .int .i64 k] w (Numb w (val ys / 2 ^ k) 0) := by
  have hlen := chk_zero_len hc
  have hl := h.len
  have hcB : (chk ys != 0) = false := by simp [hc]
  by_cases h1 : n ≤ k / 32
  · have hge : (n : Int) ≤ (k : Int) / 32 := by omega
    have hz : val ys / 2 ^ k = 0 := by
      refine Nat.div_eq_of_lt (Nat.lt_of_lt_of_le (val_lt h.ok) ?_)
      rw [pow32]
      exact Nat.pow_le_pow_right (by decide) (by omega)
    have Hz := Lib.hid hz
    clear hz hc
    go_enter Tryz.func48, Tryz.ntmps48
    go_wp2_with (go_at_call 32; refine (natCheck_any ao n c ys _ ((h.alloc _).alloc _)).mono ?_; rintro e w1 ⟨rfl, hb1⟩; obtain ⟨hc1, hf1⟩ := bcell hb1; obtain ⟨hz1, hz2⟩ := bsz2 hb1)
    have hcell : w1.cell? ⟨w.heap.size + 1, 0, none⟩ = some (.slice none 0 0) := (hc1 _ _ (by simp)).trans (by simp [go_sem])
    refine bodyPost_ret (v := .tuple #[.agg #[.slice none 0 0], .int .i64 0]) (by simp [results, Tryz.results48, go_sem, World.cell?_setCell_same _ _ _ hcell]) rfl ⟨none, 0, 0, rfl, ?_, ?_⟩
    · rw [Hz.out]; exact fr_nil _ _ _
    · exact (next (more (more (Below.refl _ _) _) _) hb1).setCell (by simp) _
  · obtain ⟨b, o, rfl, hb, hcl⟩ := h.at_ (by omega)
    have hlt : ¬ ((n : Int) ≤ (k : Int) / 32) := by omega
    have hS := h.drop (i := k / 32) (by omega)
    have hm : k % 32 < 32 := by omega
    have hmod : ((k : Int) % 32) = ((k % 32 : Nat) : Int) := by omega
    have hne : ¬ c = k / 32 := by have := h.le; omega
    have Hm := Lib.hid hmod
    have hv := val_down h.ok k
    have Hv := Lib.hid hv
    clear hc hcl hmod hv
    go_enter Tryz.func48, Tryz.ntmps48
    go_wp2_with (first
      | (go_at_call 32; refine (natCheck_any _ n c ys _ ((h.alloc _).alloc _)).mono ?_; rintro e w1 ⟨rfl, hb1⟩; obtain ⟨hc1, hf1⟩ := bcell hb1; obtain ⟨hz1, hz2⟩ := bsz2 hb1; have hW := next (more (more (Below.refl _ _) _) _) hb1; have r1 : w1.cell? ⟨w.heap.size + 1, 0, none⟩ = some (.slice none 0 0) ∧ w1.frozen? ⟨w.heap.size + 1, 0, none⟩ = false := ⟨(hc1 _ _ (by simp)).trans (by simp [go_sem]), (hf1 _ _ (by simp)).trans (by simp [go_sem])⟩)
      | (go_at_call 65; refine (natLowered_i _ (n - k / 32) (c - k / 32) (k % 32) _ Hm.out _ _ (((hS.alloc _).alloc _).below hb1) hm (by omega)).mono ?_; rintro e w2 ⟨g, rfl, hown2, hb2⟩; replace hW := next hW hb2; have r2 := cfStay r1 hb2)
      | (go_at_call 35; refine (natTrimmed_own _ hown2 (ok_lowL _ _)).mono ?_; rintro e w3 ⟨a3, k3, rfl, hF, hb3⟩; replace hW := next hW hb3; obtain ⟨r3, z3⟩ := cfStay r2 hb3))
    refine bodyPost_ret (v := .tuple #[.agg #[.slice a3 k3 k3], .int .i64 0]) (by simp [results, Tryz.results48, go_sem, World.cell?_setCell_same _ _ _ r3]) rfl ⟨a3, k3, k3, rfl, ?_, hW.setCell (by simp) _⟩
    rw [Hv.out] at hF
    exact (hF.setCell (by simpa using hz2) _).mono (by omega)
end Go.Proofs.YthemcdnlcgmimaaGreatDoor
