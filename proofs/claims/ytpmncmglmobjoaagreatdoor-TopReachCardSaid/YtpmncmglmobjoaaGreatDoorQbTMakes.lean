/-
  The walks of nat.trimmed and the reference's Trim: a list cut behind its last limb that is not 0. The walk of nat.lowered: a list over a power of two below 2^32, into a row of its own. The walk of nat.Down: a number over a power of two, in a block of its own. The walks of math/bits.TrailingZeros32 (its table laid), exact.even and the reference's even: how many bits 0 a number has at its end. The walks of the reference's Trim, down, nat, Down: a number over a power of two. Plain: what Make answers of any number, sign and exponent. The walk of exact.Make: the dyadic of any number, sign and exponent. The walk of the reference's Make: the dyadic of any number, sign and exponent.
-/
import Derived.Test.YtpmncmglmobjoaaGreatDoorQbTMT1
set_option maxHeartbeats 2000000
set_option maxRecDepth 100000
namespace Go.Proofs.YtpmncmglmobjoaaGreatDoor
open Go.RowKit Go.Lb
def Trimmed (w : World) (ao : Option Addr) (n : Nat) (ys : List Nat) (e : Ending) (w' : World) : Prop :=
 ∃ k, k ≤ n ∧ e = .returned (.agg #[.slice (if k = 0 then none else ao) k k]) ∧ ys.take k = limbs (val ys) ∧ Below w.heap.size w w'
theorem cut_limbs {ys : List Nat} {k : Nat} (hok : Ok ys) (hk : k ≤ ys.length) (hz : ∀ j, k ≤ j → j < ys.length → nth ys j = 0) (hl : k = 0 ∨ nth ys (k - 1) ≠ 0) : ys.take k = limbs (val ys) :=
 take_eq_limbs hok hk hz hl
theorem natTrimmed_any (ao : Option Addr) (n c : Nat) (ys : List Nat) (w : World) (h : Sl w ao n c ys) :
 Calls Tryz.prog 72 #[.slice ao n c] w (Trimmed w ao n ys) := by
 have hle := h.le
 have hcap := h.cap
 go_enter Tryz.func72, Tryz.ntmps72
 go_wp2
 go_loop [3] (fun i => ∃ k : Nat, k ≤ n ∧ i = .int .i64 k ∧ Hid (∀ j, k ≤ j → j < n → nth ys j = 0)) (fun i => (intOf i).toNat)
 case atStart => exact ⟨n, Nat.le_refl _, rfl, Lib.hid (fun j h1 h2 => absurd h2 (by omega))⟩
 case round =>
  obtain ⟨k, hk, rfl, H⟩ := hrel
  by_cases h0 : k = 0
  · subst h0
    go_wp2
    refine bodyPost_ret (v := .agg #[.slice none 0 0]) (by simp [results, Tryz.results72, go_sem]) rfl ⟨0, by omega, rfl, cut_limbs h.ok (by omega) (by rw [h.len]; exact H.out) (.inl rfl), more (Below.refl _ _) _⟩
  · obtain ⟨b, o, rfl, hb, hc⟩ := h.at_ (by omega)
    have hcell := hc (k - 1) (by omega)
    by_cases h2 : nth ys (k - 1) = 0
    · rw [h2] at hcell
      have H2 := Lib.hid h2
      clear hc h2
      go_wp2
      go_round
      case rel => exact ⟨k - 1, by omega, by go_num, Lib.hid (fun j h1 h3 => by
       by_cases hj : j = k - 1
       · rw [hj]; exact H2.out
       · exact H.out j (by omega) h3)⟩
      case measure => simp [intOf]; omega
    · have hne : ((nth ys (k - 1) : Int) == 0) = false := by simp; omega
      have hk0 : ((k : Int) == 0) = false := by simp; omega
      clear hc
      go_wp2
      refine bodyPost_ret (v := .agg #[.slice (some ⟨b, o, none⟩) k k]) (by simp [results, Tryz.results72, go_sem]) rfl ⟨k, by omega, by rw [if_neg h0], cut_limbs h.ok (by rw [h.len]; omega) (by rw [h.len]; exact H.out) (.inr h2), more (Below.refl _ _) _⟩
theorem u32_infoL : (Tryz.prog.info? 40).map (fun i => (i.zero, i.size, i.bytes)) = some (some (.int .u32 0), 1, 4) := by kernel_rfl
theorem made_lvs (n : Nat) : (madeCells (Value.int .u32 0).cells (n * 1)).toList = lvs (List.replicate n 0) := by
 rw [show (Value.int .u32 0).cells = #[Value.int .u32 0] from rfl, toList_madeCells_one, Nat.mul_one]
 unfold lvs
 rw [List.map_replicate]
 rfl
def Lowered (w : World) (n s : Nat) (ys : List Nat) (e : Ending) (w' : World) : Prop :=
 ∃ g, e = .returned (.slice (some ⟨g, 0, none⟩) n n) ∧ w'.ownsRow w.heap.size 40 1 (.slice (some ⟨g, 0, none⟩) n n) n (lvs (lowL s ys)) ∧ Below w.heap.size w w'
def lowAt (s k : Nat) (ys : List Nat) : List Nat := List.replicate k 0 ++ (lowL s ys).drop k
theorem lowAt_step {s k : Nat} {ys : List Nat} (hk : k < ys.length) : (lvs (lowAt s (k + 1) ys)).set k (lv (nth (lowL s ys) k)) = lvs (lowAt s k ys) := by
 have hl : k < (lowL s ys).length := by rw [lowL_length]; exact hk
 unfold lowAt lvs
 rw [List.map_append, List.map_append, List.replicate_succ', List.map_append, List.append_assoc, List.set_append_right _ _ (by simp)]
 have e : (lowL s ys).drop k = nth (lowL s ys) k :: (lowL s ys).drop (k + 1) := by
  rw [List.drop_eq_getElem_cons hl]
  unfold nth
  rw [List.getD_eq_getElem?_getD, List.getElem?_eq_getElem hl]
  rfl
 rw [e]
 simp
theorem low_cast (a b s : Nat) : ((a : Int) * 4294967296 + (b : Int)) / 2 ^ s % 4294967296 = (((a * 4294967296 + b) / 2 ^ s % 4294967296 : Nat) : Int) := by
 rw [Int.natCast_emod, Int.natCast_ediv, Int.natCast_add, Int.natCast_mul, Int.natCast_pow]
 rfl
theorem shl_or (t0 y : Nat) (h0 : t0 < 4294967296) (h1 : y < 4294967296) : bits .or .u64 ((t0 : Int) * 4294967296) (y : Int) = ((t0 * 4294967296 + y : Nat) : Int) := by
 rw [show (t0 : Int) * 4294967296 = ((t0 * 4294967296 : Nat) : Int) by omega, u64_or_nat _ _ (by omega) (by omega), nat_join 32 _ _ (by omega) (by omega)]
theorem natLowered_any (ao : Option Addr) (n c s : Nat) (ys : List Nat) (w : World) (h : Sl w ao n c ys) (hs : s < 32) (hn : n ≤ 35184372088832) :
 Calls Tryz.prog 114 #[.slice ao n c, .int .i64 s] w (Lowered w n s ys) := by
 obtain ⟨i0, hi0, hz0, hz1, hz2⟩ := info_parts u32_infoL
 have hle := h.le
 have hcap := h.cap
 go_enter Tryz.func114, Tryz.ntmps114
 go_wp2_with (at_make; refine wpList_make_full _ rfl _ _ 25 rfl w.heap.size 40 i0 _ 1 Tryz.underlying25 hi0 hz0 hz1 _ _ _ _ n rfl rfl rfl rfl (by rw [hz2]; omega) (by unfold maxLen; omega) (Nat.le_refl _) ?_; intro w1 hown hg1; rw [made_lvs] at hown; have hb1 := (Below.refl w.heap.size w).grown hg1 (Nat.le_refl _) (by simp))
 go_loopw [6, 7] (fun a i wr => ∃ k : Nat, k ≤ n ∧ i = .int .i64 ((k : Int) - 1) ∧ a = .int .u64 (nth ys k : Int) ∧ wr.ownsRow w.heap.size 40 1 (.slice (some ⟨w.heap.size, 0, none⟩) n n) n (lvs (lowAt s k ys)) ∧ Below w.heap.size w wr) (fun _ i _ => (intOf i + 1).toNat)
 case atStart =>
  have e1 : lowAt s n ys = List.replicate n 0 := by unfold lowAt; rw [List.drop_of_length_le (by rw [lowL_length, h.len]; exact Nat.le_refl _), List.append_nil]
  have e2 : nth ys n = 0 := by unfold nth; rw [List.getD_eq_getElem?_getD, List.getElem?_eq_none (by rw [h.len]; exact Nat.le_refl _)]; rfl
  exact ⟨n, Nat.le_refl _, rfl, by rw [e2]; rfl, by rw [e1]; exact hown, hb1⟩
 case round =>
  obtain ⟨k, hk, rfl, rfl, hownk, hbk⟩ := hrel
  by_cases h0 : k = 0
  · subst h0
    go_wp2
    go_ret
    exact ⟨_, rfl, by simpa [lowAt] using hownk, hbk⟩
  · obtain ⟨j, rfl⟩ : ∃ j, k = j + 1 := ⟨k - 1, by omega⟩
    obtain ⟨b, o, rfl, hb, hc⟩ := (h.below hbk).at_ (by omega)
    have hcell := hc j (by omega)
    clear hc
    have hnl := nth_lt h.ok (j + 1)
    have hnj := nth_lt h.ok j
    have hst := own_cell hownk (j := j) (by omega)
    have hfz := hownk.frozenAt j
    have q1 : IntKind.u64.wrap ((nth ys (j + 1) : Int) * 4294967296) = (nth ys (j + 1) : Int) * 4294967296 := by rw [IntKind.wrap_u64]; omega
    have q2 : IntKind.u64.wrap (nth ys j : Int) = (nth ys j : Int) := by rw [IntKind.wrap_u64]; omega
    have q3 := shl_or _ _ hnl hnj
    obtain ⟨hown2, hg2⟩ := hownk.stored j (lv (nth (lowL s ys) j))
    rw [lowAt_step (by rw [h.len]; omega)] at hown2
    have hb2 := hbk.grown hg2 hbk.size (by simp)
    go_wp2
    have eW : (Value.int .u32 (((nth ys (j + 1) : Int) * 4294967296 + (nth ys j : Int)) / 2 ^ s % 4294967296)) = lv (nth (lowL s ys) j) := by
     rw [nth_lowL s ys (by rw [h.len]; omega)]
     unfold lv
     rw [low_cast]
    rw [eW]
    exact ⟨⟨j, by omega, rfl, rfl, hown2, hb2⟩, by simp [intOf]⟩
def Numb (w : World) (N : Nat) (er : Int) (e : Ending) (w' : World) : Prop :=
 ∃ ao n c, e = .returned (.tuple #[.agg #[.slice ao n c], .int .i64 er]) ∧ Fr 40 w' w.heap.size ao n c (limbs N) ∧ Below w.heap.size w w'
theorem fr_trimmed {w w' : World} {base g n k : Nat} {ys : List Nat} (h : w.ownsRow base 40 1 (.slice (some ⟨g, 0, none⟩) n n) n (lvs ys)) (hok : Ok ys) (hk : k ≤ n) (hv : ys.take k = limbs (val ys)) (hb : Below w.heap.size w w') :
 Fr 40 w' base (if k = 0 then none else some ⟨g, 0, none⟩) k k (limbs (val ys)) := by
 by_cases h0 : k = 0
 · subst h0
   rw [if_pos rfl, ← hv]
   exact fr_nil _ _ _
 · rw [if_neg h0, ← hv]
   exact (fr_own h hok hk (Nat.le_refl _) hk).below hb
theorem natTrimmed_own {base g n : Nat} {ys : List Nat} (w : World) (h : w.ownsRow base 40 1 (.slice (some ⟨g, 0, none⟩) n n) n (lvs ys)) (hok : Ok ys) :
 Calls Tryz.prog 72 #[.slice (some ⟨g, 0, none⟩) n n] w fun e w' => ∃ ao k, e = .returned (.agg #[.slice ao k k]) ∧ Fr 40 w' base ao k k (limbs (val ys)) ∧ Below w.heap.size w w' := by
 refine (natTrimmed_any _ n n ys w (own_sl h hok)).mono ?_
 rintro e w' ⟨k, hk, rfl, hv, hb⟩
 exact ⟨_, k, rfl, fr_trimmed h hok hk hv hb, hb⟩
theorem natLowered_i (ao : Option Addr) (n c s : Nat) (x : Int) (hx : x = (s : Int)) (ys : List Nat) (w : World) (h : Sl w ao n c ys) (hs : s < 32) (hn : n ≤ 35184372088832) :
 Calls Tryz.prog 114 #[.slice ao n c, .int .i64 x] w (Lowered w n s ys) := by
 subst hx
 exact natLowered_any ao n c s ys w h hs hn
theorem val_down {ys : List Nat} (h : Ok ys) (k : Nat) : val (lowL (k % 32) (ys.drop (k / 32))) = val ys / 2 ^ k := by
 rw [val_lowL (by omega) (ok_drop h _), val_drop ys h, Nat.div_div_eq_div_mul, ← Nat.pow_add]
 congr 2
 omega
theorem natDown_any (ao : Option Addr) (n c k : Nat) (ys : List Nat) (w : World) (h : Sl w ao n c ys) (hc : chk ys = 0) (hkb : k ≤ 9223372036854775807) :
 Calls Tryz.prog 71 #[.agg #[.slice ao n c], .int .i64 k] w (Numb w (val ys / 2 ^ k) 0) := by
 have hlen := chk_zero_len hc
 have hl := h.len
 have hcB : (chk ys != 0) = false := by simp [hc]
 by_cases h1 : n ≤ k / 32
 · have hge : (n : Int) ≤ (k : Int) / 32 := by omega
   have hz : val ys / 2 ^ k = 0 := by
    refine Nat.div_eq_of_lt (Nat.lt_of_lt_of_le (val_lt h.ok) ?_)
    rw [pow32]
    exact Nat.pow_le_pow_right (by decide) (by omega)
   have Hz := Lib.hid hz
   clear hz hc
   go_enter Tryz.func71, Tryz.ntmps71
   go_wp2_with (go_at_call 67; refine (natCheck_any ao n c ys _ ((h.alloc _).alloc _)).mono ?_; rintro e w1 ⟨rfl, hb1⟩; obtain ⟨hc1, hf1⟩ := bcell hb1; obtain ⟨hz1, hz2⟩ := bsz2 hb1)
   have hcell : w1.cell? ⟨w.heap.size + 1, 0, none⟩ = some (.slice none 0 0) := (hc1 _ _ (by simp)).trans (by simp [go_sem])
   refine bodyPost_ret (v := .tuple #[.agg #[.slice none 0 0], .int .i64 0]) (by simp [results, Tryz.results71, go_sem, World.cell?_setCell_same _ _ _ hcell]) rfl ⟨none, 0, 0, rfl, ?_, ?_⟩
   · rw [Hz.out]; exact fr_nil _ _ _
   · exact (next (more (more (Below.refl _ _) _) _) hb1).setCell (by simp) _
 · obtain ⟨b, o, rfl, hb, hcl⟩ := h.at_ (by omega)
   have hlt : ¬ ((n : Int) ≤ (k : Int) / 32) := by omega
   have hS := h.drop (i := k / 32) (by omega)
   have hm : k % 32 < 32 := by omega
   have hmod : ((k : Int) % 32) = ((k % 32 : Nat) : Int) := by omega
   have hne : ¬ c = k / 32 := by have := h.le; omega
   have Hm := Lib.hid hmod
   have hv := val_down h.ok k
   have Hv := Lib.hid hv
   clear hc hcl hmod hv
   go_enter Tryz.func71, Tryz.ntmps71
   go_wp2_with (first
    | (go_at_call 67; refine (natCheck_any _ n c ys _ ((h.alloc _).alloc _)).mono ?_; rintro e w1 ⟨rfl, hb1⟩; obtain ⟨hc1, hf1⟩ := bcell hb1; obtain ⟨hz1, hz2⟩ := bsz2 hb1; have hW := next (more (more (Below.refl _ _) _) _) hb1; have r1 : w1.cell? ⟨w.heap.size + 1, 0, none⟩ = some (.slice none 0 0) ∧ w1.frozen? ⟨w.heap.size + 1, 0, none⟩ = false := ⟨(hc1 _ _ (by simp)).trans (by simp [go_sem]), (hf1 _ _ (by simp)).trans (by simp [go_sem])⟩)
    | (go_at_call 114; refine (natLowered_i _ (n - k / 32) (c - k / 32) (k % 32) _ Hm.out _ _ (((hS.alloc _).alloc _).below hb1) hm (by omega)).mono ?_; rintro e w2 ⟨g, rfl, hown2, hb2⟩; replace hW := next hW hb2; have r2 := cfStay r1 hb2)
    | (go_at_call 72; refine (natTrimmed_own _ hown2 (ok_lowL _ _)).mono ?_; rintro e w3 ⟨a3, k3, rfl, hF, hb3⟩; replace hW := next hW hb3; obtain ⟨r3, z3⟩ := cfStay r2 hb3))
   refine bodyPost_ret (v := .tuple #[.agg #[.slice a3 k3 k3], .int .i64 0]) (by simp [results, Tryz.results71, go_sem, World.cell?_setCell_same _ _ _ r3]) rfl ⟨a3, k3, k3, rfl, ?_, hW.setCell (by simp) _⟩
   rw [Hv.out] at hF
   exact (hF.setCell (by simpa using hz2) _).mono (by omega)
def Tab (w : World) : Prop := ∀ j, j < 32 → w.cell? ⟨0, j, none⟩ = some (.int .u8 (Lib.deBruijn32tab.getD j 0))
theorem Tab.below {w w' : World} (h : Tab w) (hb : Below w.heap.size w w') : Tab w' := fun j hj => cellStay (h j hj) hb
theorem Tab.alloc {w : World} (h : Tab w) (o : Obj) : Tab (w.alloc o) := h.below ((Below.refl _ _).alloc (Nat.le_refl _) o)
theorem Tab.drew {w : World} (h : Tab w) : Tab w.drew := h
theorem Tab.drewN {w : World} (h : Tab w) (k : Nat) : Tab (w.drewN k) := fun j hj => by simpa using h j hj
theorem tz32_core (x k idx : Nat) (w : World) (hx0 : ((x : Int) == 0) = false)
 (key : bits BinOp.and IntKind.u32 (x : Int) (-(x : Int) % 4294967296) * 125613361 % 4294967296 / 134217728 = (idx : Int))
 (hi : idx < 32) (hk : k < 32) (hcell : w.cell? ⟨0, idx, none⟩ = some (.int .u8 k)) :
 Calls Tryz.prog 113 #[.int .u32 x] w fun e w' => e = .returned (.int .i64 k) ∧ w = w' := by
 go_enter Tryz.func113, Tryz.ntmps113
 go_wp2_with (simp only [key])
 go_ret
 exact ⟨rfl, rfl⟩
theorem tz32_key (x a : Nat) (hx : x < 4294967296) (hx0 : x ≠ 0) (hlow : x &&& (4294967296 - x) = a) :
 bits BinOp.and IntKind.u32 (x : Int) (-(x : Int) % 4294967296) * 125613361 % 4294967296 / 134217728 = ((a * 125613361 % 4294967296 / 134217728 : Nat) : Int) := by
 have e1 : -(x : Int) % 4294967296 = ((4294967296 - x : Nat) : Int) := by omega
 rw [e1, u32_and_nat x _ hx (by omega), hlow]
 omega
theorem tz32_any (x : Nat) (hx : x < 4294967296) (hx0 : x ≠ 0) (w : World) (hT : Tab w) :
 Calls Tryz.prog 113 #[.int .u32 x] w fun e w' => e = .returned (.int .i64 (Lib.ctz 32 x)) ∧ w = w' := by
 obtain ⟨hlow, hk⟩ := Lib.lowest_bit 32 x hx0 hx
 obtain ⟨hi, htab⟩ := Lib.deBruijn32_at _ hk
 have hcell := hT _ hi
 rw [htab] at hcell
 exact tz32_core x _ _ w (by simp; omega) (tz32_key x _ hx hx0 hlow) hi hk hcell
theorem exEven_any (ao : Option Addr) (n c : Nat) (ys : List Nat) (w : World) (h : Sl w ao n c ys) (h0 : val ys ≠ 0) (hn : n ≤ 16384) (hT : Tab w) :
 Calls Tryz.prog 69 #[.agg #[.slice ao n c]] w fun e w' => e = .returned (.int .i64 (tz (val ys))) ∧ Below w.heap.size w w' := by
 have hl := h.len
 go_enter Tryz.func69, Tryz.ntmps69
 go_wp2
 go_loop [3] (fun i => ∃ k : Nat, 32 * k ≤ tz (val ys) ∧ i = .int .i64 (32 * (k : Int))) (fun i => tz (val ys) + 1 - (intOf i).toNat)
 case atStart => exact ⟨0, by omega, rfl⟩
 case round =>
  obtain ⟨k, hk, rfl⟩ := hrel
  have ht := tz_lt h.ok h0
  have hkn : k < n := by omega
  obtain ⟨b, o, rfl, hb, hc⟩ := h.at_ (by omega)
  have hcell := hc k hkn
  have q : (32 * (k : Int)) / 32 = (k : Int) := by omega
  clear hc
  by_cases h2 : nth ys k = 0
  · have hnx := tz_next h.ok h0 hk h2
    rw [h2] at hcell
    clear h2
    go_wp2
    go_round
    case rel => exact ⟨k + 1, by omega, by go_num⟩
    case measure => simp [intOf]; omega
  · have hh := tz_here h.ok h0 hk h2
    have hlt := nth_lt h.ok k
    have hne : ((nth ys k : Int) == 0) = false := by simp; omega
    have Hh := Lib.hid hh
    have hcl : Lib.ctz 32 (nth ys k) < 32 := (Lib.lowest_bit 32 _ h2 hlt).2
    clear hh
    go_wp2_with (go_at_call 113; refine (tz32_any (nth ys k) hlt h2 _ (hT.alloc _)).mono ?_; rintro e w1 ⟨rfl, rfl⟩)
    go_ret
    exact ⟨by rw [Hh.out, Int.natCast_add, Int.natCast_mul]; rfl, more (Below.refl _ _) _⟩
theorem Fr.take {e : TypeId} {w : World} {base : Nat} {ao : Option Addr} {n c k : Nat} {ys : List Nat} (h : Fr e w base ao n c ys) (hk : k ≤ n) : Fr e w base ao k c (ys.take k) := by
 obtain ⟨h1, h2⟩ := h
 refine ⟨⟨by rw [List.length_take, h1.len]; omega, by have := h1.le; omega, h1.cap, ok_take h1.ok k, fun hn => ?_⟩, ?_⟩
 · obtain ⟨b, o, e1, hb, hc⟩ := h1.at_ (by omega)
   refine ⟨b, o, e1, hb, fun j hj => ?_⟩
   rw [hc j (by omega)]
   unfold nth
   rw [List.getD_eq_getElem?_getD, List.getD_eq_getElem?_getD, List.getElem?_take, if_pos hj]
 · rcases h2 with ⟨h3, h4, h5⟩ | h2
   · exact .inl ⟨h3, by omega, h5⟩
   · exact .inr h2
def mkB (ys : List Nat) (x : Int) : Bool := decide (chk ys = 0 ∧ val ys ≠ 0 ∧ -2147483648 ≤ x ∧ x ≤ 1073741824 ∧ -1073741824 ≤ x + tz (val ys) ∧ x + tz (val ys) ≤ 1073741824)
def mkE (ys : List Nat) (x : Int) : Int := if chk ys ≠ 0 then chk ys else if val ys = 0 then 0 else if mkB ys x = true then 0 else 4
def mkN (ys : List Nat) (x : Int) : Nat := if mkB ys x = true then val ys / 2 ^ tz (val ys) else 0
def mkX (ys : List Nat) (x : Int) : Int := if mkB ys x = true then x + tz (val ys) else 0
def mkS (neg : Bool) (ys : List Nat) (x : Int) : Bool := if mkB ys x = true then neg else false
theorem mk_no (neg : Bool) {ys : List Nat} {x : Int} (h : mkB ys x = false) : mkN ys x = 0 ∧ mkX ys x = 0 ∧ mkS neg ys x = false := by
 unfold mkN mkX mkS
 rw [h]
 exact ⟨rfl, rfl, rfl⟩
theorem mk_yes (neg : Bool) {ys : List Nat} {x : Int} (h : mkB ys x = true) : mkN ys x = val ys / 2 ^ tz (val ys) ∧ mkX ys x = x + tz (val ys) ∧ mkS neg ys x = neg ∧ mkE ys x = 0 := by
 have hb : chk ys = 0 := (of_decide_eq_true h).1
 unfold mkN mkX mkS mkE
 rw [if_pos h, if_pos h, if_pos h, if_pos h, if_neg (by simp [hb])]
 exact ⟨rfl, rfl, rfl, by split <;> rfl⟩
theorem mk_chk {ys : List Nat} {x : Int} (h : chk ys ≠ 0) : mkB ys x = false ∧ mkE ys x = chk ys := by
 refine ⟨decide_eq_false fun hh => h hh.1, ?_⟩
 unfold mkE
 rw [if_pos h]
theorem mk_zero {ys : List Nat} {x : Int} (h : chk ys = 0) (h0 : val ys = 0) : mkB ys x = false ∧ mkE ys x = 0 := by
 refine ⟨decide_eq_false fun hh => hh.2.1 h0, ?_⟩
 unfold mkE
 rw [if_neg (by simp [h]), if_pos h0]
theorem mk_many {ys : List Nat} {x : Int} (h : chk ys = 0) (h0 : val ys ≠ 0) (hb : mkB ys x = false) : mkE ys x = 4 := by
 unfold mkE
 rw [if_neg (by simp [h]), if_neg h0, hb]
 rfl
theorem fine_of_chk {ys : List Nat} (hok : Ok ys) (h : chk ys = 0) : Fine ys := by
 refine ⟨hok, fun hl => ?_⟩
 have hlen := chk_zero_len h
 by_cases h0 : ys.length = 0
 · rw [List.eq_nil_of_length_eq_zero h0] at hl
   cases hl
 · have : nth ys (ys.length - 1) = 0 := by
    unfold nth
    rw [List.getD_eq_getElem?_getD, ← List.getLast?_eq_getElem?, hl]
    rfl
   unfold chk at h
   rw [if_neg (by omega), if_pos ⟨by omega, this⟩] at h
   cases h
theorem val_zero_iff {ys : List Nat} (hok : Ok ys) (h : chk ys = 0) : val ys = 0 ↔ ys.length = 0 := by
 constructor
 · intro hv
   by_cases h0 : ys = []
   · rw [h0]; rfl
   · have := val_pos_of_fine (fine_of_chk hok h) h0
     omega
 · intro hl
   rw [List.eq_nil_of_length_eq_zero hl]
   rfl
def Made (neg : Bool) (ys : List Nat) (x : Int) (w : World) (e : Ending) (w' : World) : Prop :=
 ∃ ao n c, e = .returned (.tuple #[.agg #[.bool (mkS neg ys x), .slice ao n c, .int .i64 (mkX ys x)], .int .i64 (mkE ys x)]) ∧ Fr 40 w' w.heap.size ao n c (limbs (mkN ys x)) ∧ Below w.heap.size w w'
theorem made_none {neg : Bool} {ys : List Nat} {x : Int} {w w' : World} {er : Int} (hb : mkB ys x = false) (he : mkE ys x = er) (hW : Below w.heap.size w w') :
 Made neg ys x w (.returned (.tuple #[.agg #[.bool false, .slice none 0 0, .int .i64 0], .int .i64 er])) w' := by
 obtain ⟨h1, h2, h3⟩ := mk_no neg hb
 exact ⟨none, 0, 0, by rw [h2, h3, he], by rw [h1]; exact fr_nil _ _ _, hW⟩
theorem exMake_chk (neg : Bool) (ao : Option Addr) (n c : Nat) (ys : List Nat) (x : Int) (w : World) (h : Sl w ao n c ys) (hT : Tab w) (hc : chk ys ≠ 0) :
 Calls Tryz.prog 35 #[.bool neg, .agg #[.slice ao n c], .int .i64 x] w (Made neg ys x w) := by
 have hcB : (chk ys != 0) = true := by simp [hc]
 have Hb := Lib.hid (mk_chk (x := x) hc).1
 have He := Lib.hid (mk_chk (x := x) hc).2
 clear hc
 go_enter Tryz.func35, Tryz.ntmps35
 go_wp2_with (first
  | (go_at_call 67; refine (natCheck_any _ n c ys _ ((h.alloc _).alloc _)).mono ?_; rintro e w1 ⟨rfl, hb1⟩; have hW := next (more (more (Below.refl _ _) _) _) hb1; have S := ((h.alloc _).alloc _).below hb1; have T := ((hT.alloc _).alloc _).below hb1; have A := ((box1_new w _ _).alloc _).stay hb1; have B := (box3_new _ _ _ _ _).stay hb1; rw [World.size_alloc] at B; have ⟨a0, az⟩ := A; have ⟨b0, b1, b2, bz0, bz1, bz2⟩ := B))
 have ⟨t0, t1, t2⟩ := B.set (.bool false) (.slice none 0 0) (.int .i64 0)
 refine bodyPost_ret (v := .tuple #[.agg #[.bool false, .slice none 0 0, .int .i64 0], .int .i64 (chk ys)]) (by simp [results, Tryz.results35, go_sem, t0, t1, t2]) rfl (made_none Hb.out He.out (((hW.setCell (by simp) _).setCell (by simp) _).setCell (by simp) _))
theorem exMake_zero (neg : Bool) (ao : Option Addr) (n c : Nat) (ys : List Nat) (x : Int) (w : World) (h : Sl w ao n c ys) (hT : Tab w) (hc : chk ys = 0) (h0 : val ys = 0) :
 Calls Tryz.prog 35 #[.bool neg, .agg #[.slice ao n c], .int .i64 x] w (Made neg ys x w) := by
 have hcB : (chk ys != 0) = false := by simp [hc]
 have hn0 : n = 0 := h.len.symm.trans ((val_zero_iff h.ok hc).1 h0)
 have hnB : noneB n = true := by rw [hn0]; rfl
 have Hb := Lib.hid (mk_zero (x := x) hc h0).1
 have He := Lib.hid (mk_zero (x := x) hc h0).2
 clear h0 hn0
 go_enter Tryz.func35, Tryz.ntmps35
 go_wp2_with (first
  | (go_at_call 67; refine (natCheck_any _ n c ys _ ((h.alloc _).alloc _)).mono ?_; rintro e w1 ⟨rfl, hb1⟩; have hW := next (more (more (Below.refl _ _) _) _) hb1; have S := ((h.alloc _).alloc _).below hb1; have T := ((hT.alloc _).alloc _).below hb1; have A := ((box1_new w _ _).alloc _).stay hb1; have B := (box3_new _ _ _ _ _).stay hb1; rw [World.size_alloc] at B; have ⟨a0, az⟩ := A; have ⟨b0, b1, b2, bz0, bz1, bz2⟩ := B)
  | (go_at_call 68; refine (none_any _ n c _).mono ?_; rintro e w2 ⟨rfl, hb2⟩; rw [hnB]; replace hW := next hW hb2; replace S := S.below hb2; replace T := T.below hb2; replace A := A.stay hb2; replace B := B.stay hb2; have ⟨a0, az⟩ := A; have ⟨b0, b1, b2, bz0, bz1, bz2⟩ := B))
 have ⟨t0, t1, t2⟩ := B.set (.bool false) (.slice none 0 0) (.int .i64 0)
 refine bodyPost_ret (v := .tuple #[.agg #[.bool false, .slice none 0 0, .int .i64 0], .int .i64 0]) (by simp [results, Tryz.results35, go_sem, t0, t1, t2]) rfl (made_none Hb.out He.out (((hW.setCell (by simp) _).setCell (by simp) _).setCell (by simp) _))
theorem exMake_beyond (neg : Bool) (ao : Option Addr) (n c : Nat) (ys : List Nat) (x : Int) (w : World) (h : Sl w ao n c ys) (hT : Tab w) (hc : chk ys = 0) (h0 : val ys ≠ 0) (hx : x < -2147483648 ∨ 1073741824 < x) (hb : mkB ys x = false) :
 Calls Tryz.prog 35 #[.bool neg, .agg #[.slice ao n c], .int .i64 x] w (Made neg ys x w) := by
 have hcB : (chk ys != 0) = false := by simp [hc]
 have hn : n ≤ 16384 := by rw [← h.len]; exact chk_zero_len hc
 have hn1 : n ≠ 0 := fun hn0 => h0 ((val_zero_iff h.ok hc).2 (h.len.trans hn0))
 have hnB : noneB n = false := by unfold noneB; exact decide_eq_false hn1
 have htz := tz_lt h.ok h0
 rw [h.len] at htz
 have Hb := Lib.hid hb
 have He := Lib.hid (mk_many hc h0 hb)
 clear hb
 rcases (by omega : 1073741824 < x ∨ (¬ 1073741824 < x ∧ x < -2147483648)) with hx1 | ⟨hx1, hx2⟩
 all_goals clear hx
 all_goals
  go_enter Tryz.func35, Tryz.ntmps35
  go_wp2_with (first
   | (go_at_call 67; refine (natCheck_any _ n c ys _ ((h.alloc _).alloc _)).mono ?_; rintro e w1 ⟨rfl, hb1⟩; have hW := next (more (more (Below.refl _ _) _) _) hb1; have S := ((h.alloc _).alloc _).below hb1; have T := ((hT.alloc _).alloc _).below hb1; have A := ((box1_new w _ _).alloc _).stay hb1; have B := (box3_new _ _ _ _ _).stay hb1; rw [World.size_alloc] at B; have ⟨a0, az⟩ := A; have ⟨b0, b1, b2, bz0, bz1, bz2⟩ := B)
   | (go_at_call 68; refine (none_any _ n c _).mono ?_; rintro e w2 ⟨rfl, hb2⟩; rw [hnB]; replace hW := next hW hb2; replace S := S.below hb2; replace T := T.below hb2; replace A := A.stay hb2; replace B := B.stay hb2; have ⟨a0, az⟩ := A; have ⟨b0, b1, b2, bz0, bz1, bz2⟩ := B)
   | (go_at_call 69; refine (exEven_any _ n c ys _ S h0 hn T).mono ?_; rintro e w3 ⟨rfl, hb3⟩; replace hW := next hW hb3; replace S := S.below hb3; replace T := T.below hb3; replace A := A.stay hb3; replace B := B.stay hb3; have ⟨a0, az⟩ := A; have ⟨b0, b1, b2, bz0, bz1, bz2⟩ := B))
  have ⟨t0, t1, t2⟩ := B.set (.bool false) (.slice none 0 0) (.int .i64 0)
  refine bodyPost_ret (v := .tuple #[.agg #[.bool false, .slice none 0 0, .int .i64 0], .int .i64 4]) (by simp [results, Tryz.results35, go_sem, t0, t1, t2]) rfl (made_none Hb.out He.out (((hW.setCell (by simp) _).setCell (by simp) _).setCell (by simp) _))
theorem exMake_far (neg : Bool) (ao : Option Addr) (n c : Nat) (ys : List Nat) (x : Int) (w : World) (h : Sl w ao n c ys) (hT : Tab w) (hc : chk ys = 0) (h0 : val ys ≠ 0) (hx1 : -2147483648 ≤ x) (hx2 : x ≤ 1073741824) (hfB : farB (x + tz (val ys)) = true) (hb : mkB ys x = false) :
 Calls Tryz.prog 35 #[.bool neg, .agg #[.slice ao n c], .int .i64 x] w (Made neg ys x w) := by
 have hcB : (chk ys != 0) = false := by simp [hc]
 have hn : n ≤ 16384 := by rw [← h.len]; exact chk_zero_len hc
 have hn1 : n ≠ 0 := fun hn0 => h0 ((val_zero_iff h.ok hc).2 (h.len.trans hn0))
 have hnB : noneB n = false := by unfold noneB; exact decide_eq_false hn1
 have htz := tz_lt h.ok h0
 rw [h.len] at htz
 have Hb := Lib.hid hb
 have He := Lib.hid (mk_many hc h0 hb)
 clear hb
 go_enter Tryz.func35, Tryz.ntmps35
 go_wp2_with (first
  | (go_at_call 67; refine (natCheck_any _ n c ys _ ((h.alloc _).alloc _)).mono ?_; rintro e w1 ⟨rfl, hb1⟩; have hW := next (more (more (Below.refl _ _) _) _) hb1; have S := ((h.alloc _).alloc _).below hb1; have T := ((hT.alloc _).alloc _).below hb1; have A := ((box1_new w _ _).alloc _).stay hb1; have B := (box3_new _ _ _ _ _).stay hb1; rw [World.size_alloc] at B; have ⟨a0, az⟩ := A; have ⟨b0, b1, b2, bz0, bz1, bz2⟩ := B)
  | (go_at_call 68; refine (none_any _ n c _).mono ?_; rintro e w2 ⟨rfl, hb2⟩; rw [hnB]; replace hW := next hW hb2; replace S := S.below hb2; replace T := T.below hb2; replace A := A.stay hb2; replace B := B.stay hb2; have ⟨a0, az⟩ := A; have ⟨b0, b1, b2, bz0, bz1, bz2⟩ := B)
  | (go_at_call 69; refine (exEven_any _ n c ys _ S h0 hn T).mono ?_; rintro e w3 ⟨rfl, hb3⟩; replace hW := next hW hb3; replace S := S.below hb3; replace T := T.below hb3; replace A := A.stay hb3; replace B := B.stay hb3; have ⟨a0, az⟩ := A; have ⟨b0, b1, b2, bz0, bz1, bz2⟩ := B)
  | (go_at_call 70; refine (far_any _ _).mono ?_; rintro e w4 ⟨rfl, hb4⟩; rw [hfB]; replace hW := next hW hb4; replace S := S.below hb4; replace T := T.below hb4; replace A := A.stay hb4; replace B := B.stay hb4; have ⟨a0, az⟩ := A; have ⟨b0, b1, b2, bz0, bz1, bz2⟩ := B))
 have ⟨t0, t1, t2⟩ := B.set (.bool false) (.slice none 0 0) (.int .i64 0)
 refine bodyPost_ret (v := .tuple #[.agg #[.bool false, .slice none 0 0, .int .i64 0], .int .i64 4]) (by simp [results, Tryz.results35, go_sem, t0, t1, t2]) rfl (made_none Hb.out He.out (((hW.setCell (by simp) _).setCell (by simp) _).setCell (by simp) _))
theorem exMake_good (neg : Bool) (ao : Option Addr) (n c : Nat) (ys : List Nat) (x : Int) (w : World) (h : Sl w ao n c ys) (hT : Tab w) (hc : chk ys = 0) (h0 : val ys ≠ 0) (hx1 : -2147483648 ≤ x) (hx2 : x ≤ 1073741824) (hfB : farB (x + tz (val ys)) = false) (hb : mkB ys x = true) :
 Calls Tryz.prog 35 #[.bool neg, .agg #[.slice ao n c], .int .i64 x] w (Made neg ys x w) := by
 have hcB : (chk ys != 0) = false := by simp [hc]
 have hn : n ≤ 16384 := by rw [← h.len]; exact chk_zero_len hc
 have hn1 : n ≠ 0 := fun hn0 => h0 ((val_zero_iff h.ok hc).2 (h.len.trans hn0))
 have hnB : noneB n = false := by unfold noneB; exact decide_eq_false hn1
 have htz := tz_lt h.ok h0
 rw [h.len] at htz
 have H := Lib.hid (mk_yes neg hb)
 clear hb
 go_enter Tryz.func35, Tryz.ntmps35
 go_wp2_with (first
  | (go_at_call 67; refine (natCheck_any _ n c ys _ ((h.alloc _).alloc _)).mono ?_; rintro e w1 ⟨rfl, hb1⟩; have hW := next (more (more (Below.refl _ _) _) _) hb1; have S := ((h.alloc _).alloc _).below hb1; have T := ((hT.alloc _).alloc _).below hb1; have A := ((box1_new w _ _).alloc _).stay hb1; have B := (box3_new _ _ _ _ _).stay hb1; rw [World.size_alloc] at B; have ⟨a0, az⟩ := A; have ⟨b0, b1, b2, bz0, bz1, bz2⟩ := B)
  | (go_at_call 68; refine (none_any _ n c _).mono ?_; rintro e w2 ⟨rfl, hb2⟩; rw [hnB]; replace hW := next hW hb2; replace S := S.below hb2; replace T := T.below hb2; replace A := A.stay hb2; replace B := B.stay hb2; have ⟨a0, az⟩ := A; have ⟨b0, b1, b2, bz0, bz1, bz2⟩ := B)
  | (go_at_call 69; refine (exEven_any _ n c ys _ S h0 hn T).mono ?_; rintro e w3 ⟨rfl, hb3⟩; replace hW := next hW hb3; replace S := S.below hb3; replace T := T.below hb3; replace A := A.stay hb3; replace B := B.stay hb3; have ⟨a0, az⟩ := A; have ⟨b0, b1, b2, bz0, bz1, bz2⟩ := B)
  | (go_at_call 70; refine (far_any _ _).mono ?_; rintro e w4 ⟨rfl, hb4⟩; rw [hfB]; replace hW := next hW hb4; replace S := S.below hb4; replace T := T.below hb4; replace A := A.stay hb4; replace B := B.stay hb4; have ⟨a0, az⟩ := A; have ⟨b0, b1, b2, bz0, bz1, bz2⟩ := B)
  | (go_at_call 71; refine (natDown_any _ n c _ ys _ S hc (by omega)).mono ?_; rintro e w5 ⟨a5, n5, c5, rfl, hF, hb5⟩; have hl0 := B.lt; replace hW := next hW hb5; replace S := S.below hb5; replace T := T.below hb5; replace A := A.stay hb5; replace B := B.stay hb5; have ⟨a0, az⟩ := A; have ⟨b0, b1, b2, bz0, bz1, bz2⟩ := B; have hl1 := A.lt; have hl2 := B.lt))
 have ⟨t0, t1, t2⟩ := B.set (.bool neg) (.slice a5 n5 c5) (.int .i64 (x + tz (val ys)))
 refine bodyPost_ret (v := .tuple #[.agg #[.bool neg, .slice a5 n5 c5, .int .i64 (x + tz (val ys))], .int .i64 0]) (by simp [results, Tryz.results35, go_sem, t0, t1, t2, hl2]) rfl ?_
 obtain ⟨q1, q2, q3, q4⟩ := H.out
 refine ⟨a5, n5, c5, by rw [q2, q3, q4], ?_, more (((hW.setCell (by simp) _).setCell (by simp) _).setCell (by simp) _) _⟩
 rw [q1]
 refine Fr.mono (Fr.alloc (Fr.setCell (Fr.setCell (Fr.setCell hF ?_ _) ?_ _) ?_ _) _) (by omega) <;> exact hl0
theorem exMake_any (neg : Bool) (ao : Option Addr) (n c : Nat) (ys : List Nat) (x : Int) (w : World) (h : Sl w ao n c ys) (hT : Tab w) :
 Calls Tryz.prog 35 #[.bool neg, .agg #[.slice ao n c], .int .i64 x] w (Made neg ys x w) := by
 by_cases hc : chk ys = 0
 · by_cases h0 : val ys = 0
   · exact exMake_zero neg ao n c ys x w h hT hc h0
   · by_cases hx : x < -2147483648 ∨ 1073741824 < x
     · exact exMake_beyond neg ao n c ys x w h hT hc h0 hx (decide_eq_false (by omega))
     · by_cases hf : x + tz (val ys) < -1073741824 ∨ 1073741824 < x + tz (val ys)
       · exact exMake_far neg ao n c ys x w h hT hc h0 (by omega) (by omega) (decide_eq_true hf) (decide_eq_false (by omega))
       · exact exMake_good neg ao n c ys x w h hT hc h0 (by omega) (by omega) (decide_eq_false hf) (decide_eq_true ⟨hc, h0, by omega, by omega, by omega, by omega⟩)
 · exact exMake_chk neg ao n c ys x w h hT hc
end Go.Proofs.YtpmncmglmobjoaaGreatDoor
