/-
  The walks of the reference's Trim, down, nat, Down: a number over a power of two.
-/
import Derived.Test.YtnokabglkmiidaaDoorDown
import Derived.Test.YtnokabglkmiidaaDoorEven
import Derived.Test.YtnokabglkmiidaaDoorBox
namespace Go.Proofs.YtnokabglkmiidaaDoor
open Go.RowKit Go.Lb

theorem Fr.take {e : TypeId} {w : World} {base : Nat} {ao : Option Addr} {n c k : Nat} {ys : List Nat} (h : Fr e w base ao n c ys) (hk : k ≤ n) : Fr e w base ao k c (ys.take k) := by
  obtain ⟨h1, h2⟩ := h
  refine ⟨⟨by rw [List.length_take, h1.len]; omega, by have := h1.le; omega, h1.cap, ok_take h1.ok k, fun hn => ?_⟩, ?_⟩
  · obtain ⟨b, o, e1, hb, hc⟩ := h1.at_ (by omega)
    refine ⟨b, o, e1, hb, fun j hj => ?_⟩
    rw [hc j (by omega)]
    unfold nth
    rw [List.getD_eq_getElem?_getD, List.getD_eq_getElem?_getD, List.getElem?_take, if_pos hj]
  · rcases h2 with ⟨h3, h4, h5⟩ | h2
    · exact .inl ⟨h3, by omega, h5⟩
    · exact .inr h2

set_option maxHeartbeats 800000 in
theorem refTrim_any {base : Nat} (ao : Option Addr) (n c : Nat) (ys : List Nat) (w : World) (hF : Fr 55 w base ao n c ys) :
    Calls Tryd.prog 71 #[.slice ao n c] w fun e w' => ∃ k, e = .returned (.slice ao k c) ∧ Fr 55 w' base ao k c (limbs (val ys)) ∧ w = w' := by
  have h := hF.sl
  have hle := h.le
  have hcap := h.cap
  have fin : ∀ k, k ≤ n → (∀ j, k ≤ j → j < n → nth ys j = 0) → (k = 0 ∨ nth ys (k - 1) ≠ 0) → Fr 55 w base ao k c (limbs (val ys)) := fun k hk hz hl => by
    rw [← cut_limbs h.ok (by rw [h.len]; exact hk) (by rw [h.len]; exact hz) hl]
    exact Fr.take hF hk
  have Fin := Lib.hid fin
  clear fin hF
  go_enter Tryd.func71, Tryd.ntmps71
  go_wp2
  go_loop [3] (fun i => ∃ k : Nat, k ≤ n ∧ i = .int .i64 k ∧ Hid (∀ j, k ≤ j → j < n → nth ys j = 0)) (fun i => (intOf i).toNat)
  case atStart => exact ⟨n, Nat.le_refl _, rfl, Lib.hid (fun j h1 h2 => absurd h2 (by omega))⟩
  case round =>
    obtain ⟨k, hk, rfl, H⟩ := hrel
    by_cases h0 : k = 0
    · subst h0
      go_wp2
      go_ret
      exact ⟨0, rfl, Fin.out 0 (by omega) H.out (.inl rfl), rfl⟩
    · obtain ⟨b, o, rfl, hb, hc⟩ := h.at_ (by omega)
      have hcell := hc (k - 1) (by omega)
      by_cases h2 : nth ys (k - 1) = 0
      · rw [h2] at hcell
        have H2 := Lib.hid h2
        clear hc h2
        go_wp2
        go_round
        case rel => exact ⟨k - 1, by omega, by go_num, Lib.hid (fun j h1 h3 => by
          by_cases hj : j = k - 1
          · rw [hj]; exact H2.out
          · exact H.out j (by omega) h3)⟩
        case measure => simp [intOf]; omega
      · have hne : ((nth ys (k - 1) : Int) == 0) = false := by simp; omega
        have hk0 : ((k : Int) == 0) = false := by simp; omega
        clear hc
        go_wp2
        go_ret
        exact ⟨k, rfl, Fin.out k hk H.out (.inr h2), rfl⟩

theorem refNat_any (v : Value) (ao : Option Addr) (n c : Nat) (hv : v = .slice ao n c) (w : World) :
    Calls Tryd.prog 65 #[v] w fun e w' => e = .returned (.agg #[.slice ao n c]) ∧ Below w.heap.size w w' := by
  subst hv
  go_enter Tryd.func65, Tryd.ntmps65
  go_wp2
  refine bodyPost_ret (v := .agg #[.slice ao n c]) (by simp [results, Tryd.results65, go_sem]) rfl ⟨rfl, more (Below.refl _ _) _⟩

theorem sl_one (w : World) (e : TypeId) {x : Int} {y : Nat} (hx : x = (y : Int)) (hy : y < 4294967296) : Sl (w.alloc (.cells #[.int .u32 x] e)) (some ⟨w.heap.size, 0, none⟩) 1 1 [y] := by
  subst hx
  refine ⟨rfl, by decide, by decide, fun x hx => ?_, fun _ => ⟨_, _, rfl, by simp, fun j hj => ?_⟩⟩
  · simp at hx; omega
  · match j, hj with
    | 0, _ => simp [nth]

set_option maxRecDepth 100000 in
set_option maxHeartbeats 1600000 in
theorem refDownL_any (ao : Option Addr) (n c k : Nat) (ys : List Nat) (w : World) (h : Sl w ao n c ys) (hn : n ≤ 35184372088832) (hk : k ≤ 9223372036854775807) :
    Calls Tryd.prog 66 #[.slice ao n c, .int .i64 k] w fun e w' => ∃ ao' n' c', e = .returned (.slice ao' n' c') ∧ Fr 55 w' w.heap.size ao' n' c' (limbs (val ys / 2 ^ k)) ∧ Below w.heap.size w w' := by
  obtain ⟨i0, hi0, hz0, hz1, hz2⟩ := info_parts u32_infoL
  have hle := h.le
  have hcap := h.cap
  have hlen := h.len
  have hdiv : (k : Int) / 32 = ((k / 32 : Nat) : Int) := by omega
  have hmod : (k : Int) % 32 = ((k % 32 : Nat) : Int) := by omega
  obtain ⟨q, hq⟩ : ∃ q, q = k / 32 := ⟨_, rfl⟩
  rw [← hq] at hdiv
  have Hd := Lib.hid hdiv
  have Hm := Lib.hid hmod
  have Hq := Lib.hid hq
  clear hdiv hmod hq
  go_enter Tryd.func66, Tryd.ntmps66
  go_wp2
  go_loopw [5, 6] (fun v i wr => ∃ j : Nat, q + j ≤ max q n ∧ i = .int .i64 ((q : Int) + j) ∧ wr.ownsRow w.heap.size 55 1 v j (lvs ((lowL (k % 32) (ys.drop q)).take j)) ∧ Below w.heap.size w wr) (fun _ i _ => n - (intOf i).toNat)
  case atStart => exact ⟨0, by omega, by rw [Hd.out]; simp, World.ownsRow_nil _ _ _ _, Below.refl _ _⟩
  case round =>
    obtain ⟨j, hj, rfl, hown, hW⟩ := hrel
    by_cases hjn : q + j < n
    · have hx0 : (q : Int) + (j : Int) = ((q + j : Nat) : Int) := by omega
      have hx1 : (q : Int) + (j : Int) + 1 = ((q + j + 1 : Nat) : Int) := by omega
      have Hx0 := Lib.hid hx0
      have Hx1 := Lib.hid hx1
      clear hx0 hx1
      have ha := nth_lt h.ok (q + j)
      have hb := nth_lt h.ok (q + j + 1)
      have qw : IntKind.u64.wrap ((nth ys (q + j + 1) : Int) * 4294967296) = (nth ys (q + j + 1) : Int) * 4294967296 := by rw [IntKind.wrap_u64]; omega
      have qo := u64_or_high _ _ ha hb
      have hy : nth (lowL (k % 32) (ys.drop q)) j < 4294967296 := nth_lt (ok_lowL _ _) j
      have hlow : ((nth ys (q + j) : Int) + 4294967296 * (nth ys (q + j + 1) : Int)) / 2 ^ (k % 32) % 4294967296 = (nth (lowL (k % 32) (ys.drop q)) j : Int) := by
        rw [nth_lowL _ _ (by rw [List.length_drop]; omega), nth_drop, nth_drop, ← low_cast, show q + (j + 1) = q + j + 1 by omega]
        congr 2
        omega
      have Hlow := Lib.hid hlow
      have htk : (lowL (k % 32) (ys.drop q)).take j ++ [nth (lowL (k % 32) (ys.drop q)) j] = (lowL (k % 32) (ys.drop q)).take (j + 1) := by
        rw [take_succ_getD (by rw [lowL_length, List.length_drop]; omega)]
        rfl
      have Htk := Lib.hid htk
      clear hlow htk
      go_wp2_with (first
        | (go_at_call 100; with_reducible refine (refLimb_e _ n c (q + j) _ Hx0.out ys _ (h.below hW)).mono ?_; rintro e w1 ⟨rfl, rfl⟩)
        | (go_at_call 100; with_reducible refine (refLimb_e _ n c (q + j + 1) _ Hx1.out ys _ (h.below hW)).mono ?_; rintro e w1 ⟨rfl, rfl⟩)
        | (at_builtin; refine wpList_append_sl _ rfl (.tmp 29) (.tmp 32) _ rfl w.heap.size 55 i0 _ Tryd.underlying22 hi0 hz0 hz1 hz2 rfl _ j _ rfl (hown.alloc _) (some ⟨wr.heap.size, 0, none⟩) 1 1 _ rfl (sl_one wr _ Hlow.out hy) (by omega) (by have := hW.size; simp; omega) ?_; intro v1 w1 hown1 hg1 hat1; rw [Htk.out] at hown1; replace hW := grownOwn (more hW _) (hown.alloc _) (Nat.le_refl _) hg1))
      exact ⟨⟨j + 1, by omega, by rw [Int.natCast_add]; simp [Int.add_assoc], hown1, hW⟩, by simp [intOf]; omega⟩
    · have hnq : n ≤ q + j := by omega
      have htk : (lowL (k % 32) (ys.drop q)).take j = lowL (k % 32) (ys.drop q) := List.take_of_length_le (by rw [lowL_length, List.length_drop]; omega)
      rw [htk] at hown
      have hv := val_down h.ok k
      rw [← Hq.out] at hv
      have Hv := Lib.hid hv
      obtain ⟨a1, c1, rfl, hF⟩ := fr_own_any hown (ok_lowL _ _)
      clear htk hown hv
      go_wp2_with (go_at_call 71; refine (refTrim_any a1 j c1 _ _ hF).mono ?_; rintro e w2 ⟨k2, rfl, hF2, rfl⟩)
      go_ret
      exact ⟨a1, k2, c1, rfl, by rw [← Hv.out]; exact hF2, hW⟩

set_option maxRecDepth 100000 in
set_option maxHeartbeats 1600000 in
theorem refDown_any (ao : Option Addr) (n c k : Nat) (ys : List Nat) (w : World) (h : Sl w ao n c ys) (hc : chk ys = 0) (hkb : k ≤ 9223372036854775807) :
    Calls Tryd.prog 34 #[.agg #[.slice ao n c], .int .i64 k] w (Numb w (val ys / 2 ^ k) 0) := by
  have hlen := chk_zero_len hc
  rw [h.len] at hlen
  have hcB : (chk ys != 0) = false := by simp [hc]
  go_enter Tryd.func34, Tryd.ntmps34
  go_wp2_with (first
      | (go_at_call 30; refine (refCheck_any _ n c ys _ ((h.alloc _).alloc _)).mono ?_; rintro e w1 ⟨rfl, hb1⟩; have hW := next (more (more (Below.refl _ _) _) _) hb1; have S := ((h.alloc _).alloc _).below hb1; have A := ((box1_new w _ _).alloc _).stay hb1; have B := (box1_new _ _ _).stay hb1; rw [World.size_alloc] at B; have ⟨a0, az⟩ := A; have ⟨b0, bz⟩ := B)
      | (go_at_call 66; refine (refDownL_any _ n c k ys _ S (by omega) hkb).mono ?_; rintro e w2 ⟨a2, n2, c2, rfl, hF, hb2⟩; have hl := B.lt; replace hW := next hW hb2; replace B := B.stay hb2)
      | (go_at_call 65; refine (refNat_any _ a2 n2 c2 rfl _).mono ?_; rintro e w3 ⟨rfl, hb3⟩; replace hW := next hW hb3; replace B := B.stay hb3; replace hF := hF.below hb3; have ⟨b0, bz⟩ := B))
  refine bodyPost_ret (v := .tuple #[.agg #[.slice a2 n2 c2], .int .i64 0]) (by simp [results, Tryd.results34, go_sem, B.set]) rfl ⟨a2, n2, c2, rfl, (hF.setCell (by simpa using hl) _).mono (by omega), hW.setCell (by simp) _⟩

end Go.Proofs.YtnokabglkmiidaaDoor
