/-
  The walk of nat.lowered: a list over a power of two below 2^32, into a row of its own.
-/
import Derived.Test.YtnokabglkmiidaaDoorTrim
import Derived.Test.YtnokabglkmiidaaDoorShift
import Derived.Test.YtnokabglkmiidaaDoorApp
import Derived.Laws.BitsAllLaws
namespace Go.Proofs.YtnokabglkmiidaaDoor
open Go.RowKit Go.Lb

theorem u32_infoL : (Tryd.prog.info? 55).map (fun i => (i.zero, i.size, i.bytes)) = some (some (.int .u32 0), 1, 4) := by kernel_rfl

theorem made_lvs (n : Nat) : (madeCells (Value.int .u32 0).cells (n * 1)).toList = lvs (List.replicate n 0) := by
  rw [show (Value.int .u32 0).cells = #[Value.int .u32 0] from rfl, toList_madeCells_one, Nat.mul_one]
  unfold lvs
  rw [List.map_replicate]
  rfl

/-- What lowered hands back. -/
def Lowered (w : World) (n s : Nat) (ys : List Nat) (e : Ending) (w' : World) : Prop :=
  ∃ g, e = .returned (.slice (some ⟨g, 0, none⟩) n n) ∧ w'.ownsRow w.heap.size 55 1 (.slice (some ⟨g, 0, none⟩) n n) n (lvs (lowL s ys)) ∧ Below w.heap.size w w'

/-- What stands in the row when the places from k on are done. -/
def lowAt (s k : Nat) (ys : List Nat) : List Nat := List.replicate k 0 ++ (lowL s ys).drop k

theorem lowAt_step {s k : Nat} {ys : List Nat} (hk : k < ys.length) : (lvs (lowAt s (k + 1) ys)).set k (lv (nth (lowL s ys) k)) = lvs (lowAt s k ys) := by
  have hl : k < (lowL s ys).length := by rw [lowL_length]; exact hk
  unfold lowAt lvs
  rw [List.map_append, List.map_append, List.replicate_succ', List.map_append, List.append_assoc, List.set_append_right _ _ (by simp)]
  have e : (lowL s ys).drop k = nth (lowL s ys) k :: (lowL s ys).drop (k + 1) := by
    rw [List.drop_eq_getElem_cons hl]
    unfold nth
    rw [List.getD_eq_getElem?_getD, List.getElem?_eq_getElem hl]
    rfl
  rw [e]
  simp

theorem low_cast (a b s : Nat) : ((a : Int) * 4294967296 + (b : Int)) / 2 ^ s % 4294967296 = (((a * 4294967296 + b) / 2 ^ s % 4294967296 : Nat) : Int) := by
  rw [Int.natCast_emod, Int.natCast_ediv, Int.natCast_add, Int.natCast_mul, Int.natCast_pow]
  rfl

theorem shl_or (t0 y : Nat) (h0 : t0 < 4294967296) (h1 : y < 4294967296) : bits .or .u64 ((t0 : Int) * 4294967296) (y : Int) = ((t0 * 4294967296 + y : Nat) : Int) := by
  rw [show (t0 : Int) * 4294967296 = ((t0 * 4294967296 : Nat) : Int) by omega, u64_or_nat _ _ (by omega) (by omega), nat_join 32 _ _ (by omega) (by omega)]

set_option maxRecDepth 100000 in
set_option maxHeartbeats 1600000 in
theorem natLowered_any (ao : Option Addr) (n c s : Nat) (ys : List Nat) (w : World) (h : Sl w ao n c ys) (hs : s < 32) (hn : n ≤ 35184372088832) :
    Calls Tryd.prog 69 #[.slice ao n c, .int .i64 s] w (Lowered w n s ys) := by
  obtain ⟨i0, hi0, hz0, hz1, hz2⟩ := info_parts u32_infoL
  have hle := h.le
  have hcap := h.cap
  go_enter Tryd.func69, Tryd.ntmps69
  go_wp2_with (at_make; refine wpList_make_full _ rfl _ _ 22 rfl w.heap.size 55 i0 _ 1 Tryd.underlying22 hi0 hz0 hz1 _ _ _ _ n rfl rfl rfl rfl (by rw [hz2]; omega) (by unfold maxLen; omega) (Nat.le_refl _) ?_; intro w1 hown hg1; rw [made_lvs] at hown; have hb1 := (Below.refl w.heap.size w).grown hg1 (Nat.le_refl _) (by simp))
  go_loopw [6, 7] (fun a i wr => ∃ k : Nat, k ≤ n ∧ i = .int .i64 ((k : Int) - 1) ∧ a = .int .u64 (nth ys k : Int) ∧ wr.ownsRow w.heap.size 55 1 (.slice (some ⟨w.heap.size, 0, none⟩) n n) n (lvs (lowAt s k ys)) ∧ Below w.heap.size w wr) (fun _ i _ => (intOf i + 1).toNat)
  case atStart =>
    have e1 : lowAt s n ys = List.replicate n 0 := by unfold lowAt; rw [List.drop_of_length_le (by rw [lowL_length, h.len]; exact Nat.le_refl _), List.append_nil]
    have e2 : nth ys n = 0 := by unfold nth; rw [List.getD_eq_getElem?_getD, List.getElem?_eq_none (by rw [h.len]; exact Nat.le_refl _)]; rfl
    exact ⟨n, Nat.le_refl _, rfl, by rw [e2]; rfl, by rw [e1]; exact hown, hb1⟩
  case round =>
    obtain ⟨k, hk, rfl, rfl, hownk, hbk⟩ := hrel
    by_cases h0 : k = 0
    · subst h0
      go_wp2
      go_ret
      exact ⟨_, rfl, by simpa [lowAt] using hownk, hbk⟩
    · obtain ⟨j, rfl⟩ : ∃ j, k = j + 1 := ⟨k - 1, by omega⟩
      obtain ⟨b, o, rfl, hb, hc⟩ := (h.below hbk).at_ (by omega)
      have hcell := hc j (by omega)
      clear hc
      have hnl := nth_lt h.ok (j + 1)
      have hnj := nth_lt h.ok j
      have hst := own_cell hownk (j := j) (by omega)
      have hfz := hownk.frozenAt j
      have q1 : IntKind.u64.wrap ((nth ys (j + 1) : Int) * 4294967296) = (nth ys (j + 1) : Int) * 4294967296 := by rw [IntKind.wrap_u64]; omega
      have q2 : IntKind.u64.wrap (nth ys j : Int) = (nth ys j : Int) := by rw [IntKind.wrap_u64]; omega
      have q3 := shl_or _ _ hnl hnj
      obtain ⟨hown2, hg2⟩ := hownk.stored j (lv (nth (lowL s ys) j))
      rw [lowAt_step (by rw [h.len]; omega)] at hown2
      have hb2 := hbk.grown hg2 hbk.size (by simp)
      go_wp2

      have eW : (Value.int .u32 (((nth ys (j + 1) : Int) * 4294967296 + (nth ys j : Int)) / 2 ^ s % 4294967296)) = lv (nth (lowL s ys) j) := by
        rw [nth_lowL s ys (by rw [h.len]; omega)]
        unfold lv
        rw [low_cast]
      rw [eW]
      exact ⟨⟨j, by omega, rfl, rfl, hown2, hb2⟩, by simp [intOf]⟩
end Go.Proofs.YtnokabglkmiidaaDoor
