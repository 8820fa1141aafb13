/-
  The walks of nat.trimmed and the reference's Trim: a list cut behind its last limb that is not 0. The walk of nat.lowered: a list over a power of two below 2^32, into a row of its own. The walk of nat.Down: a number over a power of two, in a block of its own. The walks of math/bits.TrailingZeros32 (its table laid), exact.even and the reference's even: how many bits 0 a number has at its end. The walks of the reference's Trim, down, nat, Down: a number over a power of two. Plain: what Make answers of any number, sign and exponent. The walk of exact.Make: the dyadic of any number, sign and exponent. The walk of the reference's Make: the dyadic of any number, sign and exponent.
-/

import Derived.Test.YtgdhleiokfaeoaaGreatDoorQNats
import Derived.Test.YtgdhleiokfaeoaaGreatDoorQBase
import Derived.Laws.BitsAllLaws
import Derived.Test.YtgdhleiokfaeoaaGreatDoorQBoxes
import Derived.Lib.TrailingZeros
namespace Go.Proofs.YtgdhleiokfaeoaaGreatDoor

open Go.RowKit Go.Lb

theorem cut_limbs {ys : List Nat} {k : Nat} (hok : Ok ys) (hk : k ≤ ys.length) (hz : ∀ j, k ≤ j → j < ys.length → nth ys j = 0) (hl : k = 0 ∨ nth ys (k - 1) ≠ 0) : ys.take k = limbs (val ys) :=
  take_eq_limbs hok hk hz hl

end Go.Proofs.YtgdhleiokfaeoaaGreatDoor

namespace Go.Proofs.YtgdhleiokfaeoaaGreatDoor

open Go.RowKit Go.Lb

theorem u32_infoL : (Tryz.prog.info? 43).map (fun i => (i.zero, i.size, i.bytes)) = some (some (.int .u32 0), 1, 4) := by kernel_rfl

theorem made_lvs (n : Nat) : (madeCells (Value.int .u32 0).cells (n * 1)).toList = lvs (List.replicate n 0) := by
  rw [show (Value.int .u32 0).cells = #[Value.int .u32 0] from rfl, toList_madeCells_one, Nat.mul_one]
  unfold lvs
  rw [List.map_replicate]
  rfl

theorem low_cast (a b s : Nat) : ((a : Int) * 4294967296 + (b : Int)) / 2 ^ s % 4294967296 = (((a * 4294967296 + b) / 2 ^ s % 4294967296 : Nat) : Int) := by
  rw [Int.natCast_emod, Int.natCast_ediv, Int.natCast_add, Int.natCast_mul, Int.natCast_pow]
  rfl

end Go.Proofs.YtgdhleiokfaeoaaGreatDoor

namespace Go.Proofs.YtgdhleiokfaeoaaGreatDoor

open Go.RowKit Go.Lb

theorem val_down {ys : List Nat} (h : Ok ys) (k : Nat) : val (lowL (k % 32) (ys.drop (k / 32))) = val ys / 2 ^ k := by
  rw [val_lowL (by omega) (ok_drop h _), val_drop ys h, Nat.div_div_eq_div_mul, ← Nat.pow_add]
  congr 2
  omega

end Go.Proofs.YtgdhleiokfaeoaaGreatDoor

namespace Go.Proofs.YtgdhleiokfaeoaaGreatDoor

open Go.RowKit Go.Lb

/-- The library's table in its variable. -/
def Tab (w : World) : Prop := ∀ j, j < 32 → w.cell? ⟨0, j, none⟩ = some (.int .u8 (Lib.deBruijn32tab.getD j 0))

theorem Tab.below {w w' : World} (h : Tab w) (hb : Below w.heap.size w w') : Tab w' := fun j hj => cellStay (h j hj) hb

theorem Tab.alloc {w : World} (h : Tab w) (o : Obj) : Tab (w.alloc o) := h.below ((Below.refl _ _).alloc (Nat.le_refl _) o)

theorem Tab.drew {w : World} (h : Tab w) : Tab w.drew := h

theorem Tab.drewN {w : World} (h : Tab w) (k : Nat) : Tab (w.drewN k) := fun j hj => by simpa using h j hj

set_option maxHeartbeats 1000000 in
theorem tz32_core (x k idx : Nat) (w : World) (hx0 : ((x : Int) == 0) = false)
    (key : bits BinOp.and IntKind.u32 (x : Int) (-(x : Int) % 4294967296) * 125613361 % 4294967296 / 134217728 = (idx : Int))
    (hi : idx < 32) (hk : k < 32) (hcell : w.cell? ⟨0, idx, none⟩ = some (.int .u8 k)) :
    Calls Tryz.prog 211 #[.int .u32 x] w fun e w' => e = .returned (.int .i64 k) ∧ w = w' := by
  go_enter Tryz.func211, Tryz.ntmps211
  go_wp2_with (simp only [key])
  go_ret
  exact ⟨rfl, rfl⟩

theorem tz32_key (x a : Nat) (hx : x < 4294967296) (hx0 : x ≠ 0) (hlow : x &&& (4294967296 - x) = a) :
    bits BinOp.and IntKind.u32 (x : Int) (-(x : Int) % 4294967296) * 125613361 % 4294967296 / 134217728 = ((a * 125613361 % 4294967296 / 134217728 : Nat) : Int) := by
  have e1 : -(x : Int) % 4294967296 = ((4294967296 - x : Nat) : Int) := by omega
  rw [e1, u32_and_nat x _ hx (by omega), hlow]
  omega

theorem tz32_any (x : Nat) (hx : x < 4294967296) (hx0 : x ≠ 0) (w : World) (hT : Tab w) :
    Calls Tryz.prog 211 #[.int .u32 x] w fun e w' => e = .returned (.int .i64 (Lib.ctz 32 x)) ∧ w = w' := by
  obtain ⟨hlow, hk⟩ := Lib.lowest_bit 32 x hx0 hx
  obtain ⟨hi, htab⟩ := Lib.deBruijn32_at _ hk
  have hcell := hT _ hi
  rw [htab] at hcell
  exact tz32_core x _ _ w (by simp; omega) (tz32_key x _ hx hx0 hlow) hi hk hcell

end Go.Proofs.YtgdhleiokfaeoaaGreatDoor

namespace Go.Proofs.YtgdhleiokfaeoaaGreatDoor

open Go.RowKit Go.Lb

theorem Fr.take {e : TypeId} {w : World} {base : Nat} {ao : Option Addr} {n c k : Nat} {ys : List Nat} (h : Fr e w base ao n c ys) (hk : k ≤ n) : Fr e w base ao k c (ys.take k) := by
  obtain ⟨h1, h2⟩ := h
  refine ⟨⟨by rw [List.length_take, h1.len]; omega, by have := h1.le; omega, h1.cap, ok_take h1.ok k, fun hn => ?_⟩, ?_⟩
  · obtain ⟨b, o, e1, hb, hc⟩ := h1.at_ (by omega)
    refine ⟨b, o, e1, hb, fun j hj => ?_⟩
    rw [hc j (by omega)]
    unfold nth
    rw [List.getD_eq_getElem?_getD, List.getD_eq_getElem?_getD, List.getElem?_take, if_pos hj]
  · rcases h2 with ⟨h3, h4, h5⟩ | h2
    · exact .inl ⟨h3, by omega, h5⟩
    · exact .inr h2

end Go.Proofs.YtgdhleiokfaeoaaGreatDoor

namespace Go.Proofs.YtgdhleiokfaeoaaGreatDoor

open Go.RowKit Go.Lb

/-- A number that may be has no limb 0 at its end. -/
theorem fine_of_chk {ys : List Nat} (hok : Ok ys) (h : chk ys = 0) : Fine ys := by
  refine ⟨hok, fun hl => ?_⟩
  have hlen := chk_zero_len h
  by_cases h0 : ys.length = 0
  · rw [List.eq_nil_of_length_eq_zero h0] at hl
    cases hl
  · have : nth ys (ys.length - 1) = 0 := by
      unfold nth
      rw [List.getD_eq_getElem?_getD, ← List.getLast?_eq_getElem?, hl]
      rfl
    unfold chk at h
    rw [if_neg (by omega), if_pos ⟨by omega, this⟩] at h
    cases h

theorem val_zero_iff {ys : List Nat} (hok : Ok ys) (h : chk ys = 0) : val ys = 0 ↔ ys.length = 0 := by
  constructor
  · intro hv
    by_cases h0 : ys = []
    · rw [h0]; rfl
    · have := val_pos_of_fine (fine_of_chk hok h) h0
      omega
  · intro hl
    rw [List.eq_nil_of_length_eq_zero hl]
    rfl

end Go.Proofs.YtgdhleiokfaeoaaGreatDoor

namespace Go.Proofs.YtgdhleiokfaeoaaGreatDoor

open Go.RowKit Go.Lb

end Go.Proofs.YtgdhleiokfaeoaaGreatDoor

namespace Go.Proofs.YtgdhleiokfaeoaaGreatDoor

open Go.RowKit Go.Lb

end Go.Proofs.YtgdhleiokfaeoaaGreatDoor

