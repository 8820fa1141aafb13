/-
  The walk of the law TurnInts: it answers true, whatever it is asked; nothing that was there has turned.
-/
import Derived.Test.YtklibjdhlmdkpaaGreatDoorQIntBase
import Derived.Test.YtklibjdhlmdkpaaGreatDoorQJTurIK
import Derived.Test.YtklibjdhlmdkpaaGreatDoorQJTurJ
namespace Go.Proofs.YtklibjdhlmdkpaaGreatDoor

open Go.RowKit Go.Lb

attribute [local go_sem] Go.World.cell?_alloc_some

/-- The program and the document answer alike. -/
theorem ints_alike (e f wd : Int) (b m : Nat) (hb : b < 18446744073709551616) : ∃ (v er : Int) (g : Nat), ∀ W : World, Tab W →
    (Calls Tryz.prog 16 #[.agg #[.int .i64 e, .int .i64 f], .int .u64 (b : Int), .int .i64 wd, .int .u8 (m : Int)] W fun en w' => en = .returned (.tuple #[.int .i64 v, .int .u8 (g : Int), .int .i64 er]) ∧ Below W.heap.size W w') ∧
    (Calls Tryz.prog 20 #[.agg #[.int .i64 e, .int .i64 f], .int .u64 (b : Int), .int .i64 wd, .int .u8 (m : Int)] W fun en w' => en = .returned (.tuple #[.int .i64 v, .int .u8 (g : Int), .int .i64 er]) ∧ Below W.heap.size W w') := by
  by_cases hx : fitsE e f b = 0
  · by_cases hw : wd = 8 ∨ wd = 16 ∨ wd = 32 ∨ wd = 64
    · by_cases hm : 4 < m
      · exact ⟨0, 7, 0, fun W _ => ⟨turnInt_mode e f wd b m W hb hx hw hm, refInt_mode e f wd b m W hb hx hw hm⟩⟩
      · obtain ⟨h1, hp⟩ := fitsE_parts hx
        obtain ⟨e1, e2, e3, e4⟩ := formE_ok h1
        obtain ⟨E, rfl⟩ : ∃ E : Nat, e = (E : Int) := ⟨e.toNat, by omega⟩
        obtain ⟨F, rfl⟩ : ∃ F : Nat, f = (F : Int) := ⟨f.toNat, by omega⟩
        simp only [Int.toNat_natCast] at hp
        rcases hw with rfl | rfl | rfl | rfl
        · exact ⟨_, 0, _, fun W hT => ⟨turnIntB_any 8 128 7 E F b m W (.inl ⟨rfl, rfl, rfl⟩) h1 hp (by omega) hT, refIntW_any 8 128 127 7 E F b m W (.inl ⟨rfl, rfl, rfl, rfl⟩) h1 hp (by omega) hT⟩⟩
        · exact ⟨_, 0, _, fun W hT => ⟨turnIntB_any 16 32768 15 E F b m W (.inr (.inl ⟨rfl, rfl, rfl⟩)) h1 hp (by omega) hT, refIntW_any 16 32768 32767 15 E F b m W (.inr (.inl ⟨rfl, rfl, rfl, rfl⟩)) h1 hp (by omega) hT⟩⟩
        · exact ⟨_, 0, _, fun W hT => ⟨turnIntB_any 32 2147483648 31 E F b m W (.inr (.inr (.inl ⟨rfl, rfl, rfl⟩))) h1 hp (by omega) hT, refIntW_any 32 2147483648 2147483647 31 E F b m W (.inr (.inr (.inl ⟨rfl, rfl, rfl, rfl⟩))) h1 hp (by omega) hT⟩⟩
        · exact ⟨_, 0, _, fun W hT => ⟨turnIntB_any 64 9223372036854775808 63 E F b m W (.inr (.inr (.inr ⟨rfl, rfl, rfl⟩))) h1 hp (by omega) hT, refIntW_any 64 9223372036854775808 9223372036854775807 63 E F b m W (.inr (.inr (.inr ⟨rfl, rfl, rfl, rfl⟩))) h1 hp (by omega) hT⟩⟩
    · exact ⟨0, 80, 0, fun W _ => ⟨turnInt_width e f wd b m W hb hx (fun h => hw (by simp [h])) (fun h => hw (by simp [h])) (fun h => hw (by simp [h])) (fun h => hw (by simp [h])), refInt_width e f wd b m W hb hx (fun h => hw (by simp [h])) (fun h => hw (by simp [h])) (fun h => hw (by simp [h])) (fun h => hw (by simp [h]))⟩⟩
  · exact ⟨0, fitsE e f b, 0, fun W _ => ⟨turnInt_bits e f wd b m W hb hx, refInt_bits e f wd b m W hb hx⟩⟩

set_option maxRecDepth 100000 in
set_option maxHeartbeats 4000000 in
theorem turnInts_any (e f wd : Int) (b m : Nat) (w : World) (hb : b < 18446744073709551616) (hT : Tab w) :
    Calls Tryz.prog 5 #[.agg #[.int .i64 e, .int .i64 f], .int .u64 (b : Int), .int .i64 wd, .int .u8 (m : Int)] w fun en w' => en = .returned (.bool true) ∧ Below w.heap.size w w' := by
  have hW := more (Below.refl w.heap.size w) (.cells #[.int .i64 e, .int .i64 f] 24)
  have A := box2_new w (.int .i64 e) (.int .i64 f) 24
  have ⟨a0, a1⟩ := A
  obtain ⟨v, er, g, H⟩ := ints_alike e f wd b m hb
  have cA : ∀ W, Below w.heap.size w W → Calls Tryz.prog 14 #[] W _ := fun W hW => alive8_any W (hT.below hW)
  have cP := fun W (hW : Below w.heap.size w W) => (H W (hT.below hW)).1
  have cR := fun W (hW : Below w.heap.size w W) => (H W (hT.below hW)).2
  clear hT H
  go_enter Tryz.func5, Tryz.ntmps5
  go_wp2_with (first
    | (go_at_call 14; (with_reducible refine (cA _ hW).mono ?_); rintro en w1 ⟨rfl, hb1⟩; replace hW := next hW hb1; replace A := A.stay hb1; have ⟨a0, a1⟩ := A)
    | (go_at_call 16; (with_reducible refine (cP _ hW).mono ?_); rintro en w1 ⟨rfl, hb1⟩; replace hW := next hW hb1; replace A := A.stay hb1; have ⟨a0, a1⟩ := A)
    | (go_at_call 20; (with_reducible refine (cR _ hW).mono ?_); rintro en w1 ⟨rfl, hb1⟩; replace hW := next hW hb1; replace A := A.stay hb1; have ⟨a0, a1⟩ := A))
  go_ret
  exact ⟨rfl, hW⟩

end Go.Proofs.YtklibjdhlmdkpaaGreatDoor

