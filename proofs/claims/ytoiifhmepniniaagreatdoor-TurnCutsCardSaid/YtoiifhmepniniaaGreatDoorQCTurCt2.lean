/-
  numerallaw08.cuts of one kind of native floats: all twelve answers are the document's. (Printed by wip/gen/turcuts.py.)
-/
import Derived.Test.YtoiifhmepniniaaGreatDoorQCTurCs
import Derived.Test.YtoiifhmepniniaaGreatDoorQCTurY2
set_option maxHeartbeats 8000000
set_option maxRecDepth 100000
namespace Go.Proofs.YtoiifhmepniniaaGreatDoor
open Go.RowKit Go.Lb
attribute [local go_sem] Go.World.cell?_alloc_some
theorem cuts_W64 (b : Nat) (w : World) (hp : b < pw (1 + 11 + 52)) (hT : Tab w) :
 Calls Tryz.prog 9 #[.float .f64 b, .agg #[.int .i64 11, .int .i64 52], .int .u64 (b : Int)] w fun en w' => en = .returned (.bool true) ∧ Below w.heap.size w w' := by
 have c0 := fun W => cut_W64_int b W
 have c1 := fun W => cut_W64_int8 b W
 have c2 := fun W => cut_W64_int16 b W
 have c3 := fun W => cut_W64_int32 b W
 have c4 := fun W => cut_W64_int64 b W
 have c5 := fun W => cut_W64_uint b W
 have c6 := fun W => cut_W64_uint8 b W
 have c7 := fun W => cut_W64_uint16 b W
 have c8 := fun W => cut_W64_uint32 b W
 have c9 := fun W => cut_W64_uint64 b W
 have c10 := fun W => cut_W64_mine b W
 have c11 := fun W => cut_W64_yours b W
 have cR : ∀ k W, k < 12 → Below w.heap.size w W → Calls Tryz.prog 30 #[.agg #[.int .i64 11, .int .i64 52], .int .u64 (b : Int), .int .i64 (wdC k), .bool (sgC k)] W _ := fun k W hk hW => refCut_k 11 52 b k W hk (by decide) hp (hT.below hW)
 have u0 : wrap64 (cuV (-9223372036854775808) 9223372036854775808 (finB 11 52 b) (tzV 11 52 b)) = cuV (-9223372036854775808) 9223372036854775808 (finB 11 52 b) (tzV 11 52 b) := wrap_in (cu_in (by decide) (by decide) (by decide))
 have v0 : IntKind.u64.wrap (cuV (-9223372036854775808) 9223372036854775808 (finB 11 52 b) (tzV 11 52 b)) = gV 11 52 b 0 := rfl
 have o0 : cuB (-9223372036854775808) 9223372036854775808 (finB 11 52 b) (tzV 11 52 b) = gB 11 52 b 0 := rfl
 have u1 : wrap64 (cuV (-128) 128 (finB 11 52 b) (tzV 11 52 b)) = cuV (-128) 128 (finB 11 52 b) (tzV 11 52 b) := wrap_in (cu_in (by decide) (by decide) (by decide))
 have v1 : IntKind.u64.wrap (cuV (-128) 128 (finB 11 52 b) (tzV 11 52 b)) = gV 11 52 b 1 := rfl
 have o1 : cuB (-128) 128 (finB 11 52 b) (tzV 11 52 b) = gB 11 52 b 1 := rfl
 have u2 : wrap64 (cuV (-32768) 32768 (finB 11 52 b) (tzV 11 52 b)) = cuV (-32768) 32768 (finB 11 52 b) (tzV 11 52 b) := wrap_in (cu_in (by decide) (by decide) (by decide))
 have v2 : IntKind.u64.wrap (cuV (-32768) 32768 (finB 11 52 b) (tzV 11 52 b)) = gV 11 52 b 2 := rfl
 have o2 : cuB (-32768) 32768 (finB 11 52 b) (tzV 11 52 b) = gB 11 52 b 2 := rfl
 have u3 : wrap64 (cuV (-2147483648) 2147483648 (finB 11 52 b) (tzV 11 52 b)) = cuV (-2147483648) 2147483648 (finB 11 52 b) (tzV 11 52 b) := wrap_in (cu_in (by decide) (by decide) (by decide))
 have v3 : IntKind.u64.wrap (cuV (-2147483648) 2147483648 (finB 11 52 b) (tzV 11 52 b)) = gV 11 52 b 3 := rfl
 have o3 : cuB (-2147483648) 2147483648 (finB 11 52 b) (tzV 11 52 b) = gB 11 52 b 3 := rfl
 have v5 : cuV 0 18446744073709551616 (finB 11 52 b) (tzV 11 52 b) = gV 11 52 b 5 := (wrap_in_u64 (cu_in (by decide) (by decide) (by decide))).symm
 have o5 : cuB 0 18446744073709551616 (finB 11 52 b) (tzV 11 52 b) = gB 11 52 b 5 := rfl
 have v6 : IntKind.u64.wrap (cuV 0 256 (finB 11 52 b) (tzV 11 52 b)) = gV 11 52 b 6 := rfl
 have o6 : cuB 0 256 (finB 11 52 b) (tzV 11 52 b) = gB 11 52 b 6 := rfl
 have v7 : IntKind.u64.wrap (cuV 0 65536 (finB 11 52 b) (tzV 11 52 b)) = gV 11 52 b 7 := rfl
 have o7 : cuB 0 65536 (finB 11 52 b) (tzV 11 52 b) = gB 11 52 b 7 := rfl
 have v8 : IntKind.u64.wrap (cuV 0 4294967296 (finB 11 52 b) (tzV 11 52 b)) = gV 11 52 b 8 := rfl
 have o8 : cuB 0 4294967296 (finB 11 52 b) (tzV 11 52 b) = gB 11 52 b 8 := rfl
 rw [v5] at c5 c9
 rw [o0] at c0
 rw [o1] at c1
 rw [o2] at c2
 rw [o3] at c3
 rw [o0] at c4
 rw [o5] at c5
 rw [o6] at c6
 rw [o7] at c7
 rw [o8] at c8
 rw [o5] at c9
 rw [o2] at c10
 rw [o8] at c11
 generalize cuV (-9223372036854775808) 9223372036854775808 (finB 11 52 b) (tzV 11 52 b) = a0 at *
 generalize cuV (-128) 128 (finB 11 52 b) (tzV 11 52 b) = a1 at *
 generalize cuV (-32768) 32768 (finB 11 52 b) (tzV 11 52 b) = a2 at *
 generalize cuV (-2147483648) 2147483648 (finB 11 52 b) (tzV 11 52 b) = a3 at *
 generalize cuV 0 256 (finB 11 52 b) (tzV 11 52 b) = a6 at *
 generalize cuV 0 65536 (finB 11 52 b) (tzV 11 52 b) = a7 at *
 generalize cuV 0 4294967296 (finB 11 52 b) (tzV 11 52 b) = a8 at *
 have hg : gV 11 52 b 4 = gV 11 52 b 0 ∧ gV 11 52 b 9 = gV 11 52 b 5 ∧ gV 11 52 b 10 = gV 11 52 b 2 ∧ gV 11 52 b 11 = gV 11 52 b 8 := ⟨rfl, rfl, rfl, rfl⟩
 have hh : gB 11 52 b 4 = gB 11 52 b 0 ∧ gB 11 52 b 9 = gB 11 52 b 5 ∧ gB 11 52 b 10 = gB 11 52 b 2 ∧ gB 11 52 b 11 = gB 11 52 b 8 := ⟨rfl, rfl, rfl, rfl⟩
 generalize gV 11 52 b = V at *
 generalize gB 11 52 b = B at *
 clear hp v5 o0 o1 o2 o3 o5 o6 o7 o8
 go_enter Tryz.func9, Tryz.ntmps9
 obtain ⟨W5, hW5⟩ : ∃ W5 : World, W5 = ((((w.alloc (.cells #[.int .i64 11, .int .i64 52] 31)).alloc (.cells #[.int .u64 0, .int .u64 0, .int .u64 0, .int .u64 0, .int .u64 0, .int .u64 0, .int .u64 0, .int .u64 0, .int .u64 0, .int .u64 0, .int .u64 0, .int .u64 0] 53)).alloc (.cells #[.int .u64 0, .int .u64 0, .int .u64 0, .int .u64 0, .int .u64 0, .int .u64 0, .int .u64 0, .int .u64 0, .int .u64 0, .int .u64 0, .int .u64 0, .int .u64 0] 53)).alloc (.cells #[.bool false, .bool false, .bool false, .bool false, .bool false, .bool false, .bool false, .bool false, .bool false, .bool false, .bool false, .bool false] 54)).alloc (.cells #[.bool false, .bool false, .bool false, .bool false, .bool false, .bool false, .bool false, .bool false, .bool false, .bool false, .bool false, .bool false] 54) := ⟨_, rfl⟩
 have hW : Below w.heap.size w W5 := hW5 ▸ more (more (more (more (more (Below.refl _ _) _) _) _) _) _
 have G : Cs w.heap.size 11 52 V B 0 0 0 W5 := hW5 ▸ cs_new w 11 52 V B _ _ _ _ _
 go_upto_region 3 with fail
 rw [← hW5]
 clear hW5
 go_upto_region 15 with (first
  | (go_at_call 31; (with_reducible refine (c0 _).mono ?_); rintro en w1 ⟨rfl, hb1⟩; replace hW := next hW hb1; replace G := G.stay hb1; clear c0)
  | (go_at_call 32; (with_reducible refine (c1 _).mono ?_); rintro en w1 ⟨rfl, hb1⟩; replace hW := next hW hb1; replace G := G.stay hb1; clear c1)
  | (go_at_call 33; (with_reducible refine (c2 _).mono ?_); rintro en w1 ⟨rfl, hb1⟩; replace hW := next hW hb1; replace G := G.stay hb1; clear c2)
  | (go_at_call 34; (with_reducible refine (c3 _).mono ?_); rintro en w1 ⟨rfl, hb1⟩; replace hW := next hW hb1; replace G := G.stay hb1; clear c3)
  | (go_at_call 35; (with_reducible refine (c4 _).mono ?_); rintro en w1 ⟨rfl, hb1⟩; replace hW := next hW hb1; replace G := G.stay hb1; clear c4)
  | (go_at_call 36; (with_reducible refine (c5 _).mono ?_); rintro en w1 ⟨rfl, hb1⟩; replace hW := next hW hb1; replace G := G.stay hb1; clear c5)
  | (go_at_call 37; (with_reducible refine (c6 _).mono ?_); rintro en w1 ⟨rfl, hb1⟩; replace hW := next hW hb1; replace G := G.stay hb1; clear c6)
  | (go_at_call 38; (with_reducible refine (c7 _).mono ?_); rintro en w1 ⟨rfl, hb1⟩; replace hW := next hW hb1; replace G := G.stay hb1; clear c7)
  | (go_at_call 39; (with_reducible refine (c8 _).mono ?_); rintro en w1 ⟨rfl, hb1⟩; replace hW := next hW hb1; replace G := G.stay hb1; clear c8)
  | (go_at_call 40; (with_reducible refine (c9 _).mono ?_); rintro en w1 ⟨rfl, hb1⟩; replace hW := next hW hb1; replace G := G.stay hb1; clear c9)
  | (go_at_call 41; (with_reducible refine (c10 _).mono ?_); rintro en w1 ⟨rfl, hb1⟩; replace hW := next hW hb1; replace G := G.stay hb1; clear c10)
  | (go_at_call 42; (with_reducible refine (c11 _).mono ?_); rintro en w1 ⟨rfl, hb1⟩; replace hW := next hW hb1; replace G := G.stay hb1; clear c11))
 iterate 82 go_step
 refine wpList_store_mid rfl 53 _ _ rfl (w.heap.size + 1) 0 #[.int .u64 (V 0), .int .u64 (V 1), .int .u64 (V 2), .int .u64 (V 3), .int .u64 (V 0), .int .u64 (V 5), .int .u64 (V 6), .int .u64 (V 7), .int .u64 (V 8), .int .u64 (V 5), .int .u64 (V 2), .int .u64 (V 8)] (by simp [Act.eval]; done) (by simp [Act.eval]; done) (by have := G.got.there; rwa [rowW_len] at this) (by kernel_rfl) (by simp [Value.oneCell']; done) ?_
 have e6 : (#[.int .u64 (V 0), .int .u64 (V 1), .int .u64 (V 2), .int .u64 (V 3), .int .u64 (V 0), .int .u64 (V 5), .int .u64 (V 6), .int .u64 (V 7), .int .u64 (V 8), .int .u64 (V 5), .int .u64 (V 2), .int .u64 (V 8)] : Array Value).toList = rowW V 12 := by
  show ([.int .u64 (V 0), .int .u64 (V 1), .int .u64 (V 2), .int .u64 (V 3), .int .u64 (V 0), .int .u64 (V 5), .int .u64 (V 6), .int .u64 (V 7), .int .u64 (V 8), .int .u64 (V 5), .int .u64 (V 2), .int .u64 (V 8)] : List Value) = [.int .u64 (V 0), .int .u64 (V 1), .int .u64 (V 2), .int .u64 (V 3), .int .u64 (V 4), .int .u64 (V 5), .int .u64 (V 6), .int .u64 (V 7), .int .u64 (V 8), .int .u64 (V 9), .int .u64 (V 10), .int .u64 (V 11)]
  rw [hg.1, hg.2.1, hg.2.2.1, hg.2.2.2]
 have hW6 := below_cells (p := w.heap.size + 1) (#[.int .u64 (V 0), .int .u64 (V 1), .int .u64 (V 2), .int .u64 (V 3), .int .u64 (V 0), .int .u64 (V 5), .int .u64 (V 6), .int .u64 (V 7), .int .u64 (V 8), .int .u64 (V 5), .int .u64 (V 2), .int .u64 (V 8)] : Array Value).toList 0 _ hW (by omega)
 replace G := G.setGot e6
 generalize w1.setCells (w.heap.size + 1) 0 (#[.int .u64 (V 0), .int .u64 (V 1), .int .u64 (V 2), .int .u64 (V 3), .int .u64 (V 0), .int .u64 (V 5), .int .u64 (V 6), .int .u64 (V 7), .int .u64 (V 8), .int .u64 (V 5), .int .u64 (V 2), .int .u64 (V 8)] : Array Value).toList = W6 at *
 clear hb1 e6 v0 v1 v2 v3 v6 v7 v8 u0 u1 u2 u3
 go_upto_region 16 with fail
 iterate 40 go_step
 refine wpList_store_mid rfl 54 _ _ rfl (w.heap.size + 1 + 1 + 1) 0 #[.bool (B 0), .bool (B 1), .bool (B 2), .bool (B 3), .bool (B 0), .bool (B 5), .bool (B 6), .bool (B 7), .bool (B 8), .bool (B 5), .bool (B 2), .bool (B 8)] (by simp [Act.eval]; done) (by simp [Act.eval]; done) (by have := G.is.there; rwa [rowB_len] at this) (by kernel_rfl) (by simp [Value.oneCell']; done) ?_
 have e7 : (#[.bool (B 0), .bool (B 1), .bool (B 2), .bool (B 3), .bool (B 0), .bool (B 5), .bool (B 6), .bool (B 7), .bool (B 8), .bool (B 5), .bool (B 2), .bool (B 8)] : Array Value).toList = rowB B 12 := by
  show ([.bool (B 0), .bool (B 1), .bool (B 2), .bool (B 3), .bool (B 0), .bool (B 5), .bool (B 6), .bool (B 7), .bool (B 8), .bool (B 5), .bool (B 2), .bool (B 8)] : List Value) = [.bool (B 0), .bool (B 1), .bool (B 2), .bool (B 3), .bool (B 4), .bool (B 5), .bool (B 6), .bool (B 7), .bool (B 8), .bool (B 9), .bool (B 10), .bool (B 11)]
  rw [hh.1, hh.2.1, hh.2.2.1, hh.2.2.2]
 have hW7 := below_cells (p := w.heap.size + 3) (#[.bool (B 0), .bool (B 1), .bool (B 2), .bool (B 3), .bool (B 0), .bool (B 5), .bool (B 6), .bool (B 7), .bool (B 8), .bool (B 5), .bool (B 2), .bool (B 8)] : Array Value).toList 0 _ hW6 (by omega)
 replace G := G.setIs e7
 have eW : W6.setCells (w.heap.size + 1 + 1 + 1) 0 (#[.bool (B 0), .bool (B 1), .bool (B 2), .bool (B 3), .bool (B 0), .bool (B 5), .bool (B 6), .bool (B 7), .bool (B 8), .bool (B 5), .bool (B 2), .bool (B 8)] : Array Value).toList = W6.setCells (w.heap.size + 3) 0 (#[.bool (B 0), .bool (B 1), .bool (B 2), .bool (B 3), .bool (B 0), .bool (B 5), .bool (B 6), .bool (B 7), .bool (B 8), .bool (B 5), .bool (B 2), .bool (B 8)] : Array Value).toList := rfl
 rw [eW]
 generalize W6.setCells (w.heap.size + 3) 0 (#[.bool (B 0), .bool (B 1), .bool (B 2), .bool (B 3), .bool (B 0), .bool (B 5), .bool (B 6), .bool (B 7), .bool (B 8), .bool (B 5), .bool (B 2), .bool (B 8)] : Array Value).toList = W7 at *
 clear eW e7 hW6 hh hg
 obtain ⟨W8, hW8⟩ : ∃ W8 : World, W8 = W7.alloc (.cells #[.int .i64 64, .int .i64 8, .int .i64 16, .int .i64 32, .int .i64 64, .int .i64 64, .int .i64 8, .int .i64 16, .int .i64 32, .int .i64 64, .int .i64 16, .int .i64 32] 3) := ⟨_, rfl⟩
 have hb8 : Below W7.heap.size W7 W8 := hW8 ▸ more (Below.refl _ _) _
 have R8 : Rw W8 W7.heap.size (rowI wdC) := hW8 ▸ rw_new W7 #[.int .i64 64, .int .i64 8, .int .i64 16, .int .i64 32, .int .i64 64, .int .i64 64, .int .i64 8, .int .i64 16, .int .i64 32, .int .i64 64, .int .i64 16, .int .i64 32] 3
 have G7 := G
 replace G := G.stay hb8
 have hV8 := next hW7 hb8
 go_upto_region 18 with fail
 rw [← hW8]
 clear hW8
 have g4 := World.block_lt_of_cell? W7 ⟨w.heap.size + 4, 0, none⟩ (G7.there 0 _ (rowB_get B 0 0 (by decide))).1
 obtain ⟨m, hm⟩ : ∃ m, m = W7.heap.size := ⟨_, rfl⟩
 rw [← hm] at R8 ⊢
 have hm4 : w.heap.size + 4 < m := by rw [hm]; exact g4
 clear hm hb8 hW7 g4 G7
 go_wp2_with fail
 go_loopw [36] (fun i wr => ∃ k : Nat, k ≤ 12 ∧ i = .int .i64 k ∧ Below w.heap.size w wr ∧ Cs w.heap.size 11 52 V B 12 12 k wr ∧ Rw wr m (rowI wdC)) (fun i _ => 12 - (intOf i).toNat)
 case atStart => exact ⟨0, by omega, rfl, hV8, G, R8⟩
 case round =>
  obtain ⟨k, hk, rfl, hWr, Gr, Rr⟩ := hrel
  clear G R8 hV8
  by_cases h12 : k < 12
  · have i1 : (k : Int) < 12 := by omega
    have hK : Ct w.heap.size m k 11 52 (wdC k) w wr := ⟨Gr.box.c0, Gr.box.c1, (Rr k _ (rowI_get wdC k h12)).1, cellOf_of (Gr.want k _ (rowW_get V k k h12)).1, cellOf_of (Gr.there k _ (rowB_get B k k h12)).1, (Gr.want k _ (rowW_get V k k h12)).2, (Gr.there k _ (rowB_get B k k h12)).2, hWr, Nat.le_refl _, hm4⟩
    have cK := fun W hW => cR k W h12 hW
    have HG := Lib.hid (And.intro Gr Rr)
    have HM := Lib.hid (And.intro hm4 h12)
    clear cR Gr Rr hm4
    rcases three_ways k with ⟨s1, i5, i10⟩ | ⟨s1, i5, i10⟩ | ⟨s1, i5, i10⟩
    all_goals
     rw [s1] at cK
     clear s1 h12 hk
     go_upto_region 21 with fail
     first
     | (go_region_held (fun w' => w'.cell? ⟨w.heap.size, 0, none⟩ = some (.int .i64 ((11 : Nat) : Int)) ∧ w'.cell? ⟨w.heap.size, 1, none⟩ = some (.int .i64 ((52 : Nat) : Int)) ∧ w'.cell? ⟨m, k, none⟩ = some (.int .i64 (wdC k)) ∧ w'.cell? ⟨w.heap.size + 1 + 1, k, none⟩ = some (cellOf w' (w.heap.size + 1 + 1) k) ∧ w'.cell? ⟨w.heap.size + 1 + 1 + 1 + 1, k, none⟩ = some (cellOf w' (w.heap.size + 1 + 1 + 1 + 1) k) ∧ w'.frozen? ⟨w.heap.size + 1 + 1, k, none⟩ = false ∧ w'.frozen? ⟨w.heap.size + 1 + 1 + 1 + 1, k, none⟩ = false ∧ Below w.heap.size w w' ∧ Ct w.heap.size m k 11 52 (wdC k) w w')
       ((first | exact Ct.conj hK.drew | exact Ct.conj hK | (go_split_ands; exact Ct.conj (Ct.stay (by assumption) hbC)) | (go_split_ands; exact Ct.conj (Ct.setW (by assumption) _)) | (go_split_ands; exact Ct.conj (Ct.setT (by assumption) _)) | (go_keep; done)))
       (first | (go_at_call 30; (with_reducible refine (cK _ (by first | exact hWr | exact hWr.drew)).mono ?_); rintro en wC ⟨rfl, hbC⟩)))
     | fail "no"
     have hbC' : Below wr.heap.size wr wC := by first | exact hbC | exact undrew hbC
     obtain ⟨GF, RF⟩ := (HG.out.1.stay hbC').oneMore HM.out.2 (HG.out.2.stay hbC') HM.out.1 (.inl rfl)
     have hWF : Below w.heap.size w ((wC.setCell ⟨w.heap.size + 1 + 1, k, none⟩ (.int .u64 (V k))).setCell ⟨w.heap.size + 1 + 1 + 1 + 1, k, none⟩ (.bool (B k))) := Below.setCell (Below.setCell (next hWr hbC') (by show w.heap.size ≤ w.heap.size + 1 + 1; omega) _) (by show w.heap.size ≤ w.heap.size + 1 + 1 + 1 + 1; omega) _
     generalize (wC.setCell ⟨w.heap.size + 1 + 1, k, none⟩ (.int .u64 (V k))).setCell ⟨w.heap.size + 1 + 1 + 1 + 1, k, none⟩ (.bool (B k)) = wF at *
     clear hK cK hbC hbC' HG hWr
     go_wp2
     exact ⟨⟨k + 1, by have := HM.out.2; omega, by go_num, hWF, GF, RF⟩, by have := HM.out.2; simp [intOf]; omega⟩
  · obtain rfl : k = 12 := by omega
    obtain ⟨⟨g0, g1, g2, g3, g4, g5, g6, g7, g8, g9, g10, g11⟩, ⟨w0, w1, w2, w3, w4, w5, w6, w7, w8, w9, w10, w11⟩, ⟨i0, i1, i2, i3, i4, i5, i6, i7, i8, i9, i10, i11⟩, ⟨t0, t1, t2, t3, t4, t5, t6, t7, t8, t9, t10, t11⟩⟩ := Gr.cells
    have e1 := rowW_lit V
    have e2 := rowB_lit B
    clear cR Gr Rr
    go_wp2
    go_ret
    exact ⟨rfl, hWr⟩
end Go.Proofs.YtoiifhmepniniaaGreatDoor
