/-
  The end of a row over a call that leaves all old memory as it was (Below): its results, its arguments read again. After the guide's page of small lemmas.
-/
import Derived.ProofKit
import Derived.ChangeSame
import Derived.SizedLaws
import Derived.Carry
import Derived.Lib.SmallJoins
import Derived.Test.YtpmncmglmobjoaaGreatDoorQTrBase
namespace Go.Lb
open Go.RowKit Go.WideShapes Go.ChangeShapes
theorem post_below {H : Type} {enc : TypeId × Value → H} {P : Program} {f : Func} {s : ChangeSpec} {apart fresh handsOn again : Bool} {W W' : World} {args : Array Value} {v : Value} {ds gs : List (DataW H)} {before pa pv : List MemPlace}
 (hW : DataW.Whole enc P f.params.toList s.vars apart W args.toList ds gs before)
 (hres : ∀ (b : Nat) (sp : Nat → Bool) (hd : Bool), DataW.TrodAll enc P W' b sp hd f.resultTypes.toList (v.resultList f.resultTypes.size) (s.fn H (ds ++ gs)).results [])
 (hargs : ∀ sp : Nat → Bool, (∀ p ∈ before, sp p.block = true) → DataW.TrodAll enc P W' 0 sp true f.params.toList args.toList (s.fn H (ds ++ gs)).args pa)
 (hvars : ∀ sp : Nat → Bool, (∀ p ∈ before, sp p.block = true) → DataW.TrodVars enc P W' sp s.vars (s.fn H (ds ++ gs)).vars pv)
 (hps : before = pa ++ pv) (hb : Below W.heap.size W W')
 (hok : ∀ (j : Nat) (t : TypeId) (r : Value), f.resultTypes[j]? = some t → (v.resultList f.resultTypes.size)[j]? = some r → Value.okWide P W' .any 0 t r) :
 s.post enc P f apart fresh handsOn again W args v W' := by
 have hlt : ∀ p ∈ before, p.block < W.heap.size := fun p hp => hW.lt p hp
 have hold : ∀ p ∈ before, (fun b => decide (b < W.heap.size)) p.block = true := fun p hp => by simpa using hlt p hp
 refine ⟨ds, gs, before, [], pa, pv, hW, hres _ _ _, hargs _ hold, hvars _ hold, World.keptBut_mono (fun p hp => ⟨hp, ?_⟩) (hb.frame (· ∈ before)), fun _ => ?_⟩
 · rw [hps, List.mem_append] at hp
   exact Or.inr hp
 · obtain ⟨_, _, _, _, _, hz, hn⟩ := hW
   refine ⟨hok, _, _, ([] ++ pa) ++ pv, ⟨[] ++ pa, pv, trodAll_append (hargs _ (fun _ _ => rfl)) (hres _ _ _), hvars _ (fun _ _ => rfl), rfl, ?_, ?_⟩, ?_⟩
   · intro b off hp
     have hin : MemPlace.cell b off ∈ before := by rw [hps]; simpa using hp
     rw [hb.frozen (hlt _ hin)]
     exact hz b off hin
   · intro ha
     have := hn ha
     rw [hps] at this
     simpa using this
   · intro p hp _
     rw [hps]
     simpa using hp
theorem sl_of_ints {w : World} {a : Addr} {len cap : Nat} {zs : List Int} (hl : len ≤ cap) (hm : cap ≤ maxLen) (hz : zs.length = cap) (hcell : ∀ i, i < zs.length → w.cell? (a.add i) = some (.int .u32 (zs.getD i 0)))
 (hwf : ∀ n ∈ zs, (Lit.int .u32 n).wf = true) : Sl w (some a) len cap ((zs.take len).map Int.toNat) := by
 have hb : ∀ n ∈ zs, 0 ≤ n ∧ n ≤ 4294967295 := fun n hn => by have := hwf n hn; simp [Lit.wf, IntKind.min, IntKind.max, IntKind.signed, IntKind.bits] at this; omega
 unfold maxLen at hm
 refine ⟨by simp; omega, hl, by omega, fun x hx => ?_, fun hn => ?_⟩
 · obtain ⟨n, hn, rfl⟩ := List.mem_map.1 hx
   have := hb n (List.mem_of_mem_take hn)
   omega
 · obtain ⟨b, o, spot⟩ := a
   have hs : spot = none := by simpa [Addr.add] using World.cell?_spot (hcell 0 (by omega))
   subst hs
   refine ⟨b, o, rfl, World.block_lt_of_cell? _ _ (hcell 0 (by omega)), fun j hj => ?_⟩
   have h1 := hcell j (by omega)
   rw [Addr.add_lit] at h1
   rw [h1]
   have hjz : j < zs.length := by omega
   have h2 := hb zs[j] (List.getElem_mem hjz)
   have e1 : zs.getD j 0 = zs[j] := by rw [List.getD_eq_getElem?_getD, List.getElem?_eq_getElem hjz]; rfl
   have e2 : nth ((zs.take len).map Int.toNat) j = zs[j].toNat := by
    unfold nth
    rw [List.getD_eq_getElem?_getD, List.getElem?_map, List.getElem?_take, if_pos hj, List.getElem?_eq_getElem hjz]; rfl
   rw [e1, e2, Int.toNat_of_nonneg h2.1]
theorem sl_nil (w : World) : Sl w none 0 0 [] := ⟨rfl, Nat.le_refl _, by decide, ok_nil, fun h => absurd h (by decide)⟩
end Go.Lb
