/-
  soft.all of several floats, in any mode.
-/
import Derived.Test.YtkifhlgmbckekaaGreatDoorQKitO
namespace Go.Proofs.YtkifhlgmbckekaaGreatDoor

open Go.RowKit Go.Lb

/-- Of each float: is it none, is it quiet? -/
def prL (e f : Nat) (l : List Nat) : List (Bool × Bool) := l.map fun b => (nanB e f b, qtB f b)

theorem prL_len (e f : Nat) (l : List Nat) : (prL e f l).length = l.length := by unfold prL; rw [List.length_map]

theorem loudN_snoc {L : List (Bool × Bool)} {k : Nat} (h : k < L.length) : loudN (L.take (k + 1)) = if (L[k].1 && !L[k].2) = true then 16 else loudN (L.take k) := by
  have t2 := loudB_snoc L[k] (L.take k)
  rw [← take_snoc h] at t2
  unfold loudN
  rw [t2]
  cases loudB (List.take k L) <;> cases (L[k].1 && !L[k].2) <;> rfl

theorem nansB_take {L : List (Bool × Bool)} {k : Nat} (h : k < L.length) : nansB (L.take (k + 1)) = (nansB (L.take k) || L[k].1) := by
  rw [take_snoc h]
  exact nansB_snoc L[k] (L.take k)

/-- What all tells: whether all are numbers, or else the bits and flags. -/
def alK (e f m : Int) (l : List Nat) : Bool := decide (askE e f m l = 0) && !nansB (prL e.toNat f.toNat l)

def alB (e f m : Int) (l : List Nat) : Nat := if askE e f m l = 0 ∧ nansB (prL e.toNat f.toNat l) = true then nanN e.toNat f.toNat else 0

def alF (e f m : Int) (l : List Nat) : Int := if askE e f m l = 0 ∧ nansB (prL e.toNat f.toNat l) = true then loudN (prL e.toNat f.toNat l) else 0

/-- The floats, opened, in a row. -/
def RowF (e f : Nat) (l : List Nat) (out : Value) (base : Nat) (w : World) : Prop :=
  ∃ ob cap, out = .slice (some ⟨ob, 0, none⟩) l.length cap ∧ l.length ≤ cap ∧ base ≤ ob ∧ ∀ j, (h : j < l.length) → ∃ v, w.cell? ⟨ob, j, none⟩ = some v ∧ OpF e f l[j] v base w

theorem RowF.setCell {e f base : Nat} {l : List Nat} {out : Value} {w : World} (h : RowF e f l out base w) {p : Addr} (hp : p.block < base) (u : Value) : RowF e f l out base (w.setCell p u) := by
  obtain ⟨ob, cap, h1, h2, h3, h4⟩ := h
  refine ⟨ob, cap, h1, h2, h3, fun j hj => ?_⟩
  obtain ⟨v, h5, h6⟩ := h4 j hj
  refine ⟨v, ?_, h6.setCell hp u⟩
  rw [World.cell?_setCell_other _ _ _ _ (fun hE => by rw [hE] at hp; simp at hp; omega)]
  exact h5

theorem RowF.below {e f base : Nat} {l : List Nat} {out : Value} {w w' : World} (h : RowF e f l out base w) (hb : Below w.heap.size w w') : RowF e f l out base w' := by
  obtain ⟨ob, cap, h1, h2, h3, h4⟩ := h
  refine ⟨ob, cap, h1, h2, h3, fun j hj => ?_⟩
  obtain ⟨v, h5, h6⟩ := h4 j hj
  exact ⟨v, cellStay h5 hb, h6.below hb⟩

theorem RowF.mono {e f base base' : Nat} {l : List Nat} {out : Value} {w : World} (h : RowF e f l out base w) (hb : base' ≤ base) : RowF e f l out base' w := by
  obtain ⟨ob, cap, h1, h2, h3, h4⟩ := h
  refine ⟨ob, cap, h1, h2, Nat.le_trans hb h3, fun j hj => ?_⟩
  obtain ⟨v, h5, h6⟩ := h4 j hj
  exact ⟨v, h5, h6.mono hb⟩

def AllO (e f : Int) (m : Nat) (l : List Nat) (w : World) (en : Ending) (w' : World) : Prop :=
  ∃ pk out, en = .returned (.tuple #[.pointer (some ⟨pk, 0, none⟩), out, .agg #[.int .u64 (alB e f m l : Int), .int .u8 (alF e f m l), .int .i64 (askE e f m l)], .bool (alK e f m l)]) ∧
    (alK e f m l = true → RowF e.toNat f.toNat l out w.heap.size w') ∧ Box3 w' pk (.int .i64 e) (.int .i64 f) (.int .u8 (m : Int)) ∧ Below w.heap.size w w'

/-- The first k of them, while they are opened. -/
def Till (e f : Nat) (l : List Nat) (k : Nat) (L : List Value) (base : Nat) (w : World) : Prop :=
  L.length = k ∧ ∀ j, (h : j < l.length) → (hk : j < L.length) → OpF e f l[j] L[j] base w

theorem Till.below {e f k base : Nat} {l : List Nat} {L : List Value} {w w' : World} (h : Till e f l k L base w) (hb : Below w.heap.size w w') : Till e f l k L base w' :=
  ⟨h.1, fun j h1 h2 => (h.2 j h1 h2).below hb⟩

theorem Till.more {e f k base : Nat} {l : List Nat} {L : List Value} {x : Value} {w : World} (h : Till e f l k L base w) (hk : k < l.length) (hx : OpF e f l[k] x base w) : Till e f l (k + 1) (L ++ (List.range 1).map (fun _ => x)) base w := by
  refine ⟨by simp [h.1], fun j h1 h2 => ?_⟩
  by_cases hj : j < L.length
  · rw [List.getElem_append_left hj]
    exact h.2 j h1 hj
  · have hjk : j = k := by simp at h2; have := h.1; omega
    subst hjk
    rw [List.getElem_append_right (by omega)]
    simpa using hx

theorem Till.grown {e f k base base' n : Nat} {l : List Nat} {L M : List Value} {x : Value} {w w' : World} (h : Till e f l k L base w) (hown : w.ownsRow base' 94 1 x n M) (hg : w.grownBy w' x.ownBlock) : Till e f l k L base w' :=
  ⟨h.1, fun j h1 h2 => (h.2 j h1 h2).grown hown hg⟩

theorem Till.row {e f base : Nat} {l : List Nat} {L : List Value} {x : Value} {w : World} (h : Till e f l l.length L base w) (hl : 0 < l.length) (hown : w.ownsRow base 94 1 x l.length L) : RowF e f l x base w := by
  have hc := fun g cap (hx : x = .slice (some ⟨g, 0, none⟩) l.length cap) j (hj : j < L.length) => (hx ▸ hown : w.ownsRow base 94 1 (.slice (some ⟨g, 0, none⟩) l.length cap) l.length L).cellAt j (by have := h.1; omega)
  rcases hown.2 with ⟨_, h0⟩ | ⟨g, cap, cur, hx, hg, _, h1, _⟩
  · omega
  · refine ⟨g, cap, hx, h1, hg, fun j hj => ⟨L[j]'(by rw [h.1]; exact hj), ?_, h.2 j hj (by rw [h.1]; exact hj)⟩⟩
    rw [hc g cap hx j (by rw [h.1]; exact hj), List.getElem?_eq_getElem]

set_option maxRecDepth 100000 in
set_option maxHeartbeats 4000000 in
theorem all_list (pl : Nat) (e f : Int) (m : Nat) (l : List Nat) (w : World) (hm : m < 256) (h0 : 0 < l.length) (hl : l.length ≤ 1000) (hv : ∀ j, (h : j < l.length) → l[j] < 18446744073709551616 ∧ w.cell? ⟨pl, j, none⟩ = some (.int .u64 (l[j] : Nat))) (hT : Tab w) :
    Calls Tryz.prog 64 #[.agg #[.int .i64 e, .int .i64 f], .int .u8 (m : Int), .slice (some ⟨pl, 0, none⟩) l.length l.length] w (AllO e f m l w) := by
  obtain ⟨i0, hi0, hz0, hz1, hz2⟩ := info_parts float_info
  obtain ⟨P, hP⟩ : ∃ P, P = prL e.toNat f.toNat l := ⟨_, rfl⟩
  have hPl : P.length = l.length := by rw [hP, prL_len]
  have hPat : ∀ j, (h : j < l.length) → P[j]'(by omega) = (nanB e.toNat f.toNat l[j], qtB f.toNat l[j]) := fun j h => by subst hP; simp [prL]
  obtain ⟨tb, htb⟩ : ∃ tb, tb = alB e f m l := ⟨_, rfl⟩
  obtain ⟨tf, htf⟩ : ∃ tf, tf = alF e f m l := ⟨_, rfl⟩
  obtain ⟨te, hte⟩ : ∃ te, te = askE e f m l := ⟨_, rfl⟩
  obtain ⟨tk, htk⟩ : ∃ tk, tk = alK e f m l := ⟨_, rfl⟩
  have hAll : ∀ en w', (∃ pk out, en = .returned (.tuple #[.pointer (some ⟨pk, 0, none⟩), out, .agg #[.int .u64 (tb : Int), .int .u8 tf, .int .i64 te], .bool tk]) ∧ (tk = true → RowF e.toNat f.toNat l out w.heap.size w') ∧ Box3 w' pk (.int .i64 e) (.int .i64 f) (.int .u8 (m : Int)) ∧ Below w.heap.size w w') → AllO e f m l w en w' := by
    rintro en w' ⟨pk, out, rfl, h1, h2, h3⟩
    exact ⟨pk, out, by rw [htb, htf, hte, htk], fun h => h1 (htk.trans h), h2, h3⟩
  refine Calls.mono ?_ hAll
  have H : Hid ((tb = if te = 0 ∧ nansB P = true then nanN e.toNat f.toNat else 0) ∧ (tf = if te = 0 ∧ nansB P = true then loudN P else 0) ∧ (te = askE e f m l) ∧ (tk = (decide (te = 0) && !nansB P))) := Lib.hid ⟨by rw [htb, hte, hP]; rfl, by rw [htf, hte, hP]; rfl, hte, by rw [htk, hte, hP]; rfl⟩
  have HP := Lib.hid hPat
  clear hAll htb htf hte htk hP hPat
  go_enter Tryz.func64, Tryz.ntmps64
  go_wp2
  have hW3 := more (more (more (Below.refl w.heap.size w) (.cells #[.int .i64 e, .int .i64 f] 23)) (.cells #[.int .u64 0, .int .u8 0, .int .i64 0] 90)) (.cells #[.int .i64 e, .int .i64 f, .int .u8 (m : Int)] 198)
  have R0 := (box3_new (w.alloc (.cells #[.int .i64 e, .int .i64 f] 23)) (.int .u64 0) (.int .u8 0) (.int .i64 0) 90).alloc (.cells #[.int .i64 e, .int .i64 f, .int .u8 (m : Int)] 198)
  have Q0 := box3_new ((w.alloc (.cells #[.int .i64 e, .int .i64 f] 23)).alloc (.cells #[.int .u64 0, .int .u8 0, .int .i64 0] 90)) (.int .i64 e) (.int .i64 f) (.int .u8 (m : Int)) 198
  rw [World.size_alloc] at R0
  rw [World.size_alloc, World.size_alloc] at Q0
  have z3 : (((w.alloc (.cells #[.int .i64 e, .int .i64 f] 23)).alloc (.cells #[.int .u64 0, .int .u8 0, .int .i64 0] 90)).alloc (.cells #[.int .i64 e, .int .i64 f, .int .u8 (m : Int)] 198)).heap.size = w.heap.size + 1 + 1 + 1 := by simp
  generalize ((w.alloc (.cells #[.int .i64 e, .int .i64 f] 23)).alloc (.cells #[.int .u64 0, .int .u8 0, .int .i64 0] 90)).alloc (.cells #[.int .i64 e, .int .i64 f, .int .u8 (m : Int)] 198) = w3 at hW3 R0 Q0 z3 ⊢
  go_loopw [6, 7, 10, 11, 24] (fun kp out flv an i wr => ∃ (k : Nat) (L : List Value), kp = .pointer (some ⟨w.heap.size + 1 + 1, 0, none⟩) ∧ k ≤ l.length ∧ i = .int .i64 k ∧ flv = .int .u8 (loudN (P.take k)) ∧ an = .bool (nansB (P.take k)) ∧ Hid (∀ j, (h1 : j < k) → (h2 : j < l.length) → fitsE e f l[j] = 0) ∧ wr.ownsRow w3.heap.size 94 1 out k L ∧ Till e.toNat f.toNat l k L w3.heap.size wr ∧ Below w3.heap.size w3 wr) (fun _ _ _ _ i _ => l.length - (intOf i).toNat)
  case atStart => exact ⟨0, [], rfl, by omega, rfl, rfl, rfl, Lib.hid (fun j h1 h2 => absurd h1 (by omega)), World.ownsRow_nil _ _ _ _, ⟨rfl, fun j h1 h2 => absurd h2 (by simp)⟩, Below.refl _ _⟩
  case round =>
    obtain ⟨k, L, rfl, hk, rfl, rfl, rfl, hh, hown, hTl, hbr⟩ := hrel
    have hW := next hW3 hbr
    have R1 := R0.stay hbr
    have Q1 := Q0.stay hbr
    have hT1 := hT.below hW
    have ⟨q0, q1, q2, qz0, qz1, qz2⟩ := Q1
    by_cases hkl : k < l.length
    · obtain ⟨v1, v2⟩ := hv k hkl
      have d0 := cellStay v2 hW
      have hat := @askL_at e f l k hkl (fun j h => hh.out j h (by omega))
      by_cases hE : fitsE e f l[k] = 0
      · have hh' : Hid (∀ j, (h1 : j < k + 1) → (h2 : j < l.length) → fitsE e f l[j] = 0) := Lib.hid fun j h1 h2 => by
          rcases (by omega : j < k ∨ j = k) with h | rfl
          · exact hh.out j h h2
          · exact hE
        have hlo := loudN_snoc (L := P) (k := k) (by omega)
        have hna := nansB_take (L := P) (k := k) (by omega)
        rw [HP.out k hkl] at hlo hna
        have cG := fun W hT1 Q1 => opA_any (w.heap.size + 1 + 1) e f l[k] m W hE v1 hT1 Q1
        obtain ⟨n, hn⟩ : ∃ n, n = nanB e.toNat f.toNat l[k] := ⟨_, rfl⟩
        obtain ⟨q, hq⟩ : ∃ q, q = qtB f.toNat l[k] := ⟨_, rfl⟩
        rw [← hn, ← hq] at hlo
        rw [← hn] at hna
        have Hn := Lib.hid hn
        have Hq := Lib.hid hq
        have Hlo := Lib.hid hlo
        have Hna := Lib.hid hna
        clear hat hh hn hq hlo hna
        cases n <;> cases q
        all_goals
          go_wp2_with (first
            | (go_at_call 160; (with_reducible refine (cG _ hT1 Q1).mono ?_); rintro en w4 ⟨v, rfl, hO, hb4⟩; obtain ⟨T, x, rfl, hta⟩ := hO.ask; rw [← Hn.out, ← Hq.out] at hta; have hW4 := next hbr hb4; have hown4 := own_keep hown hb4; have hTl4 := hTl.below hb4; have hO4 := hO.mono hbr.size; have zz4 := hW4.size)
            | (at_builtin; refine wpList_append_vals _ rfl (.tmp 47) (.tmp 49) _ rfl w3.heap.size 94 i0 .nilIface 16 Tryz.underlying88 hi0 hz0 hz1 hz2 rfl _ k L rfl ((hown4.alloc _).alloc _) (some ⟨w4.heap.size + 1, 0, none⟩) 1 1 (fun _ => .iface T x) (fun _ => rfl) rfl (.inr ⟨w4.heap.size + 1, rfl, fun j hj => by (obtain rfl : j = 0 := by omega); simp⟩) (by unfold maxLen; omega) (by omega) (by simp; omega) ?_; intro v5 w5 hown5 hg5 hat5; have hW5 := grownOwn (more (more hW4 _) _) ((hown4.alloc _).alloc _) (Nat.le_refl _) hg5))
        all_goals exact ⟨⟨k + 1, _, rfl, by omega, rfl, congrArg (Value.int .u8) (by rw [Hlo.out]; rfl), congrArg Value.bool (by rw [Hna.out]; simp), hh', hown5, ((hTl4.below (more (more (Below.refl _ _) _) _)).more hkl (hO4.below (more (more (Below.refl _ _) _) _))).grown ((hown4.alloc _).alloc _) hg5, hW5⟩, by simp [intOf]; omega⟩
      · have hm' : askE e f m l = fitsE e f l[k] := by unfold askE; rw [hat hE, if_pos hE]
        have hB : (fitsE e f l[k] != 0) = true := by simp [hE]
        have cO := fun W Q1 => kitOpen_no (w.heap.size + 1 + 1) e f l[k] (m : Int) W hE v1 Q1
        obtain ⟨E, hEE⟩ : ∃ E, E = fitsE e f l[k] := ⟨_, rfl⟩
        rw [← hEE] at hm' hE hB cO
        have Ht : Hid (te = E ∧ tb = 0 ∧ tf = 0 ∧ tk = false) := Lib.hid (by
          obtain ⟨g1, g2, g3, g4⟩ := H.out
          rw [hm'] at g3
          refine ⟨g3, ?_, ?_, ?_⟩
          · rw [g1, g3, if_neg (fun h => hE h.1)]
          · rw [g2, g3, if_neg (fun h => hE h.1)]
          · rw [g4, g3, decide_eq_false hE]; rfl)
        clear hat hh hm' hEE hTl hown
        go_wp2_with (go_at_call 160; (with_reducible refine (cO _ Q1).mono ?_); rintro en w4 ⟨v, rfl, hb4⟩; have R2 := R1.stay hb4; have ⟨r0, r1, r2, rz0, rz1, rz2⟩ := R2; have Q2 := Q1.stay hb4; have hW4 := next hW hb4)
        have ⟨t0, t1, t2⟩ := R2.set (.int .u64 0) (.int .u8 0) (.int .i64 E)
        refine bodyPost_ret (v := .tuple #[.pointer (some ⟨w.heap.size + 1 + 1, 0, none⟩), .slice none 0 0, .agg #[.int .u64 0, .int .u8 0, .int .i64 E], .bool false]) (by simp [results, Tryz.results64, go_sem, t0, t1, t2]) rfl ?_
        obtain ⟨g1, g2, g3, g4⟩ := Ht.out
        rw [g1, g2, g3, g4]
        exact ⟨_, _, rfl, (fun h => by cases h), set3_other Q2 (by omega) _ _ _, ((hW4.setCell (by simp) _).setCell (by simp) _).setCell (by simp) _⟩
    · obtain rfl : k = l.length := by omega
      have hok : askL e f l = 0 := askL_ok fun j h => hh.out j h h
      have htk : P.take l.length = P := by rw [← hPl, List.take_length]
      rw [htk]
      have hform : formE e f = 0 := (fitsE_parts (hh.out 0 h0 h0)).1
      have ⟨r0, r1, r2, rz0, rz1, rz2⟩ := R1
      have cN := fun fl W Q1 => kitNan_i (w.heap.size + 1 + 1) e f m fl W hform Q1
      by_cases h4 : 4 < m
      · have Ht : Hid (te = 7 ∧ tb = 0 ∧ tf = 0 ∧ tk = false) := Lib.hid (by
          obtain ⟨g1, g2, g3, g4⟩ := H.out
          have hm' : askE e f m l = 7 := by unfold askE; rw [hok, if_neg (by simp), if_pos (by omega)]
          rw [hm'] at g3
          refine ⟨g3, ?_, ?_, ?_⟩
          · rw [g1, g3, if_neg (by simp)]
          · rw [g2, g3, if_neg (by simp)]
          · rw [g4, g3]; rfl)
        clear hh hTl hown cN
        go_wp2
        have ⟨t0, t1, t2⟩ := R1.set (.int .u64 0) (.int .u8 0) (.int .i64 7)
        refine bodyPost_ret (v := .tuple #[.pointer (some ⟨w.heap.size + 1 + 1, 0, none⟩), .slice none 0 0, .agg #[.int .u64 0, .int .u8 0, .int .i64 7], .bool false]) (by simp [results, Tryz.results64, go_sem, t0, t1, t2]) rfl ?_
        obtain ⟨g1, g2, g3, g4⟩ := Ht.out
        rw [g1, g2, g3, g4]
        exact ⟨_, _, rfl, (fun h => by cases h), set3_other Q1 (by omega) _ _ _, ((hW.setCell (by simp) _).setCell (by simp) _).setCell (by simp) _⟩
      · have hm' : askE e f m l = 0 := by unfold askE; rw [hok, if_neg (by simp), if_neg (by omega)]
        cases hany : nansB P
        · have Ht : Hid (te = 0 ∧ tb = 0 ∧ tf = 0 ∧ tk = true) := Lib.hid (by
            obtain ⟨g1, g2, g3, g4⟩ := H.out
            rw [hm'] at g3
            rw [hany] at g1 g2 g4
            refine ⟨g3, ?_, ?_, ?_⟩
            · rw [g1, if_neg (fun h => by cases h.2)]
            · rw [g2, if_neg (fun h => by cases h.2)]
            · rw [g4, g3]; rfl)
          have hR := hTl.row h0 hown
          clear hh hTl hown cN hm'
          go_wp2
          go_region
          all_goals go_wp2
          all_goals
            have ⟨t0, t1, t2⟩ := R1.set (.int .u64 0) (.int .u8 0) (.int .i64 0)
            refine bodyPost_ret (v := .tuple #[.pointer (some ⟨w.heap.size + 1 + 1, 0, none⟩), _, .agg #[.int .u64 0, .int .u8 0, .int .i64 0], .bool true]) (by simp [results, Tryz.results64, go_sem, t0, t1, t2]; rfl) rfl ?_
            obtain ⟨g1, g2, g3, g4⟩ := Ht.out
            rw [g1, g2, g3, g4]
            exact ⟨_, _, rfl, (fun _ => ((((hR.setCell (by simp; omega) _).setCell (by simp; omega) _).setCell (by simp; omega) _).below (Below.refl _ _).drew).mono (by omega)), Box3.stay (set3_other Q1 (by omega) _ _ _) (Below.refl _ _).drew, (((hW.setCell (by simp) _).setCell (by simp) _).setCell (by simp) _).drew⟩
        · have Ht : Hid (te = 0 ∧ tb = nanN e.toNat f.toNat ∧ tf = loudN P ∧ tk = false) := Lib.hid (by
            obtain ⟨g1, g2, g3, g4⟩ := H.out
            rw [hm'] at g3
            rw [hany] at g1 g2 g4
            refine ⟨g3, ?_, ?_, ?_⟩
            · rw [g1, if_pos ⟨g3, rfl⟩]
            · rw [g2, if_pos ⟨g3, rfl⟩]
            · rw [g4, g3]; rfl)
          generalize loudN P = fl at *
          clear hh hTl hown hm'
          go_wp2_with (go_at_call 161; (with_reducible refine (cN _ _ Q1).mono ?_); rintro en w4 ⟨rfl, hb4⟩; have R2 := R1.stay hb4; have Q2 := Q1.stay hb4; have hW4 := next hW hb4; have ⟨rr0, rr1, rr2, rrz0, rrz1, rrz2⟩ := R2)
          have ⟨t0, t1, t2⟩ := R2.set (.int .u64 (nanN e.toNat f.toNat)) (.int .u8 fl) (.int .i64 0)
          refine bodyPost_ret (v := .tuple #[.pointer (some ⟨w.heap.size + 1 + 1, 0, none⟩), .slice none 0 0, .agg #[.int .u64 (nanN e.toNat f.toNat), .int .u8 fl, .int .i64 0], .bool false]) (by simp [results, Tryz.results64, go_sem, t0, t1, t2]) rfl ?_
          obtain ⟨g1, g2, g3, g4⟩ := Ht.out
          rw [g1, g2, g3, g4]
          exact ⟨_, _, rfl, (fun h => by cases h), set3_other Q2 (by omega) _ _ _, ((hW4.setCell (by simp) _).setCell (by simp) _).setCell (by simp) _⟩

end Go.Proofs.YtkifhlgmbckekaaGreatDoor

