/-
  NARROWER THAN 'FOR EVERY INPUT', by the rows' own cells (each row's printed sentence says how): SoftPicks: laid · ExactNames: laid · ExactOver: laid · ExactRing: laid · ExactFloats: laid · TopWorth: laid.
  DERIVED. THE GIVEN ROWS OF THIS SEAT. 6 by the template 'for every input the law returns true; each argument reads behind the call as it read before'; 0 by the template 'total and deterministic' (their statements: YtmiheaoojmgalaaDoorTotals.lean).
  GIVEN WITH THE SEED: the statements are not yours to turn. If you find one false, say at which input.
  Laid BY PROGRAM, IN A SANDBOX (cutbox-rows.mjs): the forced cells as the released guide's own fill.sh prints them over the translation a55c44ef87ef349b… (all of the seat's roots in one cut). By AI agents, Wed Nov 11 2026. No macro, syntax, notation, axiom, sorry.
-/
import Derived.Test.YtmiheaoojmgalaaDoorChecked
import GoSem.Claim
import GoSem.ClaimJoined
import GoSem.ClaimMapViews
import Derived.JoinedTies
import Derived.KernelRfl
namespace Go.Proofs.YtmiheaoojmgalaaDoor
/- THE CELL 'sum', in the pinned program and in every row, IS THE sha256 OF THE DUMP (.gsa) THAT YtmiheaoojmgalaaDoorProg.lean LOADS. Nothing in Lean hashes anything: it is a label: what it is worth is what the hold of that sum in a sandbox is worth. -/
noncomputable def Tryd.pinned : Pinned := { name := "ytmiheaoojmgalaadoor", sum := "a55c44ef87ef349b3baefd993200d25d43c2580b9225f0cb4802fd6b6e04bdd2", checked := Tryd.checked }
namespace Rows
def none {H : Type} : Left H := { results := [], args := [] }

/- WHAT THE LISTED PACKAGE-LEVEL VARIABLES READ AS WHEN THE CALL BEGINS. Each datum BY PROGRAM (the guide's laid-datum.mjs) off the statement by which the dump's own 'gosem.cut.vars' lays the variable. In a bare row this is a premise. The card (YtmiheaoojmgalaaDoorCards.lean) ties it to the program's text. -/
def laid_math_bits_deBruijn32tab {H : Type} : DataW H := .agg [.lit (.int .u8 0), .lit (.int .u8 1), .lit (.int .u8 28), .lit (.int .u8 2), .lit (.int .u8 29), .lit (.int .u8 14), .lit (.int .u8 24), .lit (.int .u8 3), .lit (.int .u8 30), .lit (.int .u8 22), .lit (.int .u8 20), .lit (.int .u8 15), .lit (.int .u8 25), .lit (.int .u8 17), .lit (.int .u8 4), .lit (.int .u8 8), .lit (.int .u8 31), .lit (.int .u8 27), .lit (.int .u8 13), .lit (.int .u8 23), .lit (.int .u8 21), .lit (.int .u8 19), .lit (.int .u8 16), .lit (.int .u8 7), .lit (.int .u8 26), .lit (.int .u8 12), .lit (.int .u8 18), .lit (.int .u8 6), .lit (.int .u8 11), .lit (.int .u8 5), .lit (.int .u8 10), .lit (.int .u8 9)]

/-- 'numerallaw07.SoftPicks': WHATEVER THE INPUT: true; the input reads as it did. -/
def softPicksSpec : ChangeSpec := { name := "softPicks", fn := fun _ => fun
  | [d1, d2, d3] => { results := [.lit (.bool true)], args := [d1, d2, d3] }
  | _ => none }
def softPicksRow : OpenClaim := { program := "ytmiheaoojmgalaadoor", sum := "a55c44ef87ef349b3baefd993200d25d43c2580b9225f0cb4802fd6b6e04bdd2", func := "numeral/numerallaw07.SoftPicks", spec := "softPicks", named := ["math/bits.deBruijn32tab"], apart := false, laid := [("math/bits.deBruijn32tab", laid_math_bits_deBruijn32tab)] }
def SoftPicksSaid : Prop := softPicksRow.holds Tryd.pinned (OpenSpec.ofChange softPicksSpec)

/-- ITS FALSE NEIGHBOUR: 'it returns false'. Refute it at one input. -/
def softPicksWrong : ChangeSpec := { name := "softPicks", fn := fun _ => fun
  | [d1, d2, d3] => { results := [.lit (.bool false)], args := [d1, d2, d3] }
  | _ => none }
def SoftPicksWrongFalsely : Prop := softPicksRow.holds Tryd.pinned (OpenSpec.ofChange softPicksWrong)

/-- 'numerallaw04.ExactNames': WHATEVER THE INPUT: true; the input reads as it did. -/
def exactNamesSpec : ChangeSpec := { name := "exactNames", fn := fun _ => fun
  | [] => { results := [.lit (.bool true)], args := [] }
  | _ => none }
def exactNamesRow : OpenClaim := { program := "ytmiheaoojmgalaadoor", sum := "a55c44ef87ef349b3baefd993200d25d43c2580b9225f0cb4802fd6b6e04bdd2", func := "numeral/numerallaw04.ExactNames", spec := "exactNames", named := ["math/bits.deBruijn32tab"], apart := false, laid := [("math/bits.deBruijn32tab", laid_math_bits_deBruijn32tab)] }
def ExactNamesSaid : Prop := exactNamesRow.holds Tryd.pinned (OpenSpec.ofChange exactNamesSpec)

/-- ITS FALSE NEIGHBOUR: 'it returns false'. Refute it at one input. -/
def exactNamesWrong : ChangeSpec := { name := "exactNames", fn := fun _ => fun
  | [] => { results := [.lit (.bool false)], args := [] }
  | _ => none }
def ExactNamesWrongFalsely : Prop := exactNamesRow.holds Tryd.pinned (OpenSpec.ofChange exactNamesWrong)

/-- 'numerallaw04.ExactOver': WHATEVER THE INPUT: true; the input reads as it did. -/
def exactOverSpec : ChangeSpec := { name := "exactOver", fn := fun _ => fun
  | [d1, d2, d3] => { results := [.lit (.bool true)], args := [d1, d2, d3] }
  | _ => none }
def exactOverRow : OpenClaim := { program := "ytmiheaoojmgalaadoor", sum := "a55c44ef87ef349b3baefd993200d25d43c2580b9225f0cb4802fd6b6e04bdd2", func := "numeral/numerallaw04.ExactOver", spec := "exactOver", named := ["math/bits.deBruijn32tab"], apart := false, laid := [("math/bits.deBruijn32tab", laid_math_bits_deBruijn32tab)] }
def ExactOverSaid : Prop := exactOverRow.holds Tryd.pinned (OpenSpec.ofChange exactOverSpec)

/-- ITS FALSE NEIGHBOUR: 'it returns false'. Refute it at one input. -/
def exactOverWrong : ChangeSpec := { name := "exactOver", fn := fun _ => fun
  | [d1, d2, d3] => { results := [.lit (.bool false)], args := [d1, d2, d3] }
  | _ => none }
def ExactOverWrongFalsely : Prop := exactOverRow.holds Tryd.pinned (OpenSpec.ofChange exactOverWrong)

/-- 'numerallaw04.ExactRing': WHATEVER THE INPUT: true; the input reads as it did. -/
def exactRingSpec : ChangeSpec := { name := "exactRing", fn := fun _ => fun
  | [d1, d2] => { results := [.lit (.bool true)], args := [d1, d2] }
  | _ => none }
def exactRingRow : OpenClaim := { program := "ytmiheaoojmgalaadoor", sum := "a55c44ef87ef349b3baefd993200d25d43c2580b9225f0cb4802fd6b6e04bdd2", func := "numeral/numerallaw04.ExactRing", spec := "exactRing", named := ["math/bits.deBruijn32tab"], apart := false, laid := [("math/bits.deBruijn32tab", laid_math_bits_deBruijn32tab)] }
def ExactRingSaid : Prop := exactRingRow.holds Tryd.pinned (OpenSpec.ofChange exactRingSpec)

/-- ITS FALSE NEIGHBOUR: 'it returns false'. Refute it at one input. -/
def exactRingWrong : ChangeSpec := { name := "exactRing", fn := fun _ => fun
  | [d1, d2] => { results := [.lit (.bool false)], args := [d1, d2] }
  | _ => none }
def ExactRingWrongFalsely : Prop := exactRingRow.holds Tryd.pinned (OpenSpec.ofChange exactRingWrong)

/-- 'numerallaw04.ExactFloats': WHATEVER THE INPUT: true; the input reads as it did. -/
def exactFloatsSpec : ChangeSpec := { name := "exactFloats", fn := fun _ => fun
  | [d1, d2, d3, d4] => { results := [.lit (.bool true)], args := [d1, d2, d3, d4] }
  | _ => none }
def exactFloatsRow : OpenClaim := { program := "ytmiheaoojmgalaadoor", sum := "a55c44ef87ef349b3baefd993200d25d43c2580b9225f0cb4802fd6b6e04bdd2", func := "numeral/numerallaw04.ExactFloats", spec := "exactFloats", inPlace := ["math.Float64frombits"], unfollowed := true, recurses := true, named := ["math/bits.deBruijn32tab"], apart := false, laid := [("math/bits.deBruijn32tab", laid_math_bits_deBruijn32tab)] }
def ExactFloatsSaid : Prop := exactFloatsRow.holds Tryd.pinned (OpenSpec.ofChange exactFloatsSpec)

/-- ITS FALSE NEIGHBOUR: 'it returns false'. Refute it at one input. -/
def exactFloatsWrong : ChangeSpec := { name := "exactFloats", fn := fun _ => fun
  | [d1, d2, d3, d4] => { results := [.lit (.bool false)], args := [d1, d2, d3, d4] }
  | _ => none }
def ExactFloatsWrongFalsely : Prop := exactFloatsRow.holds Tryd.pinned (OpenSpec.ofChange exactFloatsWrong)

/-- 'numeraltop.TopWorth': WHATEVER THE INPUT: true; the input reads as it did. -/
def topWorthSpec : ChangeSpec := { name := "topWorth", fn := fun _ => fun
  | [d1, d2, d3] => { results := [.lit (.bool true)], args := [d1, d2, d3] }
  | _ => none }
def topWorthRow : OpenClaim := { program := "ytmiheaoojmgalaadoor", sum := "a55c44ef87ef349b3baefd993200d25d43c2580b9225f0cb4802fd6b6e04bdd2", func := "numeral/numeraltop.TopWorth", spec := "topWorth", named := ["math/bits.deBruijn32tab"], apart := false, laid := [("math/bits.deBruijn32tab", laid_math_bits_deBruijn32tab)] }
def TopWorthSaid : Prop := topWorthRow.holds Tryd.pinned (OpenSpec.ofChange topWorthSpec)

/-- ITS FALSE NEIGHBOUR: 'it returns false'. Refute it at one input. -/
def topWorthWrong : ChangeSpec := { name := "topWorth", fn := fun _ => fun
  | [d1, d2, d3] => { results := [.lit (.bool false)], args := [d1, d2, d3] }
  | _ => none }
def TopWorthWrongFalsely : Prop := topWorthRow.holds Tryd.pinned (OpenSpec.ofChange topWorthWrong)

/- THE SECOND FORM. 'bulk': how many values and letters a reading holds, each counted each time it is reached (what is shared counts as often as it is met; a slice's spare places count too). A statement '..UptoSaid' is the law's where the arguments, and the package variables that the reading takes, are together of bulk at most 1048576: NARROWER than '..Said'. Prove '..Said' where nothing that the law and all that it calls make is longer than what came in: it says more and counts as full. Else prove '..UptoSaid'. A law counts once. -/
mutual
def uptoBulk {H : Type} : DataW H → Nat
  | .lit (.string bytes) => bytes.length + 1
  | .lit _ => 1
  | .nil => 1
  | .ptr d => uptoBulk d + 1
  | .slice elems spare => uptoBulkAll elems + uptoBulkAll spare + 1
  | .agg parts => uptoBulkAll parts + 1
  | .iface _ d => uptoBulk d + 1
  | .map entries => uptoBulkEntries entries + 1
  | .held _ => 1
def uptoBulkAll {H : Type} : List (DataW H) → Nat
  | [] => 0
  | d :: r => uptoBulk d + uptoBulkAll r
def uptoBulkEntries {H : Type} : List (Lit × DataW H) → Nat
  | [] => 0
  | x :: r => uptoBulkEntry x + uptoBulkEntries r
def uptoBulkEntry {H : Type} : Lit × DataW H → Nat
  | (.string bytes, d) => bytes.length + uptoBulk d + 1
  | (_, d) => uptoBulk d + 1
 end
def uptoSmall : (H : Type) → List (DataW H) → Bool := fun _ ds => decide (uptoBulkAll ds ≤ 1048576)
def OpenSpec.upto (s : _root_.Go.ChangeSpec) : _root_.Go.OpenSpec := { _root_.Go.OpenSpec.ofChange s with cond := some uptoSmall }

/-- 'numerallaw07.SoftPicks', WHERE WHAT IT READS IS OF BULK AT MOST 1048576: true; the input reads as it did. -/
def softPicksUptoRow : OpenClaim := { program := "ytmiheaoojmgalaadoor", sum := "a55c44ef87ef349b3baefd993200d25d43c2580b9225f0cb4802fd6b6e04bdd2", func := "numeral/numerallaw07.SoftPicks", spec := "softPicks", named := ["math/bits.deBruijn32tab"], apart := false, laid := [("math/bits.deBruijn32tab", laid_math_bits_deBruijn32tab)], narrowed := true }
def SoftPicksUptoSaid : Prop := softPicksUptoRow.holds Tryd.pinned (OpenSpec.upto softPicksSpec)

/-- 'numerallaw04.ExactNames', WHERE WHAT IT READS IS OF BULK AT MOST 1048576: true; the input reads as it did. -/
def exactNamesUptoRow : OpenClaim := { program := "ytmiheaoojmgalaadoor", sum := "a55c44ef87ef349b3baefd993200d25d43c2580b9225f0cb4802fd6b6e04bdd2", func := "numeral/numerallaw04.ExactNames", spec := "exactNames", named := ["math/bits.deBruijn32tab"], apart := false, laid := [("math/bits.deBruijn32tab", laid_math_bits_deBruijn32tab)], narrowed := true }
def ExactNamesUptoSaid : Prop := exactNamesUptoRow.holds Tryd.pinned (OpenSpec.upto exactNamesSpec)

/-- 'numerallaw04.ExactOver', WHERE WHAT IT READS IS OF BULK AT MOST 1048576: true; the input reads as it did. -/
def exactOverUptoRow : OpenClaim := { program := "ytmiheaoojmgalaadoor", sum := "a55c44ef87ef349b3baefd993200d25d43c2580b9225f0cb4802fd6b6e04bdd2", func := "numeral/numerallaw04.ExactOver", spec := "exactOver", named := ["math/bits.deBruijn32tab"], apart := false, laid := [("math/bits.deBruijn32tab", laid_math_bits_deBruijn32tab)], narrowed := true }
def ExactOverUptoSaid : Prop := exactOverUptoRow.holds Tryd.pinned (OpenSpec.upto exactOverSpec)

/-- 'numerallaw04.ExactRing', WHERE WHAT IT READS IS OF BULK AT MOST 1048576: true; the input reads as it did. -/
def exactRingUptoRow : OpenClaim := { program := "ytmiheaoojmgalaadoor", sum := "a55c44ef87ef349b3baefd993200d25d43c2580b9225f0cb4802fd6b6e04bdd2", func := "numeral/numerallaw04.ExactRing", spec := "exactRing", named := ["math/bits.deBruijn32tab"], apart := false, laid := [("math/bits.deBruijn32tab", laid_math_bits_deBruijn32tab)], narrowed := true }
def ExactRingUptoSaid : Prop := exactRingUptoRow.holds Tryd.pinned (OpenSpec.upto exactRingSpec)

/-- 'numerallaw04.ExactFloats', WHERE WHAT IT READS IS OF BULK AT MOST 1048576: true; the input reads as it did. -/
def exactFloatsUptoRow : OpenClaim := { program := "ytmiheaoojmgalaadoor", sum := "a55c44ef87ef349b3baefd993200d25d43c2580b9225f0cb4802fd6b6e04bdd2", func := "numeral/numerallaw04.ExactFloats", spec := "exactFloats", inPlace := ["math.Float64frombits"], unfollowed := true, recurses := true, named := ["math/bits.deBruijn32tab"], apart := false, laid := [("math/bits.deBruijn32tab", laid_math_bits_deBruijn32tab)], narrowed := true }
def ExactFloatsUptoSaid : Prop := exactFloatsUptoRow.holds Tryd.pinned (OpenSpec.upto exactFloatsSpec)

/-- 'numeraltop.TopWorth', WHERE WHAT IT READS IS OF BULK AT MOST 1048576: true; the input reads as it did. -/
def topWorthUptoRow : OpenClaim := { program := "ytmiheaoojmgalaadoor", sum := "a55c44ef87ef349b3baefd993200d25d43c2580b9225f0cb4802fd6b6e04bdd2", func := "numeral/numeraltop.TopWorth", spec := "topWorth", named := ["math/bits.deBruijn32tab"], apart := false, laid := [("math/bits.deBruijn32tab", laid_math_bits_deBruijn32tab)], narrowed := true }
def TopWorthUptoSaid : Prop := topWorthUptoRow.holds Tryd.pinned (OpenSpec.upto topWorthSpec)

end Rows
end Go.Proofs.YtmiheaoojmgalaaDoor
