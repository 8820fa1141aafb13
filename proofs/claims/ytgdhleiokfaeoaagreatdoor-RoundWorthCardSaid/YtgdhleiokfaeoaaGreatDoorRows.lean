/-
  NARROWER THAN 'FOR EVERY INPUT', by the rows' own cells (each row's printed sentence says how): RoundRatios: laid · RoundScaleds: laid · RoundWholes: laid · RoundDyadics: laid · RoundInteger: laid · RoundMirror: laid · RoundSides: laid · RoundWorth: laid.
  DERIVED. THE GIVEN ROWS OF THIS SEAT. 8 by the template 'for every input the law returns true; each argument reads behind the call as it read before'; 0 by the template 'total and deterministic' (their statements: YtgdhleiokfaeoaaGreatDoorTotals.lean).
  GIVEN WITH THE SEED: the statements are not yours to turn. If you find one false, say at which input.
  Laid BY PROGRAM, IN A SANDBOX (cutbox-rows.mjs): the forced cells as the released guide's own fill.sh prints them over the translation 6ffe70b9dd27f220… (all of the seat's roots in one cut). By AI agents, Wed Nov 11 2026. No macro, syntax, notation, axiom, sorry.
-/
import Derived.Test.YtgdhleiokfaeoaaGreatDoorChecked
import GoSem.Claim
import GoSem.ClaimJoined
import GoSem.ClaimMapViews
import Derived.JoinedTies
import Derived.KernelRfl
namespace Go.Proofs.YtgdhleiokfaeoaaGreatDoor
/- THE CELL 'sum', in the pinned program and in every row, IS THE sha256 OF THE DUMP (.gsa) THAT YtgdhleiokfaeoaaGreatDoorProg.lean LOADS. Nothing in Lean hashes anything: it is a label: what it is worth is what the hold of that sum in a sandbox is worth. -/
noncomputable def Tryz.pinned : Pinned := { name := "ytgdhleiokfaeoaagreatdoor", sum := "6ffe70b9dd27f220f21019adc873472c03a9d3b927f6797a612027dcf5be7207", checked := Tryz.checked }
namespace Rows
def none {H : Type} : Left H := { results := [], args := [] }

/- WHAT THE LISTED PACKAGE-LEVEL VARIABLES READ AS WHEN THE CALL BEGINS. Each datum BY PROGRAM (the guide's laid-datum.mjs) off the statement by which the dump's own 'gosem.cut.vars' lays the variable. In a bare row this is a premise. The card (YtgdhleiokfaeoaaGreatDoorCards.lean) ties it to the program's text. -/
def laid_math_bits_deBruijn32tab {H : Type} : DataW H := .agg [.lit (.int .u8 0), .lit (.int .u8 1), .lit (.int .u8 28), .lit (.int .u8 2), .lit (.int .u8 29), .lit (.int .u8 14), .lit (.int .u8 24), .lit (.int .u8 3), .lit (.int .u8 30), .lit (.int .u8 22), .lit (.int .u8 20), .lit (.int .u8 15), .lit (.int .u8 25), .lit (.int .u8 17), .lit (.int .u8 4), .lit (.int .u8 8), .lit (.int .u8 31), .lit (.int .u8 27), .lit (.int .u8 13), .lit (.int .u8 23), .lit (.int .u8 21), .lit (.int .u8 19), .lit (.int .u8 16), .lit (.int .u8 7), .lit (.int .u8 26), .lit (.int .u8 12), .lit (.int .u8 18), .lit (.int .u8 6), .lit (.int .u8 11), .lit (.int .u8 5), .lit (.int .u8 10), .lit (.int .u8 9)]

/-- 'numerallaw05.RoundRatios': WHATEVER THE INPUT: true; the input reads as it did. -/
def roundRatiosSpec : ChangeSpec := { name := "roundRatios", fn := fun _ => fun
  | [d1, d2, d3, d4] => { results := [.lit (.bool true)], args := [d1, d2, d3, d4] }
  | _ => none }
def roundRatiosRow : OpenClaim := { program := "ytgdhleiokfaeoaagreatdoor", sum := "6ffe70b9dd27f220f21019adc873472c03a9d3b927f6797a612027dcf5be7207", func := "numeral/numerallaw05.RoundRatios", spec := "roundRatios", unfollowed := true, recurses := true, named := ["math/bits.deBruijn32tab"], apart := false, laid := [("math/bits.deBruijn32tab", laid_math_bits_deBruijn32tab)] }
def RoundRatiosSaid : Prop := roundRatiosRow.holds Tryz.pinned (OpenSpec.ofChange roundRatiosSpec)

/-- ITS FALSE NEIGHBOUR: 'it returns false'. Refute it at one input. -/
def roundRatiosWrong : ChangeSpec := { name := "roundRatios", fn := fun _ => fun
  | [d1, d2, d3, d4] => { results := [.lit (.bool false)], args := [d1, d2, d3, d4] }
  | _ => none }
def RoundRatiosWrongFalsely : Prop := roundRatiosRow.holds Tryz.pinned (OpenSpec.ofChange roundRatiosWrong)

/-- 'numerallaw05.RoundScaleds': WHATEVER THE INPUT: true; the input reads as it did. -/
def roundScaledsSpec : ChangeSpec := { name := "roundScaleds", fn := fun _ => fun
  | [d1, d2, d3, d4, d5] => { results := [.lit (.bool true)], args := [d1, d2, d3, d4, d5] }
  | _ => none }
def roundScaledsRow : OpenClaim := { program := "ytgdhleiokfaeoaagreatdoor", sum := "6ffe70b9dd27f220f21019adc873472c03a9d3b927f6797a612027dcf5be7207", func := "numeral/numerallaw05.RoundScaleds", spec := "roundScaleds", unfollowed := true, recurses := true, named := ["math/bits.deBruijn32tab"], apart := false, laid := [("math/bits.deBruijn32tab", laid_math_bits_deBruijn32tab)] }
def RoundScaledsSaid : Prop := roundScaledsRow.holds Tryz.pinned (OpenSpec.ofChange roundScaledsSpec)

/-- ITS FALSE NEIGHBOUR: 'it returns false'. Refute it at one input. -/
def roundScaledsWrong : ChangeSpec := { name := "roundScaleds", fn := fun _ => fun
  | [d1, d2, d3, d4, d5] => { results := [.lit (.bool false)], args := [d1, d2, d3, d4, d5] }
  | _ => none }
def RoundScaledsWrongFalsely : Prop := roundScaledsRow.holds Tryz.pinned (OpenSpec.ofChange roundScaledsWrong)

/-- 'numerallaw05.RoundWholes': WHATEVER THE INPUT: true; the input reads as it did. -/
def roundWholesSpec : ChangeSpec := { name := "roundWholes", fn := fun _ => fun
  | [d1, d2] => { results := [.lit (.bool true)], args := [d1, d2] }
  | _ => none }
def roundWholesRow : OpenClaim := { program := "ytgdhleiokfaeoaagreatdoor", sum := "6ffe70b9dd27f220f21019adc873472c03a9d3b927f6797a612027dcf5be7207", func := "numeral/numerallaw05.RoundWholes", spec := "roundWholes", unfollowed := true, recurses := true, named := ["math/bits.deBruijn32tab"], apart := false, laid := [("math/bits.deBruijn32tab", laid_math_bits_deBruijn32tab)] }
def RoundWholesSaid : Prop := roundWholesRow.holds Tryz.pinned (OpenSpec.ofChange roundWholesSpec)

/-- ITS FALSE NEIGHBOUR: 'it returns false'. Refute it at one input. -/
def roundWholesWrong : ChangeSpec := { name := "roundWholes", fn := fun _ => fun
  | [d1, d2] => { results := [.lit (.bool false)], args := [d1, d2] }
  | _ => none }
def RoundWholesWrongFalsely : Prop := roundWholesRow.holds Tryz.pinned (OpenSpec.ofChange roundWholesWrong)

/-- 'numerallaw05.RoundDyadics': WHATEVER THE INPUT: true; the input reads as it did. -/
def roundDyadicsSpec : ChangeSpec := { name := "roundDyadics", fn := fun _ => fun
  | [d1, d2, d3, d4] => { results := [.lit (.bool true)], args := [d1, d2, d3, d4] }
  | _ => none }
def roundDyadicsRow : OpenClaim := { program := "ytgdhleiokfaeoaagreatdoor", sum := "6ffe70b9dd27f220f21019adc873472c03a9d3b927f6797a612027dcf5be7207", func := "numeral/numerallaw05.RoundDyadics", spec := "roundDyadics", unfollowed := true, recurses := true, named := ["math/bits.deBruijn32tab"], apart := false, laid := [("math/bits.deBruijn32tab", laid_math_bits_deBruijn32tab)] }
def RoundDyadicsSaid : Prop := roundDyadicsRow.holds Tryz.pinned (OpenSpec.ofChange roundDyadicsSpec)

/-- ITS FALSE NEIGHBOUR: 'it returns false'. Refute it at one input. -/
def roundDyadicsWrong : ChangeSpec := { name := "roundDyadics", fn := fun _ => fun
  | [d1, d2, d3, d4] => { results := [.lit (.bool false)], args := [d1, d2, d3, d4] }
  | _ => none }
def RoundDyadicsWrongFalsely : Prop := roundDyadicsRow.holds Tryz.pinned (OpenSpec.ofChange roundDyadicsWrong)

/-- 'numerallaw05.RoundInteger': WHATEVER THE INPUT: true; the input reads as it did. -/
def roundIntegerSpec : ChangeSpec := { name := "roundInteger", fn := fun _ => fun
  | [d] => { results := [.lit (.bool true)], args := [d] }
  | _ => none }
def roundIntegerRow : OpenClaim := { program := "ytgdhleiokfaeoaagreatdoor", sum := "6ffe70b9dd27f220f21019adc873472c03a9d3b927f6797a612027dcf5be7207", func := "numeral/numerallaw05.RoundInteger", spec := "roundInteger", unfollowed := true, recurses := true, named := ["math/bits.deBruijn32tab"], apart := false, laid := [("math/bits.deBruijn32tab", laid_math_bits_deBruijn32tab)] }
def RoundIntegerSaid : Prop := roundIntegerRow.holds Tryz.pinned (OpenSpec.ofChange roundIntegerSpec)

/-- ITS FALSE NEIGHBOUR: 'it returns false'. Refute it at one input. -/
def roundIntegerWrong : ChangeSpec := { name := "roundInteger", fn := fun _ => fun
  | [d] => { results := [.lit (.bool false)], args := [d] }
  | _ => none }
def RoundIntegerWrongFalsely : Prop := roundIntegerRow.holds Tryz.pinned (OpenSpec.ofChange roundIntegerWrong)

/-- 'numerallaw05.RoundMirror': WHATEVER THE INPUT: true; the input reads as it did. -/
def roundMirrorSpec : ChangeSpec := { name := "roundMirror", fn := fun _ => fun
  | [d1, d2, d3] => { results := [.lit (.bool true)], args := [d1, d2, d3] }
  | _ => none }
def roundMirrorRow : OpenClaim := { program := "ytgdhleiokfaeoaagreatdoor", sum := "6ffe70b9dd27f220f21019adc873472c03a9d3b927f6797a612027dcf5be7207", func := "numeral/numerallaw05.RoundMirror", spec := "roundMirror", unfollowed := true, recurses := true, named := ["math/bits.deBruijn32tab"], apart := false, laid := [("math/bits.deBruijn32tab", laid_math_bits_deBruijn32tab)] }
def RoundMirrorSaid : Prop := roundMirrorRow.holds Tryz.pinned (OpenSpec.ofChange roundMirrorSpec)

/-- ITS FALSE NEIGHBOUR: 'it returns false'. Refute it at one input. -/
def roundMirrorWrong : ChangeSpec := { name := "roundMirror", fn := fun _ => fun
  | [d1, d2, d3] => { results := [.lit (.bool false)], args := [d1, d2, d3] }
  | _ => none }
def RoundMirrorWrongFalsely : Prop := roundMirrorRow.holds Tryz.pinned (OpenSpec.ofChange roundMirrorWrong)

/-- 'numerallaw05.RoundSides': WHATEVER THE INPUT: true; the input reads as it did. -/
def roundSidesSpec : ChangeSpec := { name := "roundSides", fn := fun _ => fun
  | [d1, d2] => { results := [.lit (.bool true)], args := [d1, d2] }
  | _ => none }
def roundSidesRow : OpenClaim := { program := "ytgdhleiokfaeoaagreatdoor", sum := "6ffe70b9dd27f220f21019adc873472c03a9d3b927f6797a612027dcf5be7207", func := "numeral/numerallaw05.RoundSides", spec := "roundSides", unfollowed := true, recurses := true, named := ["math/bits.deBruijn32tab"], apart := false, laid := [("math/bits.deBruijn32tab", laid_math_bits_deBruijn32tab)] }
def RoundSidesSaid : Prop := roundSidesRow.holds Tryz.pinned (OpenSpec.ofChange roundSidesSpec)

/-- ITS FALSE NEIGHBOUR: 'it returns false'. Refute it at one input. -/
def roundSidesWrong : ChangeSpec := { name := "roundSides", fn := fun _ => fun
  | [d1, d2] => { results := [.lit (.bool false)], args := [d1, d2] }
  | _ => none }
def RoundSidesWrongFalsely : Prop := roundSidesRow.holds Tryz.pinned (OpenSpec.ofChange roundSidesWrong)

/-- 'numerallaw05.RoundWorth': WHATEVER THE INPUT: true; the input reads as it did. -/
def roundWorthSpec : ChangeSpec := { name := "roundWorth", fn := fun _ => fun
  | [d1, d2, d3] => { results := [.lit (.bool true)], args := [d1, d2, d3] }
  | _ => none }
def roundWorthRow : OpenClaim := { program := "ytgdhleiokfaeoaagreatdoor", sum := "6ffe70b9dd27f220f21019adc873472c03a9d3b927f6797a612027dcf5be7207", func := "numeral/numerallaw05.RoundWorth", spec := "roundWorth", unfollowed := true, recurses := true, named := ["math/bits.deBruijn32tab"], apart := false, laid := [("math/bits.deBruijn32tab", laid_math_bits_deBruijn32tab)] }
def RoundWorthSaid : Prop := roundWorthRow.holds Tryz.pinned (OpenSpec.ofChange roundWorthSpec)

/-- ITS FALSE NEIGHBOUR: 'it returns false'. Refute it at one input. -/
def roundWorthWrong : ChangeSpec := { name := "roundWorth", fn := fun _ => fun
  | [d1, d2, d3] => { results := [.lit (.bool false)], args := [d1, d2, d3] }
  | _ => none }
def RoundWorthWrongFalsely : Prop := roundWorthRow.holds Tryz.pinned (OpenSpec.ofChange roundWorthWrong)

/- THE SECOND FORM. 'bulk': how many values and letters a reading holds, each counted each time it is reached (what is shared counts as often as it is met; a slice's spare places count too). A statement '..UptoSaid' is the law's where the arguments, and the package variables that the reading takes, are together of bulk at most 1048576: NARROWER than '..Said'. Prove '..Said' where nothing that the law and all that it calls make is longer than what came in: it says more and counts as full. Else prove '..UptoSaid'. A law counts once. -/
mutual
def uptoBulk {H : Type} : DataW H → Nat
  | .lit (.string bytes) => bytes.length + 1
  | .lit _ => 1
  | .nil => 1
  | .ptr d => uptoBulk d + 1
  | .slice elems spare => uptoBulkAll elems + uptoBulkAll spare + 1
  | .agg parts => uptoBulkAll parts + 1
  | .iface _ d => uptoBulk d + 1
  | .map entries => uptoBulkEntries entries + 1
  | .held _ => 1
def uptoBulkAll {H : Type} : List (DataW H) → Nat
  | [] => 0
  | d :: r => uptoBulk d + uptoBulkAll r
def uptoBulkEntries {H : Type} : List (Lit × DataW H) → Nat
  | [] => 0
  | x :: r => uptoBulkEntry x + uptoBulkEntries r
def uptoBulkEntry {H : Type} : Lit × DataW H → Nat
  | (.string bytes, d) => bytes.length + uptoBulk d + 1
  | (_, d) => uptoBulk d + 1
 end
def uptoSmall : (H : Type) → List (DataW H) → Bool := fun _ ds => decide (uptoBulkAll ds ≤ 1048576)
def OpenSpec.upto (s : _root_.Go.ChangeSpec) : _root_.Go.OpenSpec := { _root_.Go.OpenSpec.ofChange s with cond := some uptoSmall }

/-- 'numerallaw05.RoundRatios', WHERE WHAT IT READS IS OF BULK AT MOST 1048576: true; the input reads as it did. -/
def roundRatiosUptoRow : OpenClaim := { program := "ytgdhleiokfaeoaagreatdoor", sum := "6ffe70b9dd27f220f21019adc873472c03a9d3b927f6797a612027dcf5be7207", func := "numeral/numerallaw05.RoundRatios", spec := "roundRatios", unfollowed := true, recurses := true, named := ["math/bits.deBruijn32tab"], apart := false, laid := [("math/bits.deBruijn32tab", laid_math_bits_deBruijn32tab)], narrowed := true }
def RoundRatiosUptoSaid : Prop := roundRatiosUptoRow.holds Tryz.pinned (OpenSpec.upto roundRatiosSpec)

/-- 'numerallaw05.RoundScaleds', WHERE WHAT IT READS IS OF BULK AT MOST 1048576: true; the input reads as it did. -/
def roundScaledsUptoRow : OpenClaim := { program := "ytgdhleiokfaeoaagreatdoor", sum := "6ffe70b9dd27f220f21019adc873472c03a9d3b927f6797a612027dcf5be7207", func := "numeral/numerallaw05.RoundScaleds", spec := "roundScaleds", unfollowed := true, recurses := true, named := ["math/bits.deBruijn32tab"], apart := false, laid := [("math/bits.deBruijn32tab", laid_math_bits_deBruijn32tab)], narrowed := true }
def RoundScaledsUptoSaid : Prop := roundScaledsUptoRow.holds Tryz.pinned (OpenSpec.upto roundScaledsSpec)

/-- 'numerallaw05.RoundWholes', WHERE WHAT IT READS IS OF BULK AT MOST 1048576: true; the input reads as it did. -/
def roundWholesUptoRow : OpenClaim := { program := "ytgdhleiokfaeoaagreatdoor", sum := "6ffe70b9dd27f220f21019adc873472c03a9d3b927f6797a612027dcf5be7207", func := "numeral/numerallaw05.RoundWholes", spec := "roundWholes", unfollowed := true, recurses := true, named := ["math/bits.deBruijn32tab"], apart := false, laid := [("math/bits.deBruijn32tab", laid_math_bits_deBruijn32tab)], narrowed := true }
def RoundWholesUptoSaid : Prop := roundWholesUptoRow.holds Tryz.pinned (OpenSpec.upto roundWholesSpec)

/-- 'numerallaw05.RoundDyadics', WHERE WHAT IT READS IS OF BULK AT MOST 1048576: true; the input reads as it did. -/
def roundDyadicsUptoRow : OpenClaim := { program := "ytgdhleiokfaeoaagreatdoor", sum := "6ffe70b9dd27f220f21019adc873472c03a9d3b927f6797a612027dcf5be7207", func := "numeral/numerallaw05.RoundDyadics", spec := "roundDyadics", unfollowed := true, recurses := true, named := ["math/bits.deBruijn32tab"], apart := false, laid := [("math/bits.deBruijn32tab", laid_math_bits_deBruijn32tab)], narrowed := true }
def RoundDyadicsUptoSaid : Prop := roundDyadicsUptoRow.holds Tryz.pinned (OpenSpec.upto roundDyadicsSpec)

/-- 'numerallaw05.RoundInteger', WHERE WHAT IT READS IS OF BULK AT MOST 1048576: true; the input reads as it did. -/
def roundIntegerUptoRow : OpenClaim := { program := "ytgdhleiokfaeoaagreatdoor", sum := "6ffe70b9dd27f220f21019adc873472c03a9d3b927f6797a612027dcf5be7207", func := "numeral/numerallaw05.RoundInteger", spec := "roundInteger", unfollowed := true, recurses := true, named := ["math/bits.deBruijn32tab"], apart := false, laid := [("math/bits.deBruijn32tab", laid_math_bits_deBruijn32tab)], narrowed := true }
def RoundIntegerUptoSaid : Prop := roundIntegerUptoRow.holds Tryz.pinned (OpenSpec.upto roundIntegerSpec)

/-- 'numerallaw05.RoundMirror', WHERE WHAT IT READS IS OF BULK AT MOST 1048576: true; the input reads as it did. -/
def roundMirrorUptoRow : OpenClaim := { program := "ytgdhleiokfaeoaagreatdoor", sum := "6ffe70b9dd27f220f21019adc873472c03a9d3b927f6797a612027dcf5be7207", func := "numeral/numerallaw05.RoundMirror", spec := "roundMirror", unfollowed := true, recurses := true, named := ["math/bits.deBruijn32tab"], apart := false, laid := [("math/bits.deBruijn32tab", laid_math_bits_deBruijn32tab)], narrowed := true }
def RoundMirrorUptoSaid : Prop := roundMirrorUptoRow.holds Tryz.pinned (OpenSpec.upto roundMirrorSpec)

/-- 'numerallaw05.RoundSides', WHERE WHAT IT READS IS OF BULK AT MOST 1048576: true; the input reads as it did. -/
def roundSidesUptoRow : OpenClaim := { program := "ytgdhleiokfaeoaagreatdoor", sum := "6ffe70b9dd27f220f21019adc873472c03a9d3b927f6797a612027dcf5be7207", func := "numeral/numerallaw05.RoundSides", spec := "roundSides", unfollowed := true, recurses := true, named := ["math/bits.deBruijn32tab"], apart := false, laid := [("math/bits.deBruijn32tab", laid_math_bits_deBruijn32tab)], narrowed := true }
def RoundSidesUptoSaid : Prop := roundSidesUptoRow.holds Tryz.pinned (OpenSpec.upto roundSidesSpec)

/-- 'numerallaw05.RoundWorth', WHERE WHAT IT READS IS OF BULK AT MOST 1048576: true; the input reads as it did. -/
def roundWorthUptoRow : OpenClaim := { program := "ytgdhleiokfaeoaagreatdoor", sum := "6ffe70b9dd27f220f21019adc873472c03a9d3b927f6797a612027dcf5be7207", func := "numeral/numerallaw05.RoundWorth", spec := "roundWorth", unfollowed := true, recurses := true, named := ["math/bits.deBruijn32tab"], apart := false, laid := [("math/bits.deBruijn32tab", laid_math_bits_deBruijn32tab)], narrowed := true }
def RoundWorthUptoSaid : Prop := roundWorthUptoRow.holds Tryz.pinned (OpenSpec.upto roundWorthSpec)

end Rows
end Go.Proofs.YtgdhleiokfaeoaaGreatDoor
