/-
  NARROWER THAN 'FOR EVERY INPUT', by the rows' own cells (each row's printed sentence says how): TurnCuts: laid · TurnThere: laid · TurnNears: laid · NearReach: laid · NearBeside: laid · TurnWider: laid · SoftProducts: laid.
  DERIVED. THE GIVEN ROWS OF THIS SEAT. 7 by the template 'for every input the law returns true; each argument reads behind the call as it read before'; 0 by the template 'total and deterministic' (their statements: YtaddnoneoflimaaGreatDoorTotals.lean).
  GIVEN WITH THE SEED: the statements are not yours to turn. If you find one false, say at which input.
  Laid BY PROGRAM, IN A SANDBOX (cutbox-rows.mjs): the forced cells as the released guide's own fill.sh prints them over the translation 8086447ad655e35f… (all of the seat's roots in one cut). By AI agents, Wed Nov 11 2026. No macro, syntax, notation, axiom, sorry.
-/
import Derived.Test.YtaddnoneoflimaaGreatDoorChecked
import GoSem.Claim
import GoSem.ClaimJoined
import GoSem.ClaimMapViews
import Derived.JoinedTies
import Derived.KernelRfl
namespace Go.Proofs.YtaddnoneoflimaaGreatDoor
/- THE CELL 'sum', in the pinned program and in every row, IS THE sha256 OF THE DUMP (.gsa) THAT YtaddnoneoflimaaGreatDoorProg.lean LOADS. Nothing in Lean hashes anything: it is a label: what it is worth is what the hold of that sum in a sandbox is worth. -/
noncomputable def Tryz.pinned : Pinned := { name := "ytaddnoneoflimaagreatdoor", sum := "8086447ad655e35f6256e5fc2195f489b6a807172fb440d5e4d76657b6fc4316", checked := Tryz.checked }
namespace Rows
def none {H : Type} : Left H := { results := [], args := [] }

/- WHAT THE LISTED PACKAGE-LEVEL VARIABLES READ AS WHEN THE CALL BEGINS. Each datum BY PROGRAM (the guide's laid-datum.mjs) off the statement by which the dump's own 'gosem.cut.vars' lays the variable. In a bare row this is a premise. The card (YtaddnoneoflimaaGreatDoorCards.lean) ties it to the program's text. -/
def laid_math_bits_deBruijn32tab {H : Type} : DataW H := .agg [.lit (.int .u8 0), .lit (.int .u8 1), .lit (.int .u8 28), .lit (.int .u8 2), .lit (.int .u8 29), .lit (.int .u8 14), .lit (.int .u8 24), .lit (.int .u8 3), .lit (.int .u8 30), .lit (.int .u8 22), .lit (.int .u8 20), .lit (.int .u8 15), .lit (.int .u8 25), .lit (.int .u8 17), .lit (.int .u8 4), .lit (.int .u8 8), .lit (.int .u8 31), .lit (.int .u8 27), .lit (.int .u8 13), .lit (.int .u8 23), .lit (.int .u8 21), .lit (.int .u8 19), .lit (.int .u8 16), .lit (.int .u8 7), .lit (.int .u8 26), .lit (.int .u8 12), .lit (.int .u8 18), .lit (.int .u8 6), .lit (.int .u8 11), .lit (.int .u8 5), .lit (.int .u8 10), .lit (.int .u8 9)]

/-- 'numerallaw08.TurnCuts': WHATEVER THE INPUT: true; the input reads as it did. -/
def turnCutsSpec : ChangeSpec := { name := "turnCuts", fn := fun _ => fun
  | [d1, d2] => { results := [.lit (.bool true)], args := [d1, d2] }
  | _ => none }
def turnCutsRow : OpenClaim := { program := "ytaddnoneoflimaagreatdoor", sum := "8086447ad655e35f6256e5fc2195f489b6a807172fb440d5e4d76657b6fc4316", func := "numeral/numerallaw08.TurnCuts", spec := "turnCuts", inPlace := ["math.Float32frombits", "math.Float64frombits", "math.archTrunc", "math.Float64bits"], unfollowed := true, recurses := true, named := ["math/bits.deBruijn32tab"], apart := false, laid := [("math/bits.deBruijn32tab", laid_math_bits_deBruijn32tab)] }
def TurnCutsSaid : Prop := turnCutsRow.holds Tryz.pinned (OpenSpec.ofChange turnCutsSpec)

/-- ITS FALSE NEIGHBOUR: 'it returns false'. Refute it at one input. -/
def turnCutsWrong : ChangeSpec := { name := "turnCuts", fn := fun _ => fun
  | [d1, d2] => { results := [.lit (.bool false)], args := [d1, d2] }
  | _ => none }
def TurnCutsWrongFalsely : Prop := turnCutsRow.holds Tryz.pinned (OpenSpec.ofChange turnCutsWrong)

/-- 'numerallaw08.TurnThere': WHATEVER THE INPUT: true; the input reads as it did. -/
def turnThereSpec : ChangeSpec := { name := "turnThere", fn := fun _ => fun
  | [d1, d2, d3, d4] => { results := [.lit (.bool true)], args := [d1, d2, d3, d4] }
  | _ => none }
def turnThereRow : OpenClaim := { program := "ytaddnoneoflimaagreatdoor", sum := "8086447ad655e35f6256e5fc2195f489b6a807172fb440d5e4d76657b6fc4316", func := "numeral/numerallaw08.TurnThere", spec := "turnThere", inPlace := ["math.Float32frombits", "math.Float64frombits", "math.archTrunc", "math.Float64bits"], unfollowed := true, recurses := true, named := ["math/bits.deBruijn32tab"], apart := false, laid := [("math/bits.deBruijn32tab", laid_math_bits_deBruijn32tab)] }
def TurnThereSaid : Prop := turnThereRow.holds Tryz.pinned (OpenSpec.ofChange turnThereSpec)

/-- ITS FALSE NEIGHBOUR: 'it returns false'. Refute it at one input. -/
def turnThereWrong : ChangeSpec := { name := "turnThere", fn := fun _ => fun
  | [d1, d2, d3, d4] => { results := [.lit (.bool false)], args := [d1, d2, d3, d4] }
  | _ => none }
def TurnThereWrongFalsely : Prop := turnThereRow.holds Tryz.pinned (OpenSpec.ofChange turnThereWrong)

/-- 'numerallaw08.TurnNears': WHATEVER THE INPUT: true; the input reads as it did. -/
def turnNearsSpec : ChangeSpec := { name := "turnNears", fn := fun _ => fun
  | [d] => { results := [.lit (.bool true)], args := [d] }
  | _ => none }
def turnNearsRow : OpenClaim := { program := "ytaddnoneoflimaagreatdoor", sum := "8086447ad655e35f6256e5fc2195f489b6a807172fb440d5e4d76657b6fc4316", func := "numeral/numerallaw08.TurnNears", spec := "turnNears", inPlace := ["math.Float32frombits", "math.Float64frombits", "math.archTrunc", "math.Float64bits", "math.Float32bits"], unfollowed := true, recurses := true, named := ["math/bits.deBruijn32tab"], apart := false, laid := [("math/bits.deBruijn32tab", laid_math_bits_deBruijn32tab)] }
def TurnNearsSaid : Prop := turnNearsRow.holds Tryz.pinned (OpenSpec.ofChange turnNearsSpec)

/-- ITS FALSE NEIGHBOUR: 'it returns false'. Refute it at one input. -/
def turnNearsWrong : ChangeSpec := { name := "turnNears", fn := fun _ => fun
  | [d] => { results := [.lit (.bool false)], args := [d] }
  | _ => none }
def TurnNearsWrongFalsely : Prop := turnNearsRow.holds Tryz.pinned (OpenSpec.ofChange turnNearsWrong)

/-- 'numerallaw06.NearReach': WHATEVER THE INPUT: true; the input reads as it did. -/
def nearReachSpec : ChangeSpec := { name := "nearReach", fn := fun _ => fun
  | [d1, d2, d3] => { results := [.lit (.bool true)], args := [d1, d2, d3] }
  | _ => none }
def nearReachRow : OpenClaim := { program := "ytaddnoneoflimaagreatdoor", sum := "8086447ad655e35f6256e5fc2195f489b6a807172fb440d5e4d76657b6fc4316", func := "numeral/numerallaw06.NearReach", spec := "nearReach", unfollowed := true, recurses := true, named := ["math/bits.deBruijn32tab"], apart := false, laid := [("math/bits.deBruijn32tab", laid_math_bits_deBruijn32tab)] }
def NearReachSaid : Prop := nearReachRow.holds Tryz.pinned (OpenSpec.ofChange nearReachSpec)

/-- ITS FALSE NEIGHBOUR: 'it returns false'. Refute it at one input. -/
def nearReachWrong : ChangeSpec := { name := "nearReach", fn := fun _ => fun
  | [d1, d2, d3] => { results := [.lit (.bool false)], args := [d1, d2, d3] }
  | _ => none }
def NearReachWrongFalsely : Prop := nearReachRow.holds Tryz.pinned (OpenSpec.ofChange nearReachWrong)

/-- 'numerallaw06.NearBeside': WHATEVER THE INPUT: true; the input reads as it did. -/
def nearBesideSpec : ChangeSpec := { name := "nearBeside", fn := fun _ => fun
  | [d1, d2] => { results := [.lit (.bool true)], args := [d1, d2] }
  | _ => none }
def nearBesideRow : OpenClaim := { program := "ytaddnoneoflimaagreatdoor", sum := "8086447ad655e35f6256e5fc2195f489b6a807172fb440d5e4d76657b6fc4316", func := "numeral/numerallaw06.NearBeside", spec := "nearBeside", unfollowed := true, recurses := true, named := ["math/bits.deBruijn32tab"], apart := false, laid := [("math/bits.deBruijn32tab", laid_math_bits_deBruijn32tab)] }
def NearBesideSaid : Prop := nearBesideRow.holds Tryz.pinned (OpenSpec.ofChange nearBesideSpec)

/-- ITS FALSE NEIGHBOUR: 'it returns false'. Refute it at one input. -/
def nearBesideWrong : ChangeSpec := { name := "nearBeside", fn := fun _ => fun
  | [d1, d2] => { results := [.lit (.bool false)], args := [d1, d2] }
  | _ => none }
def NearBesideWrongFalsely : Prop := nearBesideRow.holds Tryz.pinned (OpenSpec.ofChange nearBesideWrong)

/-- 'numerallaw08.TurnWider': WHATEVER THE INPUT: true; the input reads as it did. -/
def turnWiderSpec : ChangeSpec := { name := "turnWider", fn := fun _ => fun
  | [d1, d2, d3, d4, d5] => { results := [.lit (.bool true)], args := [d1, d2, d3, d4, d5] }
  | _ => none }
def turnWiderRow : OpenClaim := { program := "ytaddnoneoflimaagreatdoor", sum := "8086447ad655e35f6256e5fc2195f489b6a807172fb440d5e4d76657b6fc4316", func := "numeral/numerallaw08.TurnWider", spec := "turnWider", inPlace := ["math.Float32frombits", "math.Float64frombits", "math.archTrunc", "math.Float64bits"], unfollowed := true, recurses := true, named := ["math/bits.deBruijn32tab"], apart := false, laid := [("math/bits.deBruijn32tab", laid_math_bits_deBruijn32tab)] }
def TurnWiderSaid : Prop := turnWiderRow.holds Tryz.pinned (OpenSpec.ofChange turnWiderSpec)

/-- ITS FALSE NEIGHBOUR: 'it returns false'. Refute it at one input. -/
def turnWiderWrong : ChangeSpec := { name := "turnWider", fn := fun _ => fun
  | [d1, d2, d3, d4, d5] => { results := [.lit (.bool false)], args := [d1, d2, d3, d4, d5] }
  | _ => none }
def TurnWiderWrongFalsely : Prop := turnWiderRow.holds Tryz.pinned (OpenSpec.ofChange turnWiderWrong)

/-- 'numerallaw07.SoftProducts': WHATEVER THE INPUT: true; the input reads as it did. -/
def softProductsSpec : ChangeSpec := { name := "softProducts", fn := fun _ => fun
  | [d] => { results := [.lit (.bool true)], args := [d] }
  | _ => none }
def softProductsRow : OpenClaim := { program := "ytaddnoneoflimaagreatdoor", sum := "8086447ad655e35f6256e5fc2195f489b6a807172fb440d5e4d76657b6fc4316", func := "numeral/numerallaw07.SoftProducts", spec := "softProducts", unfollowed := true, recurses := true, named := ["math/bits.deBruijn32tab"], apart := false, laid := [("math/bits.deBruijn32tab", laid_math_bits_deBruijn32tab)] }
def SoftProductsSaid : Prop := softProductsRow.holds Tryz.pinned (OpenSpec.ofChange softProductsSpec)

/-- ITS FALSE NEIGHBOUR: 'it returns false'. Refute it at one input. -/
def softProductsWrong : ChangeSpec := { name := "softProducts", fn := fun _ => fun
  | [d] => { results := [.lit (.bool false)], args := [d] }
  | _ => none }
def SoftProductsWrongFalsely : Prop := softProductsRow.holds Tryz.pinned (OpenSpec.ofChange softProductsWrong)

/- THE SECOND FORM. 'bulk': how many values and letters a reading holds, each counted each time it is reached (what is shared counts as often as it is met; a slice's spare places count too). A statement '..UptoSaid' is the law's where the arguments, and the package variables that the reading takes, are together of bulk at most 1048576: NARROWER than '..Said'. Prove '..Said' where nothing that the law and all that it calls make is longer than what came in: it says more and counts as full. Else prove '..UptoSaid'. A law counts once. -/
mutual
def uptoBulk {H : Type} : DataW H → Nat
  | .lit (.string bytes) => bytes.length + 1
  | .lit _ => 1
  | .nil => 1
  | .ptr d => uptoBulk d + 1
  | .slice elems spare => uptoBulkAll elems + uptoBulkAll spare + 1
  | .agg parts => uptoBulkAll parts + 1
  | .iface _ d => uptoBulk d + 1
  | .map entries => uptoBulkEntries entries + 1
  | .held _ => 1
def uptoBulkAll {H : Type} : List (DataW H) → Nat
  | [] => 0
  | d :: r => uptoBulk d + uptoBulkAll r
def uptoBulkEntries {H : Type} : List (Lit × DataW H) → Nat
  | [] => 0
  | x :: r => uptoBulkEntry x + uptoBulkEntries r
def uptoBulkEntry {H : Type} : Lit × DataW H → Nat
  | (.string bytes, d) => bytes.length + uptoBulk d + 1
  | (_, d) => uptoBulk d + 1
 end
def uptoSmall : (H : Type) → List (DataW H) → Bool := fun _ ds => decide (uptoBulkAll ds ≤ 1048576)
def OpenSpec.upto (s : _root_.Go.ChangeSpec) : _root_.Go.OpenSpec := { _root_.Go.OpenSpec.ofChange s with cond := some uptoSmall }

/-- 'numerallaw08.TurnCuts', WHERE WHAT IT READS IS OF BULK AT MOST 1048576: true; the input reads as it did. -/
def turnCutsUptoRow : OpenClaim := { program := "ytaddnoneoflimaagreatdoor", sum := "8086447ad655e35f6256e5fc2195f489b6a807172fb440d5e4d76657b6fc4316", func := "numeral/numerallaw08.TurnCuts", spec := "turnCuts", inPlace := ["math.Float32frombits", "math.Float64frombits", "math.archTrunc", "math.Float64bits"], unfollowed := true, recurses := true, named := ["math/bits.deBruijn32tab"], apart := false, laid := [("math/bits.deBruijn32tab", laid_math_bits_deBruijn32tab)], narrowed := true }
def TurnCutsUptoSaid : Prop := turnCutsUptoRow.holds Tryz.pinned (OpenSpec.upto turnCutsSpec)

/-- 'numerallaw08.TurnThere', WHERE WHAT IT READS IS OF BULK AT MOST 1048576: true; the input reads as it did. -/
def turnThereUptoRow : OpenClaim := { program := "ytaddnoneoflimaagreatdoor", sum := "8086447ad655e35f6256e5fc2195f489b6a807172fb440d5e4d76657b6fc4316", func := "numeral/numerallaw08.TurnThere", spec := "turnThere", inPlace := ["math.Float32frombits", "math.Float64frombits", "math.archTrunc", "math.Float64bits"], unfollowed := true, recurses := true, named := ["math/bits.deBruijn32tab"], apart := false, laid := [("math/bits.deBruijn32tab", laid_math_bits_deBruijn32tab)], narrowed := true }
def TurnThereUptoSaid : Prop := turnThereUptoRow.holds Tryz.pinned (OpenSpec.upto turnThereSpec)

/-- 'numerallaw08.TurnNears', WHERE WHAT IT READS IS OF BULK AT MOST 1048576: true; the input reads as it did. -/
def turnNearsUptoRow : OpenClaim := { program := "ytaddnoneoflimaagreatdoor", sum := "8086447ad655e35f6256e5fc2195f489b6a807172fb440d5e4d76657b6fc4316", func := "numeral/numerallaw08.TurnNears", spec := "turnNears", inPlace := ["math.Float32frombits", "math.Float64frombits", "math.archTrunc", "math.Float64bits", "math.Float32bits"], unfollowed := true, recurses := true, named := ["math/bits.deBruijn32tab"], apart := false, laid := [("math/bits.deBruijn32tab", laid_math_bits_deBruijn32tab)], narrowed := true }
def TurnNearsUptoSaid : Prop := turnNearsUptoRow.holds Tryz.pinned (OpenSpec.upto turnNearsSpec)

/-- 'numerallaw06.NearReach', WHERE WHAT IT READS IS OF BULK AT MOST 1048576: true; the input reads as it did. -/
def nearReachUptoRow : OpenClaim := { program := "ytaddnoneoflimaagreatdoor", sum := "8086447ad655e35f6256e5fc2195f489b6a807172fb440d5e4d76657b6fc4316", func := "numeral/numerallaw06.NearReach", spec := "nearReach", unfollowed := true, recurses := true, named := ["math/bits.deBruijn32tab"], apart := false, laid := [("math/bits.deBruijn32tab", laid_math_bits_deBruijn32tab)], narrowed := true }
def NearReachUptoSaid : Prop := nearReachUptoRow.holds Tryz.pinned (OpenSpec.upto nearReachSpec)

/-- 'numerallaw06.NearBeside', WHERE WHAT IT READS IS OF BULK AT MOST 1048576: true; the input reads as it did. -/
def nearBesideUptoRow : OpenClaim := { program := "ytaddnoneoflimaagreatdoor", sum := "8086447ad655e35f6256e5fc2195f489b6a807172fb440d5e4d76657b6fc4316", func := "numeral/numerallaw06.NearBeside", spec := "nearBeside", unfollowed := true, recurses := true, named := ["math/bits.deBruijn32tab"], apart := false, laid := [("math/bits.deBruijn32tab", laid_math_bits_deBruijn32tab)], narrowed := true }
def NearBesideUptoSaid : Prop := nearBesideUptoRow.holds Tryz.pinned (OpenSpec.upto nearBesideSpec)

/-- 'numerallaw08.TurnWider', WHERE WHAT IT READS IS OF BULK AT MOST 1048576: true; the input reads as it did. -/
def turnWiderUptoRow : OpenClaim := { program := "ytaddnoneoflimaagreatdoor", sum := "8086447ad655e35f6256e5fc2195f489b6a807172fb440d5e4d76657b6fc4316", func := "numeral/numerallaw08.TurnWider", spec := "turnWider", inPlace := ["math.Float32frombits", "math.Float64frombits", "math.archTrunc", "math.Float64bits"], unfollowed := true, recurses := true, named := ["math/bits.deBruijn32tab"], apart := false, laid := [("math/bits.deBruijn32tab", laid_math_bits_deBruijn32tab)], narrowed := true }
def TurnWiderUptoSaid : Prop := turnWiderUptoRow.holds Tryz.pinned (OpenSpec.upto turnWiderSpec)

/-- 'numerallaw07.SoftProducts', WHERE WHAT IT READS IS OF BULK AT MOST 1048576: true; the input reads as it did. -/
def softProductsUptoRow : OpenClaim := { program := "ytaddnoneoflimaagreatdoor", sum := "8086447ad655e35f6256e5fc2195f489b6a807172fb440d5e4d76657b6fc4316", func := "numeral/numerallaw07.SoftProducts", spec := "softProducts", unfollowed := true, recurses := true, named := ["math/bits.deBruijn32tab"], apart := false, laid := [("math/bits.deBruijn32tab", laid_math_bits_deBruijn32tab)], narrowed := true }
def SoftProductsUptoSaid : Prop := softProductsUptoRow.holds Tryz.pinned (OpenSpec.upto softProductsSpec)

end Rows
end Go.Proofs.YtaddnoneoflimaaGreatDoor
