/-
  NARROWER THAN 'FOR EVERY INPUT', by the rows' own cells (each row's printed sentence says how): NearReach: laid · NearBeside: laid · NearMeets: laid · NearSteps: laid · NearRow: laid · NearNative: laid · NearRounds: laid.
  DERIVED. THE GIVEN ROWS OF THIS SEAT. 7 by the template 'for every input the law returns true; each argument reads behind the call as it read before'; 0 by the template 'total and deterministic' (their statements: YtfjgmpfpadfknaaGreatDoorTotals.lean).
  GIVEN WITH THE SEED: the statements are not yours to turn. If you find one false, say at which input.
  Laid BY PROGRAM, IN A SANDBOX (cutbox-rows.mjs): the forced cells as the released guide's own fill.sh prints them over the translation a509b1a5486d7bf7… (all of the seat's roots in one cut). By AI agents, Wed Nov 11 2026. No macro, syntax, notation, axiom, sorry.
-/
import Derived.Test.YtfjgmpfpadfknaaGreatDoorChecked
import GoSem.Claim
import GoSem.ClaimJoined
import GoSem.ClaimMapViews
import Derived.JoinedTies
import Derived.KernelRfl
namespace Go.Proofs.YtfjgmpfpadfknaaGreatDoor
/- THE CELL 'sum', in the pinned program and in every row, IS THE sha256 OF THE DUMP (.gsa) THAT YtfjgmpfpadfknaaGreatDoorProg.lean LOADS. Nothing in Lean hashes anything: it is a label: what it is worth is what the hold of that sum in a sandbox is worth. -/
noncomputable def Tryz.pinned : Pinned := { name := "ytfjgmpfpadfknaagreatdoor", sum := "a509b1a5486d7bf75ffe999ac893331a5d7639c8681a5b8dc140cdb05acc42f8", checked := Tryz.checked }
namespace Rows
def none {H : Type} : Left H := { results := [], args := [] }

/- WHAT THE LISTED PACKAGE-LEVEL VARIABLES READ AS WHEN THE CALL BEGINS. Each datum BY PROGRAM (the guide's laid-datum.mjs) off the statement by which the dump's own 'gosem.cut.vars' lays the variable. In a bare row this is a premise. The card (YtfjgmpfpadfknaaGreatDoorCards.lean) ties it to the program's text. -/
def laid_math_bits_deBruijn32tab {H : Type} : DataW H := .agg [.lit (.int .u8 0), .lit (.int .u8 1), .lit (.int .u8 28), .lit (.int .u8 2), .lit (.int .u8 29), .lit (.int .u8 14), .lit (.int .u8 24), .lit (.int .u8 3), .lit (.int .u8 30), .lit (.int .u8 22), .lit (.int .u8 20), .lit (.int .u8 15), .lit (.int .u8 25), .lit (.int .u8 17), .lit (.int .u8 4), .lit (.int .u8 8), .lit (.int .u8 31), .lit (.int .u8 27), .lit (.int .u8 13), .lit (.int .u8 23), .lit (.int .u8 21), .lit (.int .u8 19), .lit (.int .u8 16), .lit (.int .u8 7), .lit (.int .u8 26), .lit (.int .u8 12), .lit (.int .u8 18), .lit (.int .u8 6), .lit (.int .u8 11), .lit (.int .u8 5), .lit (.int .u8 10), .lit (.int .u8 9)]

/-- 'numerallaw06.NearReach': WHATEVER THE INPUT: true; the input reads as it did. -/
def nearReachSpec : ChangeSpec := { name := "nearReach", fn := fun _ => fun
  | [d1, d2, d3] => { results := [.lit (.bool true)], args := [d1, d2, d3] }
  | _ => none }
def nearReachRow : OpenClaim := { program := "ytfjgmpfpadfknaagreatdoor", sum := "a509b1a5486d7bf75ffe999ac893331a5d7639c8681a5b8dc140cdb05acc42f8", func := "numeral/numerallaw06.NearReach", spec := "nearReach", unfollowed := true, recurses := true, named := ["math/bits.deBruijn32tab"], apart := false, laid := [("math/bits.deBruijn32tab", laid_math_bits_deBruijn32tab)] }
def NearReachSaid : Prop := nearReachRow.holds Tryz.pinned (OpenSpec.ofChange nearReachSpec)

/-- ITS FALSE NEIGHBOUR: 'it returns false'. Refute it at one input. -/
def nearReachWrong : ChangeSpec := { name := "nearReach", fn := fun _ => fun
  | [d1, d2, d3] => { results := [.lit (.bool false)], args := [d1, d2, d3] }
  | _ => none }
def NearReachWrongFalsely : Prop := nearReachRow.holds Tryz.pinned (OpenSpec.ofChange nearReachWrong)

/-- 'numerallaw06.NearBeside': WHATEVER THE INPUT: true; the input reads as it did. -/
def nearBesideSpec : ChangeSpec := { name := "nearBeside", fn := fun _ => fun
  | [d1, d2] => { results := [.lit (.bool true)], args := [d1, d2] }
  | _ => none }
def nearBesideRow : OpenClaim := { program := "ytfjgmpfpadfknaagreatdoor", sum := "a509b1a5486d7bf75ffe999ac893331a5d7639c8681a5b8dc140cdb05acc42f8", func := "numeral/numerallaw06.NearBeside", spec := "nearBeside", unfollowed := true, recurses := true, named := ["math/bits.deBruijn32tab"], apart := false, laid := [("math/bits.deBruijn32tab", laid_math_bits_deBruijn32tab)] }
def NearBesideSaid : Prop := nearBesideRow.holds Tryz.pinned (OpenSpec.ofChange nearBesideSpec)

/-- ITS FALSE NEIGHBOUR: 'it returns false'. Refute it at one input. -/
def nearBesideWrong : ChangeSpec := { name := "nearBeside", fn := fun _ => fun
  | [d1, d2] => { results := [.lit (.bool false)], args := [d1, d2] }
  | _ => none }
def NearBesideWrongFalsely : Prop := nearBesideRow.holds Tryz.pinned (OpenSpec.ofChange nearBesideWrong)

/-- 'numerallaw06.NearMeets': WHATEVER THE INPUT: true; the input reads as it did. -/
def nearMeetsSpec : ChangeSpec := { name := "nearMeets", fn := fun _ => fun
  | [d1, d2, d3] => { results := [.lit (.bool true)], args := [d1, d2, d3] }
  | _ => none }
def nearMeetsRow : OpenClaim := { program := "ytfjgmpfpadfknaagreatdoor", sum := "a509b1a5486d7bf75ffe999ac893331a5d7639c8681a5b8dc140cdb05acc42f8", func := "numeral/numerallaw06.NearMeets", spec := "nearMeets", unfollowed := true, recurses := true, named := ["math/bits.deBruijn32tab"], apart := false, laid := [("math/bits.deBruijn32tab", laid_math_bits_deBruijn32tab)] }
def NearMeetsSaid : Prop := nearMeetsRow.holds Tryz.pinned (OpenSpec.ofChange nearMeetsSpec)

/-- ITS FALSE NEIGHBOUR: 'it returns false'. Refute it at one input. -/
def nearMeetsWrong : ChangeSpec := { name := "nearMeets", fn := fun _ => fun
  | [d1, d2, d3] => { results := [.lit (.bool false)], args := [d1, d2, d3] }
  | _ => none }
def NearMeetsWrongFalsely : Prop := nearMeetsRow.holds Tryz.pinned (OpenSpec.ofChange nearMeetsWrong)

/-- 'numerallaw06.NearSteps': WHATEVER THE INPUT: true; the input reads as it did. -/
def nearStepsSpec : ChangeSpec := { name := "nearSteps", fn := fun _ => fun
  | [d1, d2, d3, d4] => { results := [.lit (.bool true)], args := [d1, d2, d3, d4] }
  | _ => none }
def nearStepsRow : OpenClaim := { program := "ytfjgmpfpadfknaagreatdoor", sum := "a509b1a5486d7bf75ffe999ac893331a5d7639c8681a5b8dc140cdb05acc42f8", func := "numeral/numerallaw06.NearSteps", spec := "nearSteps", unfollowed := true, recurses := true, named := ["math/bits.deBruijn32tab"], apart := false, laid := [("math/bits.deBruijn32tab", laid_math_bits_deBruijn32tab)] }
def NearStepsSaid : Prop := nearStepsRow.holds Tryz.pinned (OpenSpec.ofChange nearStepsSpec)

/-- ITS FALSE NEIGHBOUR: 'it returns false'. Refute it at one input. -/
def nearStepsWrong : ChangeSpec := { name := "nearSteps", fn := fun _ => fun
  | [d1, d2, d3, d4] => { results := [.lit (.bool false)], args := [d1, d2, d3, d4] }
  | _ => none }
def NearStepsWrongFalsely : Prop := nearStepsRow.holds Tryz.pinned (OpenSpec.ofChange nearStepsWrong)

/-- 'numerallaw06.NearRow': WHATEVER THE INPUT: true; the input reads as it did. -/
def nearRowSpec : ChangeSpec := { name := "nearRow", fn := fun _ => fun
  | [d1, d2, d3] => { results := [.lit (.bool true)], args := [d1, d2, d3] }
  | _ => none }
def nearRowRow : OpenClaim := { program := "ytfjgmpfpadfknaagreatdoor", sum := "a509b1a5486d7bf75ffe999ac893331a5d7639c8681a5b8dc140cdb05acc42f8", func := "numeral/numerallaw06.NearRow", spec := "nearRow", unfollowed := true, recurses := true, named := ["math/bits.deBruijn32tab"], apart := false, laid := [("math/bits.deBruijn32tab", laid_math_bits_deBruijn32tab)] }
def NearRowSaid : Prop := nearRowRow.holds Tryz.pinned (OpenSpec.ofChange nearRowSpec)

/-- ITS FALSE NEIGHBOUR: 'it returns false'. Refute it at one input. -/
def nearRowWrong : ChangeSpec := { name := "nearRow", fn := fun _ => fun
  | [d1, d2, d3] => { results := [.lit (.bool false)], args := [d1, d2, d3] }
  | _ => none }
def NearRowWrongFalsely : Prop := nearRowRow.holds Tryz.pinned (OpenSpec.ofChange nearRowWrong)

/-- 'numerallaw06.NearNative': WHATEVER THE INPUT: true; the input reads as it did. -/
def nearNativeSpec : ChangeSpec := { name := "nearNative", fn := fun _ => fun
  | [d1, d2] => { results := [.lit (.bool true)], args := [d1, d2] }
  | _ => none }
def nearNativeRow : OpenClaim := { program := "ytfjgmpfpadfknaagreatdoor", sum := "a509b1a5486d7bf75ffe999ac893331a5d7639c8681a5b8dc140cdb05acc42f8", func := "numeral/numerallaw06.NearNative", spec := "nearNative", inPlace := ["math.Float64frombits", "math.Float64bits"], unfollowed := true, recurses := true, named := ["math/bits.deBruijn32tab"], apart := false, laid := [("math/bits.deBruijn32tab", laid_math_bits_deBruijn32tab)] }
def NearNativeSaid : Prop := nearNativeRow.holds Tryz.pinned (OpenSpec.ofChange nearNativeSpec)

/-- ITS FALSE NEIGHBOUR: 'it returns false'. Refute it at one input. -/
def nearNativeWrong : ChangeSpec := { name := "nearNative", fn := fun _ => fun
  | [d1, d2] => { results := [.lit (.bool false)], args := [d1, d2] }
  | _ => none }
def NearNativeWrongFalsely : Prop := nearNativeRow.holds Tryz.pinned (OpenSpec.ofChange nearNativeWrong)

/-- 'numerallaw06.NearRounds': WHATEVER THE INPUT: true; the input reads as it did. -/
def nearRoundsSpec : ChangeSpec := { name := "nearRounds", fn := fun _ => fun
  | [d1, d2, d3, d4] => { results := [.lit (.bool true)], args := [d1, d2, d3, d4] }
  | _ => none }
def nearRoundsRow : OpenClaim := { program := "ytfjgmpfpadfknaagreatdoor", sum := "a509b1a5486d7bf75ffe999ac893331a5d7639c8681a5b8dc140cdb05acc42f8", func := "numeral/numerallaw06.NearRounds", spec := "nearRounds", unfollowed := true, recurses := true, named := ["math/bits.deBruijn32tab"], apart := false, laid := [("math/bits.deBruijn32tab", laid_math_bits_deBruijn32tab)] }
def NearRoundsSaid : Prop := nearRoundsRow.holds Tryz.pinned (OpenSpec.ofChange nearRoundsSpec)

/-- ITS FALSE NEIGHBOUR: 'it returns false'. Refute it at one input. -/
def nearRoundsWrong : ChangeSpec := { name := "nearRounds", fn := fun _ => fun
  | [d1, d2, d3, d4] => { results := [.lit (.bool false)], args := [d1, d2, d3, d4] }
  | _ => none }
def NearRoundsWrongFalsely : Prop := nearRoundsRow.holds Tryz.pinned (OpenSpec.ofChange nearRoundsWrong)

/- THE SECOND FORM. 'bulk': how many values and letters a reading holds, each counted each time it is reached (what is shared counts as often as it is met; a slice's spare places count too). A statement '..UptoSaid' is the law's where the arguments, and the package variables that the reading takes, are together of bulk at most 1048576: NARROWER than '..Said'. Prove '..Said' where nothing that the law and all that it calls make is longer than what came in: it says more and counts as full. Else prove '..UptoSaid'. A law counts once. -/
mutual
def uptoBulk {H : Type} : DataW H → Nat
  | .lit (.string bytes) => bytes.length + 1
  | .lit _ => 1
  | .nil => 1
  | .ptr d => uptoBulk d + 1
  | .slice elems spare => uptoBulkAll elems + uptoBulkAll spare + 1
  | .agg parts => uptoBulkAll parts + 1
  | .iface _ d => uptoBulk d + 1
  | .map entries => uptoBulkEntries entries + 1
  | .held _ => 1
def uptoBulkAll {H : Type} : List (DataW H) → Nat
  | [] => 0
  | d :: r => uptoBulk d + uptoBulkAll r
def uptoBulkEntries {H : Type} : List (Lit × DataW H) → Nat
  | [] => 0
  | x :: r => uptoBulkEntry x + uptoBulkEntries r
def uptoBulkEntry {H : Type} : Lit × DataW H → Nat
  | (.string bytes, d) => bytes.length + uptoBulk d + 1
  | (_, d) => uptoBulk d + 1
 end
def uptoSmall : (H : Type) → List (DataW H) → Bool := fun _ ds => decide (uptoBulkAll ds ≤ 1048576)
def OpenSpec.upto (s : _root_.Go.ChangeSpec) : _root_.Go.OpenSpec := { _root_.Go.OpenSpec.ofChange s with cond := some uptoSmall }

/-- 'numerallaw06.NearReach', WHERE WHAT IT READS IS OF BULK AT MOST 1048576: true; the input reads as it did. -/
def nearReachUptoRow : OpenClaim := { program := "ytfjgmpfpadfknaagreatdoor", sum := "a509b1a5486d7bf75ffe999ac893331a5d7639c8681a5b8dc140cdb05acc42f8", func := "numeral/numerallaw06.NearReach", spec := "nearReach", unfollowed := true, recurses := true, named := ["math/bits.deBruijn32tab"], apart := false, laid := [("math/bits.deBruijn32tab", laid_math_bits_deBruijn32tab)], narrowed := true }
def NearReachUptoSaid : Prop := nearReachUptoRow.holds Tryz.pinned (OpenSpec.upto nearReachSpec)

/-- 'numerallaw06.NearBeside', WHERE WHAT IT READS IS OF BULK AT MOST 1048576: true; the input reads as it did. -/
def nearBesideUptoRow : OpenClaim := { program := "ytfjgmpfpadfknaagreatdoor", sum := "a509b1a5486d7bf75ffe999ac893331a5d7639c8681a5b8dc140cdb05acc42f8", func := "numeral/numerallaw06.NearBeside", spec := "nearBeside", unfollowed := true, recurses := true, named := ["math/bits.deBruijn32tab"], apart := false, laid := [("math/bits.deBruijn32tab", laid_math_bits_deBruijn32tab)], narrowed := true }
def NearBesideUptoSaid : Prop := nearBesideUptoRow.holds Tryz.pinned (OpenSpec.upto nearBesideSpec)

/-- 'numerallaw06.NearMeets', WHERE WHAT IT READS IS OF BULK AT MOST 1048576: true; the input reads as it did. -/
def nearMeetsUptoRow : OpenClaim := { program := "ytfjgmpfpadfknaagreatdoor", sum := "a509b1a5486d7bf75ffe999ac893331a5d7639c8681a5b8dc140cdb05acc42f8", func := "numeral/numerallaw06.NearMeets", spec := "nearMeets", unfollowed := true, recurses := true, named := ["math/bits.deBruijn32tab"], apart := false, laid := [("math/bits.deBruijn32tab", laid_math_bits_deBruijn32tab)], narrowed := true }
def NearMeetsUptoSaid : Prop := nearMeetsUptoRow.holds Tryz.pinned (OpenSpec.upto nearMeetsSpec)

/-- 'numerallaw06.NearSteps', WHERE WHAT IT READS IS OF BULK AT MOST 1048576: true; the input reads as it did. -/
def nearStepsUptoRow : OpenClaim := { program := "ytfjgmpfpadfknaagreatdoor", sum := "a509b1a5486d7bf75ffe999ac893331a5d7639c8681a5b8dc140cdb05acc42f8", func := "numeral/numerallaw06.NearSteps", spec := "nearSteps", unfollowed := true, recurses := true, named := ["math/bits.deBruijn32tab"], apart := false, laid := [("math/bits.deBruijn32tab", laid_math_bits_deBruijn32tab)], narrowed := true }
def NearStepsUptoSaid : Prop := nearStepsUptoRow.holds Tryz.pinned (OpenSpec.upto nearStepsSpec)

/-- 'numerallaw06.NearRow', WHERE WHAT IT READS IS OF BULK AT MOST 1048576: true; the input reads as it did. -/
def nearRowUptoRow : OpenClaim := { program := "ytfjgmpfpadfknaagreatdoor", sum := "a509b1a5486d7bf75ffe999ac893331a5d7639c8681a5b8dc140cdb05acc42f8", func := "numeral/numerallaw06.NearRow", spec := "nearRow", unfollowed := true, recurses := true, named := ["math/bits.deBruijn32tab"], apart := false, laid := [("math/bits.deBruijn32tab", laid_math_bits_deBruijn32tab)], narrowed := true }
def NearRowUptoSaid : Prop := nearRowUptoRow.holds Tryz.pinned (OpenSpec.upto nearRowSpec)

/-- 'numerallaw06.NearNative', WHERE WHAT IT READS IS OF BULK AT MOST 1048576: true; the input reads as it did. -/
def nearNativeUptoRow : OpenClaim := { program := "ytfjgmpfpadfknaagreatdoor", sum := "a509b1a5486d7bf75ffe999ac893331a5d7639c8681a5b8dc140cdb05acc42f8", func := "numeral/numerallaw06.NearNative", spec := "nearNative", inPlace := ["math.Float64frombits", "math.Float64bits"], unfollowed := true, recurses := true, named := ["math/bits.deBruijn32tab"], apart := false, laid := [("math/bits.deBruijn32tab", laid_math_bits_deBruijn32tab)], narrowed := true }
def NearNativeUptoSaid : Prop := nearNativeUptoRow.holds Tryz.pinned (OpenSpec.upto nearNativeSpec)

/-- 'numerallaw06.NearRounds', WHERE WHAT IT READS IS OF BULK AT MOST 1048576: true; the input reads as it did. -/
def nearRoundsUptoRow : OpenClaim := { program := "ytfjgmpfpadfknaagreatdoor", sum := "a509b1a5486d7bf75ffe999ac893331a5d7639c8681a5b8dc140cdb05acc42f8", func := "numeral/numerallaw06.NearRounds", spec := "nearRounds", unfollowed := true, recurses := true, named := ["math/bits.deBruijn32tab"], apart := false, laid := [("math/bits.deBruijn32tab", laid_math_bits_deBruijn32tab)], narrowed := true }
def NearRoundsUptoSaid : Prop := nearRoundsUptoRow.holds Tryz.pinned (OpenSpec.upto nearRoundsSpec)

end Rows
end Go.Proofs.YtfjgmpfpadfknaaGreatDoor
