/-
  NARROWER THAN 'FOR EVERY INPUT', by the rows' own cells (each row's printed sentence says how): WageLeast: laid · WageBounds: laid · WageOnce: laid · WageRepeats: laid · WageRecords: laid · ReturnsNets: laid · ReturnsBounded: laid · ReturnsOnce: laid · ReturnsAll: laid · ReturnsTurned: laid · ReturnsNet: laid · ReturnsPaid: laid.
  DERIVED. THE GIVEN ROWS OF THIS SEAT. 12 by the template 'for every input the law returns true; each argument reads behind the call as it read before'; 0 by the template 'total and deterministic' (their statements: YtljibjlkjelpbaaGreatDoorTotals.lean).
  GIVEN WITH THE SEED: the statements are not yours to turn. If you find one false, say at which input.
  Laid BY PROGRAM, IN A SANDBOX (cutbox-rows.mjs): the forced cells as the released guide's own fill.sh prints them over the translation 0b85974c8060d9ad… (all of the seat's roots in one cut). By AI agents, Wed Nov 11 2026. No macro, syntax, notation, axiom, sorry.
-/
import Derived.Test.YtljibjlkjelpbaaGreatDoorChecked
import GoSem.Claim
import GoSem.ClaimJoined
import GoSem.ClaimMapViews
import Derived.JoinedTies
import Derived.KernelRfl
namespace Go.Proofs.YtljibjlkjelpbaaGreatDoor
/- THE CELL 'sum', in the pinned program and in every row, IS THE sha256 OF THE DUMP (.gsa) THAT YtljibjlkjelpbaaGreatDoorProg.lean LOADS. Nothing in Lean hashes anything: it is a label: what it is worth is what the hold of that sum in a sandbox is worth. -/
noncomputable def Tryz.pinned : Pinned := { name := "ytljibjlkjelpbaagreatdoor", sum := "0b85974c8060d9ad2b6cd739c309bff9db39973c03297c83448b4ef0105298f4", checked := Tryz.checked }
namespace Rows
def none {H : Type} : Left H := { results := [], args := [] }

/- WHAT THE LISTED PACKAGE-LEVEL VARIABLES READ AS WHEN THE CALL BEGINS. Each datum BY PROGRAM (the guide's laid-datum.mjs) off the statement by which the dump's own 'gosem.cut.vars' lays the variable. In a bare row this is a premise. The card (YtljibjlkjelpbaaGreatDoorCards.lean) ties it to the program's text. -/
def laid_garment_wage_bounds {H : Type} : DataW H := .agg [.lit (.int .i64 100000), .lit (.int .i64 1073741824)]

/-- 'garmentlaw57.WageLeast': WHATEVER THE INPUT: true; the input reads as it did. -/
def wageLeastSpec : ChangeSpec := { name := "wageLeast", fn := fun _ => fun
  | [d1, d2] => { results := [.lit (.bool true)], args := [d1, d2] }
  | _ => none }
def wageLeastRow : OpenClaim := { program := "ytljibjlkjelpbaagreatdoor", sum := "0b85974c8060d9ad2b6cd739c309bff9db39973c03297c83448b4ef0105298f4", func := "garment/garmentlaw57.WageLeast", spec := "wageLeast", unfollowed := true, recurses := true, named := ["garment/wage.bounds", "math/bits.divideError", "math/bits.overflowError"], plainKeys := false, apart := false, laid := [("garment/wage.bounds", laid_garment_wage_bounds)] }
def WageLeastSaid : Prop := wageLeastRow.holds Tryz.pinned (OpenSpec.ofChange wageLeastSpec)

/-- ITS FALSE NEIGHBOUR: 'it returns false'. Refute it at one input. -/
def wageLeastWrong : ChangeSpec := { name := "wageLeast", fn := fun _ => fun
  | [d1, d2] => { results := [.lit (.bool false)], args := [d1, d2] }
  | _ => none }
def WageLeastWrongFalsely : Prop := wageLeastRow.holds Tryz.pinned (OpenSpec.ofChange wageLeastWrong)

/-- 'garmentlaw57.WageBounds': WHATEVER THE INPUT: true; the input reads as it did. -/
def wageBoundsSpec : ChangeSpec := { name := "wageBounds", fn := fun _ => fun
  | [d1, d2, d3] => { results := [.lit (.bool true)], args := [d1, d2, d3] }
  | _ => none }
def wageBoundsRow : OpenClaim := { program := "ytljibjlkjelpbaagreatdoor", sum := "0b85974c8060d9ad2b6cd739c309bff9db39973c03297c83448b4ef0105298f4", func := "garment/garmentlaw57.WageBounds", spec := "wageBounds", unfollowed := true, recurses := true, named := ["garment/wage.bounds", "math/bits.divideError", "math/bits.overflowError"], plainKeys := false, apart := false, laid := [("garment/wage.bounds", laid_garment_wage_bounds)] }
def WageBoundsSaid : Prop := wageBoundsRow.holds Tryz.pinned (OpenSpec.ofChange wageBoundsSpec)

/-- ITS FALSE NEIGHBOUR: 'it returns false'. Refute it at one input. -/
def wageBoundsWrong : ChangeSpec := { name := "wageBounds", fn := fun _ => fun
  | [d1, d2, d3] => { results := [.lit (.bool false)], args := [d1, d2, d3] }
  | _ => none }
def WageBoundsWrongFalsely : Prop := wageBoundsRow.holds Tryz.pinned (OpenSpec.ofChange wageBoundsWrong)

/-- 'garmentlaw57.WageOnce': WHATEVER THE INPUT: true; the input reads as it did. -/
def wageOnceSpec : ChangeSpec := { name := "wageOnce", fn := fun _ => fun
  | [d1, d2] => { results := [.lit (.bool true)], args := [d1, d2] }
  | _ => none }
def wageOnceRow : OpenClaim := { program := "ytljibjlkjelpbaagreatdoor", sum := "0b85974c8060d9ad2b6cd739c309bff9db39973c03297c83448b4ef0105298f4", func := "garment/garmentlaw57.WageOnce", spec := "wageOnce", unfollowed := true, recurses := true, named := ["garment/wage.bounds", "math/bits.divideError", "math/bits.overflowError"], plainKeys := false, apart := false, laid := [("garment/wage.bounds", laid_garment_wage_bounds)] }
def WageOnceSaid : Prop := wageOnceRow.holds Tryz.pinned (OpenSpec.ofChange wageOnceSpec)

/-- ITS FALSE NEIGHBOUR: 'it returns false'. Refute it at one input. -/
def wageOnceWrong : ChangeSpec := { name := "wageOnce", fn := fun _ => fun
  | [d1, d2] => { results := [.lit (.bool false)], args := [d1, d2] }
  | _ => none }
def WageOnceWrongFalsely : Prop := wageOnceRow.holds Tryz.pinned (OpenSpec.ofChange wageOnceWrong)

/-- 'garmentlaw57.WageRepeats': WHATEVER THE INPUT: true; the input reads as it did. -/
def wageRepeatsSpec : ChangeSpec := { name := "wageRepeats", fn := fun _ => fun
  | [d1, d2, d3] => { results := [.lit (.bool true)], args := [d1, d2, d3] }
  | _ => none }
def wageRepeatsRow : OpenClaim := { program := "ytljibjlkjelpbaagreatdoor", sum := "0b85974c8060d9ad2b6cd739c309bff9db39973c03297c83448b4ef0105298f4", func := "garment/garmentlaw57.WageRepeats", spec := "wageRepeats", unfollowed := true, recurses := true, named := ["garment/wage.bounds", "math/bits.divideError", "math/bits.overflowError"], plainKeys := false, apart := false, laid := [("garment/wage.bounds", laid_garment_wage_bounds)] }
def WageRepeatsSaid : Prop := wageRepeatsRow.holds Tryz.pinned (OpenSpec.ofChange wageRepeatsSpec)

/-- ITS FALSE NEIGHBOUR: 'it returns false'. Refute it at one input. -/
def wageRepeatsWrong : ChangeSpec := { name := "wageRepeats", fn := fun _ => fun
  | [d1, d2, d3] => { results := [.lit (.bool false)], args := [d1, d2, d3] }
  | _ => none }
def WageRepeatsWrongFalsely : Prop := wageRepeatsRow.holds Tryz.pinned (OpenSpec.ofChange wageRepeatsWrong)

/-- 'garmentlaw57.WageRecords': WHATEVER THE INPUT: true; the input reads as it did. -/
def wageRecordsSpec : ChangeSpec := { name := "wageRecords", fn := fun _ => fun
  | [d1, d2] => { results := [.lit (.bool true)], args := [d1, d2] }
  | _ => none }
def wageRecordsRow : OpenClaim := { program := "ytljibjlkjelpbaagreatdoor", sum := "0b85974c8060d9ad2b6cd739c309bff9db39973c03297c83448b4ef0105298f4", func := "garment/garmentlaw57.WageRecords", spec := "wageRecords", unfollowed := true, recurses := true, named := ["garment/wage.bounds", "math/bits.divideError", "math/bits.overflowError"], plainKeys := false, apart := false, laid := [("garment/wage.bounds", laid_garment_wage_bounds)] }
def WageRecordsSaid : Prop := wageRecordsRow.holds Tryz.pinned (OpenSpec.ofChange wageRecordsSpec)

/-- ITS FALSE NEIGHBOUR: 'it returns false'. Refute it at one input. -/
def wageRecordsWrong : ChangeSpec := { name := "wageRecords", fn := fun _ => fun
  | [d1, d2] => { results := [.lit (.bool false)], args := [d1, d2] }
  | _ => none }
def WageRecordsWrongFalsely : Prop := wageRecordsRow.holds Tryz.pinned (OpenSpec.ofChange wageRecordsWrong)

/-- 'garmentlaw58.ReturnsNets': WHATEVER THE INPUT: true; the input reads as it did. -/
def returnsNetsSpec : ChangeSpec := { name := "returnsNets", fn := fun _ => fun
  | [d1, d2] => { results := [.lit (.bool true)], args := [d1, d2] }
  | _ => none }
def returnsNetsRow : OpenClaim := { program := "ytljibjlkjelpbaagreatdoor", sum := "0b85974c8060d9ad2b6cd739c309bff9db39973c03297c83448b4ef0105298f4", func := "garment/garmentlaw58.ReturnsNets", spec := "returnsNets", unfollowed := true, recurses := true, named := ["math/bits.divideError", "math/bits.overflowError", "garment/wage.bounds"], plainKeys := false, apart := false, laid := [("garment/wage.bounds", laid_garment_wage_bounds)] }
def ReturnsNetsSaid : Prop := returnsNetsRow.holds Tryz.pinned (OpenSpec.ofChange returnsNetsSpec)

/-- ITS FALSE NEIGHBOUR: 'it returns false'. Refute it at one input. -/
def returnsNetsWrong : ChangeSpec := { name := "returnsNets", fn := fun _ => fun
  | [d1, d2] => { results := [.lit (.bool false)], args := [d1, d2] }
  | _ => none }
def ReturnsNetsWrongFalsely : Prop := returnsNetsRow.holds Tryz.pinned (OpenSpec.ofChange returnsNetsWrong)

/-- 'garmentlaw58.ReturnsBounded': WHATEVER THE INPUT: true; the input reads as it did. -/
def returnsBoundedSpec : ChangeSpec := { name := "returnsBounded", fn := fun _ => fun
  | [d1, d2] => { results := [.lit (.bool true)], args := [d1, d2] }
  | _ => none }
def returnsBoundedRow : OpenClaim := { program := "ytljibjlkjelpbaagreatdoor", sum := "0b85974c8060d9ad2b6cd739c309bff9db39973c03297c83448b4ef0105298f4", func := "garment/garmentlaw58.ReturnsBounded", spec := "returnsBounded", unfollowed := true, recurses := true, named := ["math/bits.divideError", "math/bits.overflowError", "garment/wage.bounds"], plainKeys := false, apart := false, laid := [("garment/wage.bounds", laid_garment_wage_bounds)] }
def ReturnsBoundedSaid : Prop := returnsBoundedRow.holds Tryz.pinned (OpenSpec.ofChange returnsBoundedSpec)

/-- ITS FALSE NEIGHBOUR: 'it returns false'. Refute it at one input. -/
def returnsBoundedWrong : ChangeSpec := { name := "returnsBounded", fn := fun _ => fun
  | [d1, d2] => { results := [.lit (.bool false)], args := [d1, d2] }
  | _ => none }
def ReturnsBoundedWrongFalsely : Prop := returnsBoundedRow.holds Tryz.pinned (OpenSpec.ofChange returnsBoundedWrong)

/-- 'garmentlaw58.ReturnsOnce': WHATEVER THE INPUT: true; the input reads as it did. -/
def returnsOnceSpec : ChangeSpec := { name := "returnsOnce", fn := fun _ => fun
  | [d1, d2] => { results := [.lit (.bool true)], args := [d1, d2] }
  | _ => none }
def returnsOnceRow : OpenClaim := { program := "ytljibjlkjelpbaagreatdoor", sum := "0b85974c8060d9ad2b6cd739c309bff9db39973c03297c83448b4ef0105298f4", func := "garment/garmentlaw58.ReturnsOnce", spec := "returnsOnce", unfollowed := true, recurses := true, named := ["math/bits.divideError", "math/bits.overflowError", "garment/wage.bounds"], plainKeys := false, apart := false, laid := [("garment/wage.bounds", laid_garment_wage_bounds)] }
def ReturnsOnceSaid : Prop := returnsOnceRow.holds Tryz.pinned (OpenSpec.ofChange returnsOnceSpec)

/-- ITS FALSE NEIGHBOUR: 'it returns false'. Refute it at one input. -/
def returnsOnceWrong : ChangeSpec := { name := "returnsOnce", fn := fun _ => fun
  | [d1, d2] => { results := [.lit (.bool false)], args := [d1, d2] }
  | _ => none }
def ReturnsOnceWrongFalsely : Prop := returnsOnceRow.holds Tryz.pinned (OpenSpec.ofChange returnsOnceWrong)

/-- 'garmentlaw58.ReturnsAll': WHATEVER THE INPUT: true; the input reads as it did. -/
def returnsAllSpec : ChangeSpec := { name := "returnsAll", fn := fun _ => fun
  | [d1, d2] => { results := [.lit (.bool true)], args := [d1, d2] }
  | _ => none }
def returnsAllRow : OpenClaim := { program := "ytljibjlkjelpbaagreatdoor", sum := "0b85974c8060d9ad2b6cd739c309bff9db39973c03297c83448b4ef0105298f4", func := "garment/garmentlaw58.ReturnsAll", spec := "returnsAll", unfollowed := true, recurses := true, named := ["math/bits.divideError", "math/bits.overflowError", "garment/wage.bounds"], plainKeys := false, apart := false, laid := [("garment/wage.bounds", laid_garment_wage_bounds)] }
def ReturnsAllSaid : Prop := returnsAllRow.holds Tryz.pinned (OpenSpec.ofChange returnsAllSpec)

/-- ITS FALSE NEIGHBOUR: 'it returns false'. Refute it at one input. -/
def returnsAllWrong : ChangeSpec := { name := "returnsAll", fn := fun _ => fun
  | [d1, d2] => { results := [.lit (.bool false)], args := [d1, d2] }
  | _ => none }
def ReturnsAllWrongFalsely : Prop := returnsAllRow.holds Tryz.pinned (OpenSpec.ofChange returnsAllWrong)

/-- 'garmentlaw58.ReturnsTurned': WHATEVER THE INPUT: true; the input reads as it did. -/
def returnsTurnedSpec : ChangeSpec := { name := "returnsTurned", fn := fun _ => fun
  | [d1, d2] => { results := [.lit (.bool true)], args := [d1, d2] }
  | _ => none }
def returnsTurnedRow : OpenClaim := { program := "ytljibjlkjelpbaagreatdoor", sum := "0b85974c8060d9ad2b6cd739c309bff9db39973c03297c83448b4ef0105298f4", func := "garment/garmentlaw58.ReturnsTurned", spec := "returnsTurned", unfollowed := true, recurses := true, named := ["math/bits.divideError", "math/bits.overflowError", "garment/wage.bounds"], plainKeys := false, apart := false, laid := [("garment/wage.bounds", laid_garment_wage_bounds)] }
def ReturnsTurnedSaid : Prop := returnsTurnedRow.holds Tryz.pinned (OpenSpec.ofChange returnsTurnedSpec)

/-- ITS FALSE NEIGHBOUR: 'it returns false'. Refute it at one input. -/
def returnsTurnedWrong : ChangeSpec := { name := "returnsTurned", fn := fun _ => fun
  | [d1, d2] => { results := [.lit (.bool false)], args := [d1, d2] }
  | _ => none }
def ReturnsTurnedWrongFalsely : Prop := returnsTurnedRow.holds Tryz.pinned (OpenSpec.ofChange returnsTurnedWrong)

/-- 'garmentlaw58.ReturnsNet': WHATEVER THE INPUT: true; the input reads as it did. -/
def returnsNetSpec : ChangeSpec := { name := "returnsNet", fn := fun _ => fun
  | [d1, d2] => { results := [.lit (.bool true)], args := [d1, d2] }
  | _ => none }
def returnsNetRow : OpenClaim := { program := "ytljibjlkjelpbaagreatdoor", sum := "0b85974c8060d9ad2b6cd739c309bff9db39973c03297c83448b4ef0105298f4", func := "garment/garmentlaw58.ReturnsNet", spec := "returnsNet", unfollowed := true, recurses := true, named := ["math/bits.divideError", "math/bits.overflowError", "garment/wage.bounds"], plainKeys := false, apart := false, laid := [("garment/wage.bounds", laid_garment_wage_bounds)] }
def ReturnsNetSaid : Prop := returnsNetRow.holds Tryz.pinned (OpenSpec.ofChange returnsNetSpec)

/-- ITS FALSE NEIGHBOUR: 'it returns false'. Refute it at one input. -/
def returnsNetWrong : ChangeSpec := { name := "returnsNet", fn := fun _ => fun
  | [d1, d2] => { results := [.lit (.bool false)], args := [d1, d2] }
  | _ => none }
def ReturnsNetWrongFalsely : Prop := returnsNetRow.holds Tryz.pinned (OpenSpec.ofChange returnsNetWrong)

/-- 'garmentlaw58.ReturnsPaid': WHATEVER THE INPUT: true; the input reads as it did. -/
def returnsPaidSpec : ChangeSpec := { name := "returnsPaid", fn := fun _ => fun
  | [d1, d2] => { results := [.lit (.bool true)], args := [d1, d2] }
  | _ => none }
def returnsPaidRow : OpenClaim := { program := "ytljibjlkjelpbaagreatdoor", sum := "0b85974c8060d9ad2b6cd739c309bff9db39973c03297c83448b4ef0105298f4", func := "garment/garmentlaw58.ReturnsPaid", spec := "returnsPaid", unfollowed := true, recurses := true, named := ["math/bits.divideError", "math/bits.overflowError", "garment/wage.bounds"], plainKeys := false, apart := false, laid := [("garment/wage.bounds", laid_garment_wage_bounds)] }
def ReturnsPaidSaid : Prop := returnsPaidRow.holds Tryz.pinned (OpenSpec.ofChange returnsPaidSpec)

/-- ITS FALSE NEIGHBOUR: 'it returns false'. Refute it at one input. -/
def returnsPaidWrong : ChangeSpec := { name := "returnsPaid", fn := fun _ => fun
  | [d1, d2] => { results := [.lit (.bool false)], args := [d1, d2] }
  | _ => none }
def ReturnsPaidWrongFalsely : Prop := returnsPaidRow.holds Tryz.pinned (OpenSpec.ofChange returnsPaidWrong)

/- THE SECOND FORM. 'bulk': how many values and letters a reading holds, each counted each time it is reached (what is shared counts as often as it is met; a slice's spare places count too). A statement '..UptoSaid' is the law's where the arguments, and the package variables that the reading takes, are together of bulk at most 1048576: NARROWER than '..Said'. Prove '..Said' where nothing that the law and all that it calls make is longer than what came in: it says more and counts as full. Else prove '..UptoSaid'. A law counts once. -/
mutual
def uptoBulk {H : Type} : DataW H → Nat
  | .lit (.string bytes) => bytes.length + 1
  | .lit _ => 1
  | .nil => 1
  | .ptr d => uptoBulk d + 1
  | .slice elems spare => uptoBulkAll elems + uptoBulkAll spare + 1
  | .agg parts => uptoBulkAll parts + 1
  | .iface _ d => uptoBulk d + 1
  | .map entries => uptoBulkEntries entries + 1
  | .held _ => 1
def uptoBulkAll {H : Type} : List (DataW H) → Nat
  | [] => 0
  | d :: r => uptoBulk d + uptoBulkAll r
def uptoBulkEntries {H : Type} : List (Lit × DataW H) → Nat
  | [] => 0
  | x :: r => uptoBulkEntry x + uptoBulkEntries r
def uptoBulkEntry {H : Type} : Lit × DataW H → Nat
  | (.string bytes, d) => bytes.length + uptoBulk d + 1
  | (_, d) => uptoBulk d + 1
 end
def uptoSmall : (H : Type) → List (DataW H) → Bool := fun _ ds => decide (uptoBulkAll ds ≤ 1048576)
def OpenSpec.upto (s : _root_.Go.ChangeSpec) : _root_.Go.OpenSpec := { _root_.Go.OpenSpec.ofChange s with cond := some uptoSmall }

/-- 'garmentlaw57.WageLeast', WHERE WHAT IT READS IS OF BULK AT MOST 1048576: true; the input reads as it did. -/
def wageLeastUptoRow : OpenClaim := { program := "ytljibjlkjelpbaagreatdoor", sum := "0b85974c8060d9ad2b6cd739c309bff9db39973c03297c83448b4ef0105298f4", func := "garment/garmentlaw57.WageLeast", spec := "wageLeast", unfollowed := true, recurses := true, named := ["garment/wage.bounds", "math/bits.divideError", "math/bits.overflowError"], plainKeys := false, apart := false, laid := [("garment/wage.bounds", laid_garment_wage_bounds)], narrowed := true }
def WageLeastUptoSaid : Prop := wageLeastUptoRow.holds Tryz.pinned (OpenSpec.upto wageLeastSpec)

/-- 'garmentlaw57.WageBounds', WHERE WHAT IT READS IS OF BULK AT MOST 1048576: true; the input reads as it did. -/
def wageBoundsUptoRow : OpenClaim := { program := "ytljibjlkjelpbaagreatdoor", sum := "0b85974c8060d9ad2b6cd739c309bff9db39973c03297c83448b4ef0105298f4", func := "garment/garmentlaw57.WageBounds", spec := "wageBounds", unfollowed := true, recurses := true, named := ["garment/wage.bounds", "math/bits.divideError", "math/bits.overflowError"], plainKeys := false, apart := false, laid := [("garment/wage.bounds", laid_garment_wage_bounds)], narrowed := true }
def WageBoundsUptoSaid : Prop := wageBoundsUptoRow.holds Tryz.pinned (OpenSpec.upto wageBoundsSpec)

/-- 'garmentlaw57.WageOnce', WHERE WHAT IT READS IS OF BULK AT MOST 1048576: true; the input reads as it did. -/
def wageOnceUptoRow : OpenClaim := { program := "ytljibjlkjelpbaagreatdoor", sum := "0b85974c8060d9ad2b6cd739c309bff9db39973c03297c83448b4ef0105298f4", func := "garment/garmentlaw57.WageOnce", spec := "wageOnce", unfollowed := true, recurses := true, named := ["garment/wage.bounds", "math/bits.divideError", "math/bits.overflowError"], plainKeys := false, apart := false, laid := [("garment/wage.bounds", laid_garment_wage_bounds)], narrowed := true }
def WageOnceUptoSaid : Prop := wageOnceUptoRow.holds Tryz.pinned (OpenSpec.upto wageOnceSpec)

/-- 'garmentlaw57.WageRepeats', WHERE WHAT IT READS IS OF BULK AT MOST 1048576: true; the input reads as it did. -/
def wageRepeatsUptoRow : OpenClaim := { program := "ytljibjlkjelpbaagreatdoor", sum := "0b85974c8060d9ad2b6cd739c309bff9db39973c03297c83448b4ef0105298f4", func := "garment/garmentlaw57.WageRepeats", spec := "wageRepeats", unfollowed := true, recurses := true, named := ["garment/wage.bounds", "math/bits.divideError", "math/bits.overflowError"], plainKeys := false, apart := false, laid := [("garment/wage.bounds", laid_garment_wage_bounds)], narrowed := true }
def WageRepeatsUptoSaid : Prop := wageRepeatsUptoRow.holds Tryz.pinned (OpenSpec.upto wageRepeatsSpec)

/-- 'garmentlaw57.WageRecords', WHERE WHAT IT READS IS OF BULK AT MOST 1048576: true; the input reads as it did. -/
def wageRecordsUptoRow : OpenClaim := { program := "ytljibjlkjelpbaagreatdoor", sum := "0b85974c8060d9ad2b6cd739c309bff9db39973c03297c83448b4ef0105298f4", func := "garment/garmentlaw57.WageRecords", spec := "wageRecords", unfollowed := true, recurses := true, named := ["garment/wage.bounds", "math/bits.divideError", "math/bits.overflowError"], plainKeys := false, apart := false, laid := [("garment/wage.bounds", laid_garment_wage_bounds)], narrowed := true }
def WageRecordsUptoSaid : Prop := wageRecordsUptoRow.holds Tryz.pinned (OpenSpec.upto wageRecordsSpec)

/-- 'garmentlaw58.ReturnsNets', WHERE WHAT IT READS IS OF BULK AT MOST 1048576: true; the input reads as it did. -/
def returnsNetsUptoRow : OpenClaim := { program := "ytljibjlkjelpbaagreatdoor", sum := "0b85974c8060d9ad2b6cd739c309bff9db39973c03297c83448b4ef0105298f4", func := "garment/garmentlaw58.ReturnsNets", spec := "returnsNets", unfollowed := true, recurses := true, named := ["math/bits.divideError", "math/bits.overflowError", "garment/wage.bounds"], plainKeys := false, apart := false, laid := [("garment/wage.bounds", laid_garment_wage_bounds)], narrowed := true }
def ReturnsNetsUptoSaid : Prop := returnsNetsUptoRow.holds Tryz.pinned (OpenSpec.upto returnsNetsSpec)

/-- 'garmentlaw58.ReturnsBounded', WHERE WHAT IT READS IS OF BULK AT MOST 1048576: true; the input reads as it did. -/
def returnsBoundedUptoRow : OpenClaim := { program := "ytljibjlkjelpbaagreatdoor", sum := "0b85974c8060d9ad2b6cd739c309bff9db39973c03297c83448b4ef0105298f4", func := "garment/garmentlaw58.ReturnsBounded", spec := "returnsBounded", unfollowed := true, recurses := true, named := ["math/bits.divideError", "math/bits.overflowError", "garment/wage.bounds"], plainKeys := false, apart := false, laid := [("garment/wage.bounds", laid_garment_wage_bounds)], narrowed := true }
def ReturnsBoundedUptoSaid : Prop := returnsBoundedUptoRow.holds Tryz.pinned (OpenSpec.upto returnsBoundedSpec)

/-- 'garmentlaw58.ReturnsOnce', WHERE WHAT IT READS IS OF BULK AT MOST 1048576: true; the input reads as it did. -/
def returnsOnceUptoRow : OpenClaim := { program := "ytljibjlkjelpbaagreatdoor", sum := "0b85974c8060d9ad2b6cd739c309bff9db39973c03297c83448b4ef0105298f4", func := "garment/garmentlaw58.ReturnsOnce", spec := "returnsOnce", unfollowed := true, recurses := true, named := ["math/bits.divideError", "math/bits.overflowError", "garment/wage.bounds"], plainKeys := false, apart := false, laid := [("garment/wage.bounds", laid_garment_wage_bounds)], narrowed := true }
def ReturnsOnceUptoSaid : Prop := returnsOnceUptoRow.holds Tryz.pinned (OpenSpec.upto returnsOnceSpec)

/-- 'garmentlaw58.ReturnsAll', WHERE WHAT IT READS IS OF BULK AT MOST 1048576: true; the input reads as it did. -/
def returnsAllUptoRow : OpenClaim := { program := "ytljibjlkjelpbaagreatdoor", sum := "0b85974c8060d9ad2b6cd739c309bff9db39973c03297c83448b4ef0105298f4", func := "garment/garmentlaw58.ReturnsAll", spec := "returnsAll", unfollowed := true, recurses := true, named := ["math/bits.divideError", "math/bits.overflowError", "garment/wage.bounds"], plainKeys := false, apart := false, laid := [("garment/wage.bounds", laid_garment_wage_bounds)], narrowed := true }
def ReturnsAllUptoSaid : Prop := returnsAllUptoRow.holds Tryz.pinned (OpenSpec.upto returnsAllSpec)

/-- 'garmentlaw58.ReturnsTurned', WHERE WHAT IT READS IS OF BULK AT MOST 1048576: true; the input reads as it did. -/
def returnsTurnedUptoRow : OpenClaim := { program := "ytljibjlkjelpbaagreatdoor", sum := "0b85974c8060d9ad2b6cd739c309bff9db39973c03297c83448b4ef0105298f4", func := "garment/garmentlaw58.ReturnsTurned", spec := "returnsTurned", unfollowed := true, recurses := true, named := ["math/bits.divideError", "math/bits.overflowError", "garment/wage.bounds"], plainKeys := false, apart := false, laid := [("garment/wage.bounds", laid_garment_wage_bounds)], narrowed := true }
def ReturnsTurnedUptoSaid : Prop := returnsTurnedUptoRow.holds Tryz.pinned (OpenSpec.upto returnsTurnedSpec)

/-- 'garmentlaw58.ReturnsNet', WHERE WHAT IT READS IS OF BULK AT MOST 1048576: true; the input reads as it did. -/
def returnsNetUptoRow : OpenClaim := { program := "ytljibjlkjelpbaagreatdoor", sum := "0b85974c8060d9ad2b6cd739c309bff9db39973c03297c83448b4ef0105298f4", func := "garment/garmentlaw58.ReturnsNet", spec := "returnsNet", unfollowed := true, recurses := true, named := ["math/bits.divideError", "math/bits.overflowError", "garment/wage.bounds"], plainKeys := false, apart := false, laid := [("garment/wage.bounds", laid_garment_wage_bounds)], narrowed := true }
def ReturnsNetUptoSaid : Prop := returnsNetUptoRow.holds Tryz.pinned (OpenSpec.upto returnsNetSpec)

/-- 'garmentlaw58.ReturnsPaid', WHERE WHAT IT READS IS OF BULK AT MOST 1048576: true; the input reads as it did. -/
def returnsPaidUptoRow : OpenClaim := { program := "ytljibjlkjelpbaagreatdoor", sum := "0b85974c8060d9ad2b6cd739c309bff9db39973c03297c83448b4ef0105298f4", func := "garment/garmentlaw58.ReturnsPaid", spec := "returnsPaid", unfollowed := true, recurses := true, named := ["math/bits.divideError", "math/bits.overflowError", "garment/wage.bounds"], plainKeys := false, apart := false, laid := [("garment/wage.bounds", laid_garment_wage_bounds)], narrowed := true }
def ReturnsPaidUptoSaid : Prop := returnsPaidUptoRow.holds Tryz.pinned (OpenSpec.upto returnsPaidSpec)

end Rows
end Go.Proofs.YtljibjlkjelpbaaGreatDoor
