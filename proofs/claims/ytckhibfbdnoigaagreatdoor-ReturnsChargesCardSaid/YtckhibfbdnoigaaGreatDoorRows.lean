/-
  NARROWER THAN 'FOR EVERY INPUT', by the rows' own cells (each row's printed sentence says how): TopReturns: laid · WagePays: laid · ReturnsTraces: laid · ReturnsCharges: laid.
  DERIVED. THE GIVEN ROWS OF THIS SEAT. 4 by the template 'for every input the law returns true; each argument reads behind the call as it read before'; 0 by the template 'total and deterministic' (their statements: YtckhibfbdnoigaaGreatDoorTotals.lean).
  GIVEN WITH THE SEED: the statements are not yours to turn. If you find one false, say at which input.
  Laid BY PROGRAM, IN A SANDBOX (cutbox-rows.mjs): the forced cells as the released guide's own fill.sh prints them over the translation f528eb65e1aef9f6… (all of the seat's roots in one cut). By AI agents, Wed Nov 11 2026. No macro, syntax, notation, axiom, sorry.
-/
import Derived.Test.YtckhibfbdnoigaaGreatDoorChecked
import GoSem.Claim
import GoSem.ClaimJoined
import GoSem.ClaimMapViews
import Derived.JoinedTies
import Derived.KernelRfl
namespace Go.Proofs.YtckhibfbdnoigaaGreatDoor
/- THE CELL 'sum', in the pinned program and in every row, IS THE sha256 OF THE DUMP (.gsa) THAT YtckhibfbdnoigaaGreatDoorProg.lean LOADS. Nothing in Lean hashes anything: it is a label: what it is worth is what the hold of that sum in a sandbox is worth. -/
noncomputable def Tryz.pinned : Pinned := { name := "ytckhibfbdnoigaagreatdoor", sum := "f528eb65e1aef9f6d5055ae54295c66aa107f34f349a9faa197d77fe4dad666a", checked := Tryz.checked }
namespace Rows
def none {H : Type} : Left H := { results := [], args := [] }

/- WHAT THE LISTED PACKAGE-LEVEL VARIABLES READ AS WHEN THE CALL BEGINS. Each datum BY PROGRAM (the guide's laid-datum.mjs) off the statement by which the dump's own 'gosem.cut.vars' lays the variable. In a bare row this is a premise. The card (YtckhibfbdnoigaaGreatDoorCards.lean) ties it to the program's text. -/
def laid_garment_wage_bounds {H : Type} : DataW H := .agg [.lit (.int .i64 100000), .lit (.int .i64 1073741824)]

/-- 'garmenttop.TopReturns': WHATEVER THE INPUT: true; the input reads as it did. -/
def topReturnsSpec : ChangeSpec := { name := "topReturns", fn := fun _ => fun
  | [d1, d2] => { results := [.lit (.bool true)], args := [d1, d2] }
  | _ => none }
def topReturnsRow : OpenClaim := { program := "ytckhibfbdnoigaagreatdoor", sum := "f528eb65e1aef9f6d5055ae54295c66aa107f34f349a9faa197d77fe4dad666a", func := "garment/garmenttop.TopReturns", spec := "topReturns", unfollowed := true, recurses := true, named := ["math/bits.divideError", "math/bits.overflowError", "garment/wage.bounds"], plainKeys := false, apart := false, laid := [("garment/wage.bounds", laid_garment_wage_bounds)] }
def TopReturnsSaid : Prop := topReturnsRow.holds Tryz.pinned (OpenSpec.ofChange topReturnsSpec)

/-- ITS FALSE NEIGHBOUR: 'it returns false'. Refute it at one input. -/
def topReturnsWrong : ChangeSpec := { name := "topReturns", fn := fun _ => fun
  | [d1, d2] => { results := [.lit (.bool false)], args := [d1, d2] }
  | _ => none }
def TopReturnsWrongFalsely : Prop := topReturnsRow.holds Tryz.pinned (OpenSpec.ofChange topReturnsWrong)

/-- 'garmentlaw57.WagePays': WHATEVER THE INPUT: true; the input reads as it did. -/
def wagePaysSpec : ChangeSpec := { name := "wagePays", fn := fun _ => fun
  | [d1, d2] => { results := [.lit (.bool true)], args := [d1, d2] }
  | _ => none }
def wagePaysRow : OpenClaim := { program := "ytckhibfbdnoigaagreatdoor", sum := "f528eb65e1aef9f6d5055ae54295c66aa107f34f349a9faa197d77fe4dad666a", func := "garment/garmentlaw57.WagePays", spec := "wagePays", unfollowed := true, recurses := true, named := ["garment/wage.bounds", "math/bits.divideError", "math/bits.overflowError"], plainKeys := false, apart := false, laid := [("garment/wage.bounds", laid_garment_wage_bounds)] }
def WagePaysSaid : Prop := wagePaysRow.holds Tryz.pinned (OpenSpec.ofChange wagePaysSpec)

/-- ITS FALSE NEIGHBOUR: 'it returns false'. Refute it at one input. -/
def wagePaysWrong : ChangeSpec := { name := "wagePays", fn := fun _ => fun
  | [d1, d2] => { results := [.lit (.bool false)], args := [d1, d2] }
  | _ => none }
def WagePaysWrongFalsely : Prop := wagePaysRow.holds Tryz.pinned (OpenSpec.ofChange wagePaysWrong)

/-- 'garmentlaw58.ReturnsTraces': WHATEVER THE INPUT: true; the input reads as it did. -/
def returnsTracesSpec : ChangeSpec := { name := "returnsTraces", fn := fun _ => fun
  | [d1, d2] => { results := [.lit (.bool true)], args := [d1, d2] }
  | _ => none }
def returnsTracesRow : OpenClaim := { program := "ytckhibfbdnoigaagreatdoor", sum := "f528eb65e1aef9f6d5055ae54295c66aa107f34f349a9faa197d77fe4dad666a", func := "garment/garmentlaw58.ReturnsTraces", spec := "returnsTraces", unfollowed := true, recurses := true, named := ["math/bits.divideError", "math/bits.overflowError", "garment/wage.bounds"], plainKeys := false, apart := false, laid := [("garment/wage.bounds", laid_garment_wage_bounds)] }
def ReturnsTracesSaid : Prop := returnsTracesRow.holds Tryz.pinned (OpenSpec.ofChange returnsTracesSpec)

/-- ITS FALSE NEIGHBOUR: 'it returns false'. Refute it at one input. -/
def returnsTracesWrong : ChangeSpec := { name := "returnsTraces", fn := fun _ => fun
  | [d1, d2] => { results := [.lit (.bool false)], args := [d1, d2] }
  | _ => none }
def ReturnsTracesWrongFalsely : Prop := returnsTracesRow.holds Tryz.pinned (OpenSpec.ofChange returnsTracesWrong)

/-- 'garmentlaw58.ReturnsCharges': WHATEVER THE INPUT: true; the input reads as it did. -/
def returnsChargesSpec : ChangeSpec := { name := "returnsCharges", fn := fun _ => fun
  | [d1, d2] => { results := [.lit (.bool true)], args := [d1, d2] }
  | _ => none }
def returnsChargesRow : OpenClaim := { program := "ytckhibfbdnoigaagreatdoor", sum := "f528eb65e1aef9f6d5055ae54295c66aa107f34f349a9faa197d77fe4dad666a", func := "garment/garmentlaw58.ReturnsCharges", spec := "returnsCharges", unfollowed := true, recurses := true, named := ["math/bits.divideError", "math/bits.overflowError", "garment/wage.bounds"], plainKeys := false, apart := false, laid := [("garment/wage.bounds", laid_garment_wage_bounds)] }
def ReturnsChargesSaid : Prop := returnsChargesRow.holds Tryz.pinned (OpenSpec.ofChange returnsChargesSpec)

/-- ITS FALSE NEIGHBOUR: 'it returns false'. Refute it at one input. -/
def returnsChargesWrong : ChangeSpec := { name := "returnsCharges", fn := fun _ => fun
  | [d1, d2] => { results := [.lit (.bool false)], args := [d1, d2] }
  | _ => none }
def ReturnsChargesWrongFalsely : Prop := returnsChargesRow.holds Tryz.pinned (OpenSpec.ofChange returnsChargesWrong)

/- THE SECOND FORM. 'bulk': how many values and letters a reading holds, each counted each time it is reached (what is shared counts as often as it is met; a slice's spare places count too). A statement '..UptoSaid' is the law's where the arguments, and the package variables that the reading takes, are together of bulk at most 1048576: NARROWER than '..Said'. Prove '..Said' where nothing that the law and all that it calls make is longer than what came in: it says more and counts as full. Else prove '..UptoSaid'. A law counts once. -/
mutual
def uptoBulk {H : Type} : DataW H → Nat
  | .lit (.string bytes) => bytes.length + 1
  | .lit _ => 1
  | .nil => 1
  | .ptr d => uptoBulk d + 1
  | .slice elems spare => uptoBulkAll elems + uptoBulkAll spare + 1
  | .agg parts => uptoBulkAll parts + 1
  | .iface _ d => uptoBulk d + 1
  | .map entries => uptoBulkEntries entries + 1
  | .held _ => 1
def uptoBulkAll {H : Type} : List (DataW H) → Nat
  | [] => 0
  | d :: r => uptoBulk d + uptoBulkAll r
def uptoBulkEntries {H : Type} : List (Lit × DataW H) → Nat
  | [] => 0
  | x :: r => uptoBulkEntry x + uptoBulkEntries r
def uptoBulkEntry {H : Type} : Lit × DataW H → Nat
  | (.string bytes, d) => bytes.length + uptoBulk d + 1
  | (_, d) => uptoBulk d + 1
 end
def uptoSmall : (H : Type) → List (DataW H) → Bool := fun _ ds => decide (uptoBulkAll ds ≤ 1048576)
def OpenSpec.upto (s : _root_.Go.ChangeSpec) : _root_.Go.OpenSpec := { _root_.Go.OpenSpec.ofChange s with cond := some uptoSmall }

/-- 'garmenttop.TopReturns', WHERE WHAT IT READS IS OF BULK AT MOST 1048576: true; the input reads as it did. -/
def topReturnsUptoRow : OpenClaim := { program := "ytckhibfbdnoigaagreatdoor", sum := "f528eb65e1aef9f6d5055ae54295c66aa107f34f349a9faa197d77fe4dad666a", func := "garment/garmenttop.TopReturns", spec := "topReturns", unfollowed := true, recurses := true, named := ["math/bits.divideError", "math/bits.overflowError", "garment/wage.bounds"], plainKeys := false, apart := false, laid := [("garment/wage.bounds", laid_garment_wage_bounds)], narrowed := true }
def TopReturnsUptoSaid : Prop := topReturnsUptoRow.holds Tryz.pinned (OpenSpec.upto topReturnsSpec)

/-- 'garmentlaw57.WagePays', WHERE WHAT IT READS IS OF BULK AT MOST 1048576: true; the input reads as it did. -/
def wagePaysUptoRow : OpenClaim := { program := "ytckhibfbdnoigaagreatdoor", sum := "f528eb65e1aef9f6d5055ae54295c66aa107f34f349a9faa197d77fe4dad666a", func := "garment/garmentlaw57.WagePays", spec := "wagePays", unfollowed := true, recurses := true, named := ["garment/wage.bounds", "math/bits.divideError", "math/bits.overflowError"], plainKeys := false, apart := false, laid := [("garment/wage.bounds", laid_garment_wage_bounds)], narrowed := true }
def WagePaysUptoSaid : Prop := wagePaysUptoRow.holds Tryz.pinned (OpenSpec.upto wagePaysSpec)

/-- 'garmentlaw58.ReturnsTraces', WHERE WHAT IT READS IS OF BULK AT MOST 1048576: true; the input reads as it did. -/
def returnsTracesUptoRow : OpenClaim := { program := "ytckhibfbdnoigaagreatdoor", sum := "f528eb65e1aef9f6d5055ae54295c66aa107f34f349a9faa197d77fe4dad666a", func := "garment/garmentlaw58.ReturnsTraces", spec := "returnsTraces", unfollowed := true, recurses := true, named := ["math/bits.divideError", "math/bits.overflowError", "garment/wage.bounds"], plainKeys := false, apart := false, laid := [("garment/wage.bounds", laid_garment_wage_bounds)], narrowed := true }
def ReturnsTracesUptoSaid : Prop := returnsTracesUptoRow.holds Tryz.pinned (OpenSpec.upto returnsTracesSpec)

/-- 'garmentlaw58.ReturnsCharges', WHERE WHAT IT READS IS OF BULK AT MOST 1048576: true; the input reads as it did. -/
def returnsChargesUptoRow : OpenClaim := { program := "ytckhibfbdnoigaagreatdoor", sum := "f528eb65e1aef9f6d5055ae54295c66aa107f34f349a9faa197d77fe4dad666a", func := "garment/garmentlaw58.ReturnsCharges", spec := "returnsCharges", unfollowed := true, recurses := true, named := ["math/bits.divideError", "math/bits.overflowError", "garment/wage.bounds"], plainKeys := false, apart := false, laid := [("garment/wage.bounds", laid_garment_wage_bounds)], narrowed := true }
def ReturnsChargesUptoSaid : Prop := returnsChargesUptoRow.holds Tryz.pinned (OpenSpec.upto returnsChargesSpec)

end Rows
end Go.Proofs.YtckhibfbdnoigaaGreatDoor
