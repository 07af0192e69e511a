/-
  No cell of these rows narrows 'for every input' (looked for: loops, veiled, ifaces, maps, wideKeys, modest, calm, conditions, laid).
  DERIVED. THE GIVEN ROWS OF THIS SEAT. 9 by the template 'for every input the law returns true; each argument reads behind the call as it read before'; 0 by the template 'total and deterministic' (their statements: YteiboodeepjanaaGreatTotals.lean).
  GIVEN WITH THE SEED: the statements are not yours to turn. If you find one false, say at which input.
  Laid BY PROGRAM, IN A SANDBOX (cutbox-rows.mjs): the forced cells as the released guide's own fill.sh prints them over the translation 74600cb83c10cc12… (all of the seat's roots in one cut). By AI agents, Wed Nov 11 2026. No macro, syntax, notation, axiom, sorry.
-/
import Derived.Test.YteiboodeepjanaaGreatChecked
import GoSem.Claim
import GoSem.ClaimJoined
import GoSem.ClaimMapViews
import Derived.JoinedTies
import Derived.KernelRfl
namespace Go.Proofs.YteiboodeepjanaaGreat
/- THE CELL 'sum', in the pinned program and in every row, IS THE sha256 OF THE DUMP (.gsa) THAT YteiboodeepjanaaGreatProg.lean LOADS. Nothing in Lean hashes anything: it is a label: what it is worth is what the hold of that sum in a sandbox is worth. -/
noncomputable def Tryz.pinned : Pinned := { name := "yteiboodeepjanaagreat", sum := "74600cb83c10cc12ff43c405d438611961cfc64e3d8522dc18c48cfb6aec39ec", checked := Tryz.checked }
namespace Rows
def none {H : Type} : Left H := { results := [], args := [] }

/-- 'garmentlaw45.OperationChecks': WHATEVER THE INPUT: true; the input reads as it did. -/
def operationChecksSpec : ChangeSpec := { name := "operationChecks", fn := fun _ => fun
  | [d] => { results := [.lit (.bool true)], args := [d] }
  | _ => none }
def operationChecksRow : OpenClaim := { program := "yteiboodeepjanaagreat", sum := "74600cb83c10cc12ff43c405d438611961cfc64e3d8522dc18c48cfb6aec39ec", func := "garment/garmentlaw45.OperationChecks", spec := "operationChecks", unfollowed := true, recurses := true, named := ["math/bits.divideError", "math/bits.overflowError"], apart := false }
def OperationChecksSaid : Prop := operationChecksRow.holds Tryz.pinned (OpenSpec.ofChange operationChecksSpec)

/-- ITS FALSE NEIGHBOUR: 'it returns false'. Refute it at one input. -/
def operationChecksWrong : ChangeSpec := { name := "operationChecks", fn := fun _ => fun
  | [d] => { results := [.lit (.bool false)], args := [d] }
  | _ => none }
def OperationChecksWrongFalsely : Prop := operationChecksRow.holds Tryz.pinned (OpenSpec.ofChange operationChecksWrong)

/-- 'garmentlaw45.OperationOrders': WHATEVER THE INPUT: true; the input reads as it did. -/
def operationOrdersSpec : ChangeSpec := { name := "operationOrders", fn := fun _ => fun
  | [d] => { results := [.lit (.bool true)], args := [d] }
  | _ => none }
def operationOrdersRow : OpenClaim := { program := "yteiboodeepjanaagreat", sum := "74600cb83c10cc12ff43c405d438611961cfc64e3d8522dc18c48cfb6aec39ec", func := "garment/garmentlaw45.OperationOrders", spec := "operationOrders", unfollowed := true, recurses := true, named := ["math/bits.divideError", "math/bits.overflowError"], apart := false }
def OperationOrdersSaid : Prop := operationOrdersRow.holds Tryz.pinned (OpenSpec.ofChange operationOrdersSpec)

/-- ITS FALSE NEIGHBOUR: 'it returns false'. Refute it at one input. -/
def operationOrdersWrong : ChangeSpec := { name := "operationOrders", fn := fun _ => fun
  | [d] => { results := [.lit (.bool false)], args := [d] }
  | _ => none }
def OperationOrdersWrongFalsely : Prop := operationOrdersRow.holds Tryz.pinned (OpenSpec.ofChange operationOrdersWrong)

/-- 'garmentlaw45.OperationFollows': WHATEVER THE INPUT: true; the input reads as it did. -/
def operationFollowsSpec : ChangeSpec := { name := "operationFollows", fn := fun _ => fun
  | [d1, d2, d3] => { results := [.lit (.bool true)], args := [d1, d2, d3] }
  | _ => none }
def operationFollowsRow : OpenClaim := { program := "yteiboodeepjanaagreat", sum := "74600cb83c10cc12ff43c405d438611961cfc64e3d8522dc18c48cfb6aec39ec", func := "garment/garmentlaw45.OperationFollows", spec := "operationFollows", unfollowed := true, recurses := true, named := ["math/bits.divideError", "math/bits.overflowError"], apart := false }
def OperationFollowsSaid : Prop := operationFollowsRow.holds Tryz.pinned (OpenSpec.ofChange operationFollowsSpec)

/-- ITS FALSE NEIGHBOUR: 'it returns false'. Refute it at one input. -/
def operationFollowsWrong : ChangeSpec := { name := "operationFollows", fn := fun _ => fun
  | [d1, d2, d3] => { results := [.lit (.bool false)], args := [d1, d2, d3] }
  | _ => none }
def OperationFollowsWrongFalsely : Prop := operationFollowsRow.holds Tryz.pinned (OpenSpec.ofChange operationFollowsWrong)

/-- 'garmentlaw45.OperationOrder': WHATEVER THE INPUT: true; the input reads as it did. -/
def operationOrderSpec : ChangeSpec := { name := "operationOrder", fn := fun _ => fun
  | [d] => { results := [.lit (.bool true)], args := [d] }
  | _ => none }
def operationOrderRow : OpenClaim := { program := "yteiboodeepjanaagreat", sum := "74600cb83c10cc12ff43c405d438611961cfc64e3d8522dc18c48cfb6aec39ec", func := "garment/garmentlaw45.OperationOrder", spec := "operationOrder", unfollowed := true, recurses := true, named := ["math/bits.divideError", "math/bits.overflowError"], apart := false }
def OperationOrderSaid : Prop := operationOrderRow.holds Tryz.pinned (OpenSpec.ofChange operationOrderSpec)

/-- ITS FALSE NEIGHBOUR: 'it returns false'. Refute it at one input. -/
def operationOrderWrong : ChangeSpec := { name := "operationOrder", fn := fun _ => fun
  | [d] => { results := [.lit (.bool false)], args := [d] }
  | _ => none }
def OperationOrderWrongFalsely : Prop := operationOrderRow.holds Tryz.pinned (OpenSpec.ofChange operationOrderWrong)

/-- 'garmentlaw45.OperationCritical': WHATEVER THE INPUT: true; the input reads as it did. -/
def operationCriticalSpec : ChangeSpec := { name := "operationCritical", fn := fun _ => fun
  | [d] => { results := [.lit (.bool true)], args := [d] }
  | _ => none }
def operationCriticalRow : OpenClaim := { program := "yteiboodeepjanaagreat", sum := "74600cb83c10cc12ff43c405d438611961cfc64e3d8522dc18c48cfb6aec39ec", func := "garment/garmentlaw45.OperationCritical", spec := "operationCritical", unfollowed := true, recurses := true, named := ["math/bits.divideError", "math/bits.overflowError"], apart := false }
def OperationCriticalSaid : Prop := operationCriticalRow.holds Tryz.pinned (OpenSpec.ofChange operationCriticalSpec)

/-- ITS FALSE NEIGHBOUR: 'it returns false'. Refute it at one input. -/
def operationCriticalWrong : ChangeSpec := { name := "operationCritical", fn := fun _ => fun
  | [d] => { results := [.lit (.bool false)], args := [d] }
  | _ => none }
def OperationCriticalWrongFalsely : Prop := operationCriticalRow.holds Tryz.pinned (OpenSpec.ofChange operationCriticalWrong)

/-- 'garmentlaw45.OperationBefore': WHATEVER THE INPUT: true; the input reads as it did. -/
def operationBeforeSpec : ChangeSpec := { name := "operationBefore", fn := fun _ => fun
  | [d1, d2, d3] => { results := [.lit (.bool true)], args := [d1, d2, d3] }
  | _ => none }
def operationBeforeRow : OpenClaim := { program := "yteiboodeepjanaagreat", sum := "74600cb83c10cc12ff43c405d438611961cfc64e3d8522dc18c48cfb6aec39ec", func := "garment/garmentlaw45.OperationBefore", spec := "operationBefore", unfollowed := true, recurses := true, named := ["math/bits.divideError", "math/bits.overflowError"], apart := false }
def OperationBeforeSaid : Prop := operationBeforeRow.holds Tryz.pinned (OpenSpec.ofChange operationBeforeSpec)

/-- ITS FALSE NEIGHBOUR: 'it returns false'. Refute it at one input. -/
def operationBeforeWrong : ChangeSpec := { name := "operationBefore", fn := fun _ => fun
  | [d1, d2, d3] => { results := [.lit (.bool false)], args := [d1, d2, d3] }
  | _ => none }
def OperationBeforeWrongFalsely : Prop := operationBeforeRow.holds Tryz.pinned (OpenSpec.ofChange operationBeforeWrong)

/-- 'garmentlaw45.OperationFollowers': WHATEVER THE INPUT: true; the input reads as it did. -/
def operationFollowersSpec : ChangeSpec := { name := "operationFollowers", fn := fun _ => fun
  | [d1, d2] => { results := [.lit (.bool true)], args := [d1, d2] }
  | _ => none }
def operationFollowersRow : OpenClaim := { program := "yteiboodeepjanaagreat", sum := "74600cb83c10cc12ff43c405d438611961cfc64e3d8522dc18c48cfb6aec39ec", func := "garment/garmentlaw45.OperationFollowers", spec := "operationFollowers", unfollowed := true, recurses := true, named := ["math/bits.divideError", "math/bits.overflowError"], apart := false }
def OperationFollowersSaid : Prop := operationFollowersRow.holds Tryz.pinned (OpenSpec.ofChange operationFollowersSpec)

/-- ITS FALSE NEIGHBOUR: 'it returns false'. Refute it at one input. -/
def operationFollowersWrong : ChangeSpec := { name := "operationFollowers", fn := fun _ => fun
  | [d1, d2] => { results := [.lit (.bool false)], args := [d1, d2] }
  | _ => none }
def OperationFollowersWrongFalsely : Prop := operationFollowersRow.holds Tryz.pinned (OpenSpec.ofChange operationFollowersWrong)

/-- 'garmentlaw45.OperationCycles': WHATEVER THE INPUT: true; the input reads as it did. -/
def operationCyclesSpec : ChangeSpec := { name := "operationCycles", fn := fun _ => fun
  | [d1, d2, d3] => { results := [.lit (.bool true)], args := [d1, d2, d3] }
  | _ => none }
def operationCyclesRow : OpenClaim := { program := "yteiboodeepjanaagreat", sum := "74600cb83c10cc12ff43c405d438611961cfc64e3d8522dc18c48cfb6aec39ec", func := "garment/garmentlaw45.OperationCycles", spec := "operationCycles", unfollowed := true, recurses := true, named := ["math/bits.divideError", "math/bits.overflowError"], apart := false }
def OperationCyclesSaid : Prop := operationCyclesRow.holds Tryz.pinned (OpenSpec.ofChange operationCyclesSpec)

/-- ITS FALSE NEIGHBOUR: 'it returns false'. Refute it at one input. -/
def operationCyclesWrong : ChangeSpec := { name := "operationCycles", fn := fun _ => fun
  | [d1, d2, d3] => { results := [.lit (.bool false)], args := [d1, d2, d3] }
  | _ => none }
def OperationCyclesWrongFalsely : Prop := operationCyclesRow.holds Tryz.pinned (OpenSpec.ofChange operationCyclesWrong)

/-- 'garmentlaw45.OperationStyles': WHATEVER THE INPUT: true; the input reads as it did. -/
def operationStylesSpec : ChangeSpec := { name := "operationStyles", fn := fun _ => fun
  | [d] => { results := [.lit (.bool true)], args := [d] }
  | _ => none }
def operationStylesRow : OpenClaim := { program := "yteiboodeepjanaagreat", sum := "74600cb83c10cc12ff43c405d438611961cfc64e3d8522dc18c48cfb6aec39ec", func := "garment/garmentlaw45.OperationStyles", spec := "operationStyles", unfollowed := true, recurses := true, named := ["math/bits.divideError", "math/bits.overflowError"], apart := false }
def OperationStylesSaid : Prop := operationStylesRow.holds Tryz.pinned (OpenSpec.ofChange operationStylesSpec)

/-- ITS FALSE NEIGHBOUR: 'it returns false'. Refute it at one input. -/
def operationStylesWrong : ChangeSpec := { name := "operationStyles", fn := fun _ => fun
  | [d] => { results := [.lit (.bool false)], args := [d] }
  | _ => none }
def OperationStylesWrongFalsely : Prop := operationStylesRow.holds Tryz.pinned (OpenSpec.ofChange operationStylesWrong)

/- THE SECOND FORM. 'bulk': how many values and letters a reading holds, each counted each time it is reached (what is shared counts as often as it is met; a slice's spare places count too). A statement '..UptoSaid' is the law's where the arguments, and the package variables that the reading takes, are together of bulk at most 1048576: NARROWER than '..Said'. Prove '..Said' where nothing that the law and all that it calls make is longer than what came in: it says more and counts as full. Else prove '..UptoSaid'. A law counts once. -/
mutual
def uptoBulk {H : Type} : DataW H → Nat
  | .lit (.string bytes) => bytes.length + 1
  | .lit _ => 1
  | .nil => 1
  | .ptr d => uptoBulk d + 1
  | .slice elems spare => uptoBulkAll elems + uptoBulkAll spare + 1
  | .agg parts => uptoBulkAll parts + 1
  | .iface _ d => uptoBulk d + 1
  | .map entries => uptoBulkEntries entries + 1
  | .held _ => 1
def uptoBulkAll {H : Type} : List (DataW H) → Nat
  | [] => 0
  | d :: r => uptoBulk d + uptoBulkAll r
def uptoBulkEntries {H : Type} : List (Lit × DataW H) → Nat
  | [] => 0
  | x :: r => uptoBulkEntry x + uptoBulkEntries r
def uptoBulkEntry {H : Type} : Lit × DataW H → Nat
  | (.string bytes, d) => bytes.length + uptoBulk d + 1
  | (_, d) => uptoBulk d + 1
 end
def uptoSmall : (H : Type) → List (DataW H) → Bool := fun _ ds => decide (uptoBulkAll ds ≤ 1048576)
def OpenSpec.upto (s : _root_.Go.ChangeSpec) : _root_.Go.OpenSpec := { _root_.Go.OpenSpec.ofChange s with cond := some uptoSmall }

/-- 'garmentlaw45.OperationChecks', WHERE WHAT IT READS IS OF BULK AT MOST 1048576: true; the input reads as it did. -/
def operationChecksUptoRow : OpenClaim := { program := "yteiboodeepjanaagreat", sum := "74600cb83c10cc12ff43c405d438611961cfc64e3d8522dc18c48cfb6aec39ec", func := "garment/garmentlaw45.OperationChecks", spec := "operationChecks", unfollowed := true, recurses := true, named := ["math/bits.divideError", "math/bits.overflowError"], apart := false, narrowed := true }
def OperationChecksUptoSaid : Prop := operationChecksUptoRow.holds Tryz.pinned (OpenSpec.upto operationChecksSpec)

/-- 'garmentlaw45.OperationOrders', WHERE WHAT IT READS IS OF BULK AT MOST 1048576: true; the input reads as it did. -/
def operationOrdersUptoRow : OpenClaim := { program := "yteiboodeepjanaagreat", sum := "74600cb83c10cc12ff43c405d438611961cfc64e3d8522dc18c48cfb6aec39ec", func := "garment/garmentlaw45.OperationOrders", spec := "operationOrders", unfollowed := true, recurses := true, named := ["math/bits.divideError", "math/bits.overflowError"], apart := false, narrowed := true }
def OperationOrdersUptoSaid : Prop := operationOrdersUptoRow.holds Tryz.pinned (OpenSpec.upto operationOrdersSpec)

/-- 'garmentlaw45.OperationFollows', WHERE WHAT IT READS IS OF BULK AT MOST 1048576: true; the input reads as it did. -/
def operationFollowsUptoRow : OpenClaim := { program := "yteiboodeepjanaagreat", sum := "74600cb83c10cc12ff43c405d438611961cfc64e3d8522dc18c48cfb6aec39ec", func := "garment/garmentlaw45.OperationFollows", spec := "operationFollows", unfollowed := true, recurses := true, named := ["math/bits.divideError", "math/bits.overflowError"], apart := false, narrowed := true }
def OperationFollowsUptoSaid : Prop := operationFollowsUptoRow.holds Tryz.pinned (OpenSpec.upto operationFollowsSpec)

/-- 'garmentlaw45.OperationOrder', WHERE WHAT IT READS IS OF BULK AT MOST 1048576: true; the input reads as it did. -/
def operationOrderUptoRow : OpenClaim := { program := "yteiboodeepjanaagreat", sum := "74600cb83c10cc12ff43c405d438611961cfc64e3d8522dc18c48cfb6aec39ec", func := "garment/garmentlaw45.OperationOrder", spec := "operationOrder", unfollowed := true, recurses := true, named := ["math/bits.divideError", "math/bits.overflowError"], apart := false, narrowed := true }
def OperationOrderUptoSaid : Prop := operationOrderUptoRow.holds Tryz.pinned (OpenSpec.upto operationOrderSpec)

/-- 'garmentlaw45.OperationCritical', WHERE WHAT IT READS IS OF BULK AT MOST 1048576: true; the input reads as it did. -/
def operationCriticalUptoRow : OpenClaim := { program := "yteiboodeepjanaagreat", sum := "74600cb83c10cc12ff43c405d438611961cfc64e3d8522dc18c48cfb6aec39ec", func := "garment/garmentlaw45.OperationCritical", spec := "operationCritical", unfollowed := true, recurses := true, named := ["math/bits.divideError", "math/bits.overflowError"], apart := false, narrowed := true }
def OperationCriticalUptoSaid : Prop := operationCriticalUptoRow.holds Tryz.pinned (OpenSpec.upto operationCriticalSpec)

/-- 'garmentlaw45.OperationBefore', WHERE WHAT IT READS IS OF BULK AT MOST 1048576: true; the input reads as it did. -/
def operationBeforeUptoRow : OpenClaim := { program := "yteiboodeepjanaagreat", sum := "74600cb83c10cc12ff43c405d438611961cfc64e3d8522dc18c48cfb6aec39ec", func := "garment/garmentlaw45.OperationBefore", spec := "operationBefore", unfollowed := true, recurses := true, named := ["math/bits.divideError", "math/bits.overflowError"], apart := false, narrowed := true }
def OperationBeforeUptoSaid : Prop := operationBeforeUptoRow.holds Tryz.pinned (OpenSpec.upto operationBeforeSpec)

/-- 'garmentlaw45.OperationFollowers', WHERE WHAT IT READS IS OF BULK AT MOST 1048576: true; the input reads as it did. -/
def operationFollowersUptoRow : OpenClaim := { program := "yteiboodeepjanaagreat", sum := "74600cb83c10cc12ff43c405d438611961cfc64e3d8522dc18c48cfb6aec39ec", func := "garment/garmentlaw45.OperationFollowers", spec := "operationFollowers", unfollowed := true, recurses := true, named := ["math/bits.divideError", "math/bits.overflowError"], apart := false, narrowed := true }
def OperationFollowersUptoSaid : Prop := operationFollowersUptoRow.holds Tryz.pinned (OpenSpec.upto operationFollowersSpec)

/-- 'garmentlaw45.OperationCycles', WHERE WHAT IT READS IS OF BULK AT MOST 1048576: true; the input reads as it did. -/
def operationCyclesUptoRow : OpenClaim := { program := "yteiboodeepjanaagreat", sum := "74600cb83c10cc12ff43c405d438611961cfc64e3d8522dc18c48cfb6aec39ec", func := "garment/garmentlaw45.OperationCycles", spec := "operationCycles", unfollowed := true, recurses := true, named := ["math/bits.divideError", "math/bits.overflowError"], apart := false, narrowed := true }
def OperationCyclesUptoSaid : Prop := operationCyclesUptoRow.holds Tryz.pinned (OpenSpec.upto operationCyclesSpec)

/-- 'garmentlaw45.OperationStyles', WHERE WHAT IT READS IS OF BULK AT MOST 1048576: true; the input reads as it did. -/
def operationStylesUptoRow : OpenClaim := { program := "yteiboodeepjanaagreat", sum := "74600cb83c10cc12ff43c405d438611961cfc64e3d8522dc18c48cfb6aec39ec", func := "garment/garmentlaw45.OperationStyles", spec := "operationStyles", unfollowed := true, recurses := true, named := ["math/bits.divideError", "math/bits.overflowError"], apart := false, narrowed := true }
def OperationStylesUptoSaid : Prop := operationStylesUptoRow.holds Tryz.pinned (OpenSpec.upto operationStylesSpec)

end Rows
end Go.Proofs.YteiboodeepjanaaGreat
