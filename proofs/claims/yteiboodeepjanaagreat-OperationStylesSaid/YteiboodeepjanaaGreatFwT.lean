/- Looks at a program's tables of types and functions, and classes for them. -/
import Derived.Calls
import GoSem.Dispatch
namespace Go.Proofs.YteiboodeepjanaaGreat

/-! ### Looks at the table of types (each closed, by evaluation) -/
def notAgg (P : Program) (t : TypeId) : Bool := match P.underlying t with
  | some (.struct _) => false
  | some (.array _ _) => false
  | some _ => true
  | none => false
def aggSz (P : Program) (t : TypeId) : Option Nat := match P.underlying t with
  | some (.struct _) => (P.info? t).map (·.size)
  | some (.array _ _) => (P.info? t).map (·.size)
  | _ => none
def sliceSz (P : Program) (t : TypeId) : Option (TypeId × Nat) := match P.underlying t with
  | some (.slice el) => (P.info? el).map fun i => (el, i.size)
  | _ => none
def arrSz (P : Program) (t : TypeId) : Option (Nat × Nat) := match P.underlying t with
  | some (.array n el) => (P.info? el).map fun i => (n, i.size)
  | _ => none
def fieldOff (P : Program) (s : TypeId) (f : Nat) : Option Nat := match P.underlying s with
  | some (.struct fs) => match fs[f]? with
    | some fl => match P.info? fl.type with
      | some i => bif Nat.beq i.size 0 then none else some fl.offset
      | none => none
    | none => none
  | _ => none
def sizeB (P : Program) (t : TypeId) : Option Nat := (P.info? t).map (·.size)
def zeroB (P : Program) (t : TypeId) : Option Value := (P.info? t).bind (·.zero)
def callable (P : Program) (f : FuncId) : Bool := match P.funcs[f]? with
  | some fn => !(fn.name == "runtime.NumGoroutine") && !fn.body.isNone
  | none => false
def isSliceT (P : Program) (t : TypeId) : Bool := match P.underlying t with
  | some (.slice _) => true
  | _ => false
def isStringT (P : Program) (t : TypeId) : Bool := match P.underlying t with
  | some .string => true
  | _ => false

class CSlice (P : Program) (t : Nat) (el sz : outParam Nat) : Prop where h : sliceSz P t = some (el, sz)
class CAgg (P : Program) (t : Nat) (n : outParam Nat) : Prop where h : aggSz P t = some n
class CArr (P : Program) (t : Nat) (n sz : outParam Nat) : Prop where h : arrSz P t = some (n, sz)
class CSize (P : Program) (t : Nat) (n : outParam Nat) : Prop where h : sizeB P t = some n
class CNotAgg (P : Program) (t : Nat) : Prop where h : notAgg P t = true
class CIsSlice (P : Program) (t : Nat) : Prop where h : isSliceT P t = true
class CIsStr (P : Program) (t : Nat) : Prop where h : isStringT P t = true
class CField (P : Program) (s f : Nat) (off : outParam Nat) : Prop where h : fieldOff P s f = some off
class CCall (P : Program) (f : Nat) : Prop where h : callable P f = true
class CZero (P : Program) (t : Nat) (z : outParam Value) : Prop where h : zeroB P t = some z
def bytesB (P : Program) (t : TypeId) : Option Nat := (P.info? t).map (·.bytes)
class CBytes (P : Program) (t : Nat) (n : outParam Nat) : Prop where h : bytesB P t = some n
def intKindB (P : Program) (t : TypeId) : Option IntKind := match P.underlying t with
  | some (.int k) => some k
  | _ => none
class CInt (P : Program) (t : Nat) (k : outParam IntKind) : Prop where h : intKindB P t = some k
/-- The places of a struct's fields: offset and size. -/
def placesB (P : Program) (t : TypeId) : Option (List (Nat × Nat)) := match P.underlying t with
  | some (.struct fs) => fs.toList.mapM fun f => (P.info? f.type).map fun i => (f.offset, i.size)
  | _ => none
class CPlaces (P : Program) (t : Nat) (ps : outParam (List (Nat × Nat))) : Prop where h : placesB P t = some ps
def mapKV (P : Program) (t : TypeId) : Option (TypeId × TypeId) := match P.underlying t with
  | some (.map k v) => some (k, v)
  | _ => none
class CMap (P : Program) (t : Nat) (k v : outParam Nat) : Prop where h : mapKV P t = some (k, v)
/-- A struct of integers alone, n of them, whose values can be held against each other. -/
def intStruct (P : Program) (t : TypeId) : Option Nat := match P.underlying t with
  | some (.struct fs) =>
    if fs.toList.zipIdx.all (fun (f, i) => f.name != "_" && f.offset == i && (match P.underlying f.type with | some (.int .i64) => true | _ => false)) && !P.stoodInHeld t && !P.eqGuardType P.depth t then some fs.size else none
  | _ => none
class CInts (P : Program) (t : Nat) (n : outParam Nat) : Prop where h : intStruct P t = some n
end Go.Proofs.YteiboodeepjanaaGreat
