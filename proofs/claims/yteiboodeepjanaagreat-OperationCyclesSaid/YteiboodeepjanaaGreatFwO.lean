/- An empty slice literal. No program in sight. -/
import Derived.Test.YteiboodeepjanaaGreatFwN
import Derived.Test.YteiboodeepjanaaGreatFwM
namespace Go.Proofs.YteiboodeepjanaaGreat
open Go.RowKit

theorem run_bslice0 {P : Program} (w : World) (t e : TypeId) (ie : TypeInfo) (hu : P.underlying t = some (.slice e)) (hie : P.info? e = some ie) :
    (Instr.buildSlice t 0 #[]).run P w = .ok (.slice (some ⟨w.heap.size, 0, none⟩) 0 0) (w.alloc (.cells #[] e)) := by
  simp [Instr.buildSlice, run_underlying hu, sizeOf, typeInfo, hie, newRow, Instr.fill]
  have h0 : (Array.range 0).map (fun _ : Nat => (default : Value)) = #[] := Array.eq_empty_of_size_eq_zero (by simp)
  rw [h0]
theorem gw_bslice0 {P : Program} {ops : Array Oper} {Q : Exit → Act → World → Prop} {N : Nat} {w0 : World} {L : List Res} {e : Env} {rest : List Oper} {t el : TypeId} {sz : Nat} [CSlice P t el sz] {d : Nat} {ty : TypeId} {pos : String} {af : Array Edge} {g : Option (Nat × Bool)} (hw : wantedE N ops e ⟨some d, .buildSlice t 0 #[], ty, pos, af, g⟩ = true)
    (k : ∀ b, GW P ops Q N w0 (Box b el #[] :: L) rest (upd e d (.slice (some ⟨b, 0, none⟩) 0 0))) : GW P ops Q N w0 L (⟨some d, .buildSlice t 0 #[], ty, pos, af, g⟩ :: rest) e := ⟨fun w s => by
  have ht := CSlice.h (P := P) (t := t) (el := el) (sz := sz)
  unfold sliceSz at ht
  split at ht
  · rename_i el' hu
    obtain ⟨i, hinfo, heq⟩ := Option.map_eq_some_iff.1 ht
    injection heq with e1 e2
    subst e1 e2
    have hr := run_bslice0 (P := P) w t el' i hu hinfo
    refine wl_run (w' := w.alloc (.cells #[] el')) hw ?_ ((k w.heap.size).h _ (s.box el' _))
    unfold execOp
    simp [hr]
  · cases ht⟩
end Go.Proofs.YteiboodeepjanaaGreat
