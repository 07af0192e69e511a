/- Arguments of the laws: operations, as they came in. -/
import Derived.Test.YteiboodeepjanaaGreatFwM
import Derived.Test.YteiboodeepjanaaGreatC15
namespace Go.Proofs.YteiboodeepjanaaGreat
open Go.ChangeShapes Go.WideShapes Go.ChangeAt Go.RowKit
section
variable {H : Type} {enc : TypeId × Value → H} {w : World} {base : Nat} {spare : Nat → Bool} {held : Bool}
theorem ints23 {n : Nat} {c : Value} {x : DataW H × List MemPlace} (h : DataW.trod enc Tryz.prog w base spare held n 23 [c] = some x) : ∃ l, Sl rInt w w.heap.size c l :=
  ints_trod (e := 3) (by kernel_rfl) (by kernel_rfl) (by kernel_rfl) h
theorem op_trod {n : Nat} {cs : List Value} {x : DataW H × List MemPlace} (hl : cs.length = 5) (h : DataW.trod enc Tryz.prog w base spare held n 46 cs = some x) : ∃ o, rOp.rep w (fun b => b < w.heap.size) o cs := by
  match cs, hl with
  | [c0, c1, c2, c3, c4], _ =>
    obtain ⟨_, _, h0⟩ := field_trod (i := 0) (ft := 9) h (by kernel_rfl) rfl
    obtain ⟨_, _, h1⟩ := field_trod (i := 1) (ft := 3) h (by kernel_rfl) rfl
    obtain ⟨_, _, h2⟩ := field_trod (i := 2) (ft := 3) h (by kernel_rfl) rfl
    obtain ⟨_, _, h3⟩ := field_trod (i := 3) (ft := 23) h (by kernel_rfl) rfl
    obtain ⟨_, _, h4⟩ := field_trod (i := 4) (ft := 23) h (by kernel_rfl) rfl
    obtain ⟨s, rfl, hs⟩ := str_trod (by kernel_rfl) h0
    obtain ⟨i1, rfl, hi1⟩ := int_trod (by kernel_rfl) h1
    obtain ⟨i2, rfl, hi2⟩ := int_trod (by kernel_rfl) h2
    obtain ⟨la, ha⟩ := ints23 h3
    obtain ⟨lu, hu⟩ := ints23 h4
    obtain ⟨Aa, ca, rfl, _⟩ := len_small ha
    obtain ⟨Au, cu, rfl, _⟩ := len_small hu
    exact ⟨⟨s, i1, i2, la, lu⟩, Aa, ca, Au, cu, rfl, ⟨hs, hi1, hi2⟩, ha, hu⟩
theorem ops_trod {n : Nat} {c : Value} {x : DataW H × List MemPlace} (h : DataW.trod enc Tryz.prog w base spare held n 27 [c] = some x) : ∃ l, Sl rOp w w.heap.size c l :=
  sl_of_trod (R := rOp) (e := 46) (by kernel_rfl) (by kernel_rfl) (by decide) (fun _ _ _ hl hy => op_trod hl hy) h
theorem ops_Trod {v : Value} {d : DataW H} {p : List MemPlace} {A : Option Addr} {n c : Nat} (hv : v = .slice A n c) (h : DataW.Trod enc Tryz.prog w base spare held 27 v d p) : ∃ l, Sl rOp w w.heap.size v l := by
  subst hv
  obtain ⟨fuel, hf⟩ := h
  exact ops_trod hf
end
end Go.Proofs.YteiboodeepjanaaGreat
