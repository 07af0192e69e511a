/- Arguments of the laws of chapter 57: tariffs, pays, as they came in; what the package-level variable holds. -/
import Derived.Test.YtbglhkngdagmeaaGreatDoorFwM
import Derived.Test.YtbglhkngdagmeaaGreatDoorW1
import Derived.Lib.LaidTab
import Derived.LaidByTextLater
namespace Go.Proofs.YtbglhkngdagmeaaGreatDoor
open Go.ChangeShapes Go.WideShapes Go.ChangeAt Go.RowKit
section
variable {H : Type} {enc : TypeId × Value → H} {w : World} {base : Nat} {spare : Nat → Bool} {held : Bool}
theorem tariff_trod {n : Nat} {cs : List Value} {x : DataW H × List MemPlace} (hl : cs.length = 2) (h : DataW.trod enc Tryz.prog w base spare held n 23 cs = some x) : ∃ r l, cs = [.int .i64 r, .int .i64 l] ∧ inI64 r ∧ inI64 l := by
  match cs, hl with
  | [c0, c1], _ =>
    obtain ⟨_, _, h0⟩ := field_trod (i := 0) (ft := 3) h (by kernel_rfl) rfl
    obtain ⟨_, _, h1⟩ := field_trod (i := 1) (ft := 3) h (by kernel_rfl) rfl
    obtain ⟨i0, rfl, hi0⟩ := int_trod (by kernel_rfl) h0
    obtain ⟨i1, rfl, hi1⟩ := int_trod (by kernel_rfl) h1
    exact ⟨i0, i1, rfl, hi0, hi1⟩
theorem pay_trod {n : Nat} {cs : List Value} {x : DataW H × List MemPlace} (hl : cs.length = 3) (h : DataW.trod enc Tryz.prog w base spare held n 55 cs = some x) : ∃ o, rPay.rep w (fun b => b < w.heap.size) o cs := by
  match cs, hl with
  | [c0, c1, c2], _ =>
    obtain ⟨_, _, h0⟩ := field_trod (i := 0) (ft := 3) h (by kernel_rfl) rfl
    obtain ⟨_, _, h1⟩ := field_trod (i := 1) (ft := 3) h (by kernel_rfl) rfl
    obtain ⟨_, _, h2⟩ := field_trod (i := 2) (ft := 3) h (by kernel_rfl) rfl
    obtain ⟨i0, rfl, hi0⟩ := int_trod (by kernel_rfl) h0
    obtain ⟨i1, rfl, hi1⟩ := int_trod (by kernel_rfl) h1
    obtain ⟨i2, rfl, hi2⟩ := int_trod (by kernel_rfl) h2
    exact ⟨⟨i0, i1, i2⟩, rfl, hi0, hi1, hi2⟩
theorem pays_Trod {v : Value} {d : DataW H} {p : List MemPlace} {A : Option Addr} {n c : Nat} (hv : v = .slice A n c) (h : DataW.Trod enc Tryz.prog w base spare held 33 v d p) : ∃ l, Sl rPay w w.heap.size v l := by
  subst hv
  obtain ⟨fuel, hf⟩ := h
  exact sl_of_trod (R := rPay) (e := 55) (by kernel_rfl) (by kernel_rfl) (by decide) (fun _ _ _ hl hy => pay_trod hl hy) hf
theorem tariff_Trod {v : Value} {d : DataW H} {p : List MemPlace} {cs : Array Value} (hv : v = .agg cs) (hn : cs.size = 2) (h : DataW.Trod enc Tryz.prog w base spare held 23 v d p) : ∃ r l, v = .agg #[.int .i64 r, .int .i64 l] ∧ inI64 r ∧ inI64 l := by
  subst hv
  obtain ⟨fuel, hf⟩ := h
  obtain ⟨r, l, h1, h2⟩ := tariff_trod (cs := cs.toList) (by simpa using hn) hf
  refine ⟨r, l, ?_, h2⟩
  congr 1
  apply Array.ext'
  exact h1
end
theorem gTab : Tryz.prog.globalNamed "garment/wage.bounds" = some 0 := by kernel_rfl
theorem gTabType : (Tryz.prog.globals[0]?).map (·.type) = some 83 := by kernel_rfl
theorem cellsTab : Tryz.prog.cellsOf 83 = 2 := by kernel_rfl
theorem cellsInt : Tryz.prog.cellsOf 3 = 1 := by kernel_rfl
/-- What the row's list gives. -/
theorem lay_of {W : World} (h : laidMetH Tryz.prog [("garment/wage.bounds", .agg [.lit (.int .i64 100000), .lit (.int .i64 1073741824)])] W) : Lay W := by
  have ht : Lib.TabIs Tryz.prog W "garment/wage.bounds" .i64 [100000, 1073741824] := Lib.tabIs_of_head (rest := []) gTab gTabType (by kernel_rfl) (by kernel_rfl) cellsInt cellsTab h
  have c0 : W.cell? ⟨0, 0, none⟩ = some (.int .i64 100000) := ht.cell gTab 0 (by decide)
  have c1 : W.cell? ⟨0, 1, none⟩ = some (.int .i64 1073741824) := ht.cell gTab 1 (by decide)
  exact ⟨cell_lt c0, c0, c1⟩
end Go.Proofs.YtbglhkngdagmeaaGreatDoor
