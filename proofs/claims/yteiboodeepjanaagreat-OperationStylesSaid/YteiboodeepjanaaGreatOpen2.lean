/- Arguments of the laws: styles, as they came in. -/
import Derived.Test.YteiboodeepjanaaGreatOpen
namespace Go.Proofs.YteiboodeepjanaaGreat
open Go.ChangeShapes Go.WideShapes Go.ChangeAt Go.RowKit
section
variable {H : Type} {enc : TypeId × Value → H} {P : Program} {w : World} {base : Nat} {spare : Nat → Bool} {held : Bool}
/-- The type of a field of k cells, at its place. -/
def fieldK (P : Program) (e : TypeId) (i o k : Nat) : Option TypeId := match P.underlying e with
  | some (.struct fs) => match fs[i]? with
    | some f => bif Nat.beq f.offset o && Nat.beq (P.cellsOf f.type) k then some f.type else none
    | none => none
  | _ => none
theorem fieldK_trod {e ft : TypeId} {i o k n : Nat} {cs ds : List Value} {x : DataW H × List MemPlace} (h : DataW.trod enc P w base spare held n e cs = some x) (hf : fieldK P e i o k = some ft) (hc : (cs.drop o).take k = ds) :
    ∃ m y, DataW.trod enc P w base spare held m ft ds = some y := by
  unfold fieldK at hf
  split at hf
  · rename_i fs hu
    split at hf
    · rename_i f hfi
      cases hb : (Nat.beq f.offset o && Nat.beq (P.cellsOf f.type) k) with
      | false => rw [hb] at hf; cases hf
      | true =>
        rw [hb] at hf
        simp only [cond_true, Option.some.injEq] at hf
        subst hf
        rw [Bool.and_eq_true] at hb
        have h1 : f.offset = o := Nat.eq_of_beq_eq_true hb.1
        have h2 : P.cellsOf f.type = k := Nat.eq_of_beq_eq_true hb.2
        obtain ⟨xs, m, _, _, _, hlen, hg⟩ := DataW.trod_struct hu h
        have h3 := hg i f hfi
        have hi : i < fs.size := (Array.getElem?_eq_some_iff.1 hfi).1
        rw [h1, h2, List.getElem?_eq_getElem (by omega), hc] at h3
        exact ⟨m, _, h3⟩
    · cases hf
  · cases hf
end
section
variable {H : Type} {enc : TypeId × Value → H} {w : World} {base : Nat} {spare : Nat → Bool} {held : Bool}
theorem strs_trod {n : Nat} {c : Value} {x : DataW H × List MemPlace} (h : DataW.trod enc Tryz.prog w base spare held n 22 [c] = some x) : ∃ l, Sl rStr w w.heap.size c l :=
  sl_of_trod (R := rStr) (e := 9) (by kernel_rfl) (by kernel_rfl) (by decide) (fun _ cs _ hl hy => by
    match cs, hl with
    | [c0], _ =>
      obtain ⟨s, rfl, hs⟩ := str_trod (by kernel_rfl) hy
      exact ⟨s, rfl, hs⟩) h
theorem spots_trod {n : Nat} {c : Value} {x : DataW H × List MemPlace} (h : DataW.trod enc Tryz.prog w base spare held n 58 [c] = some x) : ∃ l, Sl rSpot w w.heap.size c l :=
  sl_of_trod (R := rSpot) (e := 69) (by kernel_rfl) (by kernel_rfl) (by decide) (fun _ cs _ hl hy => by
    match cs, hl with
    | [c0, c1], _ =>
      obtain ⟨_, _, h0⟩ := field_trod (i := 0) (ft := 3) hy (by kernel_rfl) rfl
      obtain ⟨_, _, h1⟩ := field_trod (i := 1) (ft := 3) hy (by kernel_rfl) rfl
      obtain ⟨i0, rfl, hi0⟩ := int_trod (by kernel_rfl) h0
      obtain ⟨i1, rfl, hi1⟩ := int_trod (by kernel_rfl) h1
      exact ⟨(i0, i1), rfl, hi0, hi1⟩) h
theorem notches_trod {n : Nat} {c : Value} {x : DataW H × List MemPlace} (h : DataW.trod enc Tryz.prog w base spare held n 57 [c] = some x) : ∃ l, Sl rSpot w w.heap.size c l :=
  sl_of_trod (R := rSpot) (e := 112) (by kernel_rfl) (by kernel_rfl) (by decide) (fun _ cs _ hl hy => by
    match cs, hl with
    | [c0, c1], _ =>
      obtain ⟨_, _, h0⟩ := field_trod (i := 0) (ft := 3) hy (by kernel_rfl) rfl
      obtain ⟨_, _, h1⟩ := field_trod (i := 1) (ft := 3) hy (by kernel_rfl) rfl
      obtain ⟨i0, rfl, hi0⟩ := int_trod (by kernel_rfl) h0
      obtain ⟨i1, rfl, hi1⟩ := int_trod (by kernel_rfl) h1
      exact ⟨(i0, i1), rfl, hi0, hi1⟩) h
theorem edges_trod {n : Nat} {c : Value} {x : DataW H × List MemPlace} (h : DataW.trod enc Tryz.prog w base spare held n 56 [c] = some x) : ∃ l, Sl rEdge w w.heap.size c l :=
  sl_of_trod (R := rEdge) (e := 71) (by kernel_rfl) (by kernel_rfl) (by decide) (fun _ cs _ hl hy => by
    match cs, hl with
    | [c0, c1], _ =>
      obtain ⟨_, _, h0⟩ := field_trod (i := 0) (ft := 9) hy (by kernel_rfl) rfl
      obtain ⟨_, _, h1⟩ := field_trod (i := 1) (ft := 58) hy (by kernel_rfl) rfl
      obtain ⟨s, rfl, hs⟩ := str_trod (by kernel_rfl) h0
      obtain ⟨l, hl⟩ := spots_trod h1
      exact ⟨(s, l), c1, rfl, hs, hl⟩) h
theorem piece_trod {n : Nat} {cs : List Value} {x : DataW H × List MemPlace} (hl : cs.length = 7) (h : DataW.trod enc Tryz.prog w base spare held n 60 cs = some x) : ∃ o, rPiece.rep w (fun b => b < w.heap.size) o cs := by
  match cs, hl with
  | [c0, c1, c2, c3, c4, c5, c6], _ =>
    obtain ⟨_, _, h0⟩ := field_trod (i := 0) (ft := 9) h (by kernel_rfl) rfl
    obtain ⟨_, _, h1⟩ := field_trod (i := 1) (ft := 56) h (by kernel_rfl) rfl
    obtain ⟨_, _, h2⟩ := field_trod (i := 2) (ft := 3) h (by kernel_rfl) rfl
    obtain ⟨_, _, h3⟩ := field_trod (i := 3) (ft := 57) h (by kernel_rfl) rfl
    obtain ⟨_, _, h4⟩ := field_trod (i := 4) (ft := 58) h (by kernel_rfl) rfl
    obtain ⟨_, _, h5⟩ := field_trod (i := 5) (ft := 23) h (by kernel_rfl) rfl
    obtain ⟨_, _, h6⟩ := field_trod (i := 6) (ft := 4) h (by kernel_rfl) rfl
    obtain ⟨s, rfl, hs⟩ := str_trod (by kernel_rfl) h0
    obtain ⟨le, he⟩ := edges_trod h1
    obtain ⟨i2, rfl, hi2⟩ := int_trod (by kernel_rfl) h2
    obtain ⟨ln, hn⟩ := notches_trod h3
    obtain ⟨lc, hc⟩ := spots_trod h4
    obtain ⟨lw, hw⟩ := ints23 h5
    obtain ⟨b6, rfl⟩ := bool_trod (by kernel_rfl) h6
    obtain ⟨Ae, ce, rfl, _⟩ := len_small he
    obtain ⟨An, cn, rfl, _⟩ := len_small hn
    obtain ⟨Ac, cc, rfl, _⟩ := len_small hc
    obtain ⟨Aw, cw, rfl, _⟩ := len_small hw
    exact ⟨⟨s, le, i2, ln, lc, lw, b6⟩, Ae, ce, An, cn, Ac, cc, Aw, cw, rfl, ⟨hs, hi2⟩, he, hn, hc, hw⟩
theorem use_trod {n : Nat} {cs : List Value} {x : DataW H × List MemPlace} (hl : cs.length = 3) (h : DataW.trod enc Tryz.prog w base spare held n 63 cs = some x) : ∃ o, rUse.rep w (fun b => b < w.heap.size) o cs := by
  match cs, hl with
  | [c0, c1, c2], _ =>
    obtain ⟨_, _, h0⟩ := field_trod (i := 0) (ft := 3) h (by kernel_rfl) rfl
    obtain ⟨_, _, h1⟩ := field_trod (i := 1) (ft := 3) h (by kernel_rfl) rfl
    obtain ⟨_, _, h2⟩ := field_trod (i := 2) (ft := 4) h (by kernel_rfl) rfl
    obtain ⟨i0, rfl, hi0⟩ := int_trod (by kernel_rfl) h0
    obtain ⟨i1, rfl, hi1⟩ := int_trod (by kernel_rfl) h1
    obtain ⟨b2, rfl⟩ := bool_trod (by kernel_rfl) h2
    exact ⟨(i0, i1, b2), rfl, hi0, hi1⟩
theorem seam_trod {n : Nat} {cs : List Value} {x : DataW H × List MemPlace} (hl : cs.length = 6) (h : DataW.trod enc Tryz.prog w base spare held n 65 cs = some x) : ∃ o, rSeam.rep w (fun b => b < w.heap.size) o cs := by
  match cs, hl with
  | [c0, c1, c2, c3, c4, c5], _ =>
    obtain ⟨_, _, h0⟩ := field_trod (i := 0) (ft := 3) h (by kernel_rfl) rfl
    obtain ⟨_, _, h1⟩ := field_trod (i := 1) (ft := 3) h (by kernel_rfl) rfl
    obtain ⟨_, _, h2⟩ := field_trod (i := 2) (ft := 3) h (by kernel_rfl) rfl
    obtain ⟨_, _, h3⟩ := field_trod (i := 3) (ft := 3) h (by kernel_rfl) rfl
    obtain ⟨_, _, h4⟩ := field_trod (i := 4) (ft := 4) h (by kernel_rfl) rfl
    obtain ⟨_, _, h5⟩ := field_trod (i := 5) (ft := 3) h (by kernel_rfl) rfl
    obtain ⟨i0, rfl, hi0⟩ := int_trod (by kernel_rfl) h0
    obtain ⟨i1, rfl, hi1⟩ := int_trod (by kernel_rfl) h1
    obtain ⟨i2, rfl, hi2⟩ := int_trod (by kernel_rfl) h2
    obtain ⟨i3, rfl, hi3⟩ := int_trod (by kernel_rfl) h3
    obtain ⟨b4, rfl⟩ := bool_trod (by kernel_rfl) h4
    obtain ⟨i5, rfl, hi5⟩ := int_trod (by kernel_rfl) h5
    exact ⟨(i0, i1, i2, i3, b4, i5), rfl⟩
theorem sty_trod {n : Nat} {cs : List Value} {x : DataW H × List MemPlace} (hl : cs.length = 7) (h : DataW.trod enc Tryz.prog w base spare held n 29 cs = some x) : ∃ s, StyV w w.heap.size (.agg cs.toArray) s := by
  match cs, hl with
  | [c0, c1, c2, c3, c4, c5, c6], _ =>
    obtain ⟨_, _, h0⟩ := field_trod (i := 0) (ft := 9) h (by kernel_rfl) rfl
    obtain ⟨_, _, h1⟩ := field_trod (i := 1) (ft := 22) h (by kernel_rfl) rfl
    obtain ⟨_, _, h2⟩ := field_trod (i := 2) (ft := 23) h (by kernel_rfl) rfl
    obtain ⟨_, _, h3⟩ := field_trod (i := 3) (ft := 24) h (by kernel_rfl) rfl
    obtain ⟨_, _, h4⟩ := field_trod (i := 4) (ft := 25) h (by kernel_rfl) rfl
    obtain ⟨_, _, h5⟩ := field_trod (i := 5) (ft := 26) h (by kernel_rfl) rfl
    obtain ⟨_, _, h6⟩ := field_trod (i := 6) (ft := 27) h (by kernel_rfl) rfl
    obtain ⟨s, rfl, hs⟩ := str_trod (by kernel_rfl) h0
    obtain ⟨l1, k1⟩ := strs_trod h1
    obtain ⟨l2, k2⟩ := ints23 h2
    obtain ⟨l3, k3⟩ := sl_of_trod (R := rPiece) (e := 60) (by kernel_rfl) (by kernel_rfl) (by decide) (fun _ _ _ hl hy => piece_trod hl hy) h3
    obtain ⟨l4, k4⟩ := sl_of_trod (R := rUse) (e := 63) (by kernel_rfl) (by kernel_rfl) (by decide) (fun _ _ _ hl hy => use_trod hl hy) h4
    obtain ⟨l5, k5⟩ := sl_of_trod (R := rSeam) (e := 65) (by kernel_rfl) (by kernel_rfl) (by decide) (fun _ _ _ hl hy => seam_trod hl hy) h5
    obtain ⟨l6, k6⟩ := ops_trod h6
    obtain ⟨A1, d1, rfl, _⟩ := len_small k1
    obtain ⟨A2, d2, rfl, _⟩ := len_small k2
    obtain ⟨A3, d3, rfl, _⟩ := len_small k3
    obtain ⟨A4, d4, rfl, _⟩ := len_small k4
    obtain ⟨A5, d5, rfl, _⟩ := len_small k5
    obtain ⟨A6, d6, rfl, _⟩ := len_small k6
    exact ⟨⟨s, l1, l2, l3, l4, l5, l6⟩, A1, d1, A2, d2, A3, d3, A4, d4, A5, d5, A6, d6, rfl, hs, k1, k2, k3, k4, k5, k6⟩
theorem sty_Trod {v : Value} {d : DataW H} {p : List MemPlace} {cs : Array Value} (hv : v = .agg cs) (hn : cs.size = 7) (h : DataW.Trod enc Tryz.prog w base spare held 29 v d p) : ∃ s, StyV w w.heap.size v s := by
  subst hv
  obtain ⟨fuel, hf⟩ := h
  exact sty_trod (cs := cs.toList) (by simpa using hn) hf
end
end Go.Proofs.YteiboodeepjanaaGreat
