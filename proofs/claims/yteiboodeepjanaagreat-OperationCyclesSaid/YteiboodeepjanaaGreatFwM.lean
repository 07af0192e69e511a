/- Arguments that came in, read as lists and structs. No program in sight. -/
import Derived.Test.YteiboodeepjanaaGreatFwL
import Derived.Deep.Slices
import Derived.WalkKit
import Derived.ProofKit
import Derived.OpenShut
import Derived.ShutString
import Derived.ChangeOld
namespace Go.Proofs.YteiboodeepjanaaGreat
open Go.ChangeShapes Go.WideShapes Go.ChangeAt Go.RowKit

theorem list_choose {α : Type} {Q : Nat → α → Prop} : ∀ n, (∀ i, i < n → ∃ x, Q i x) → ∃ l : List α, l.length = n ∧ ∀ k (hk : k < l.length), Q k l[k]
  | 0, _ => ⟨[], rfl, fun k hk => by cases hk⟩
  | n + 1, h => by
    obtain ⟨l, hl, hq⟩ := list_choose n fun i hi => h i (by omega)
    obtain ⟨x, hx⟩ := h n (by omega)
    refine ⟨l ++ [x], by simp [hl], fun k hk => ?_⟩
    by_cases hkl : k < l.length
    · rw [List.getElem_append_left hkl]; exact hq k hkl
    · have : k = n := by simp at hk; omega
      subst this
      rw [List.getElem_append_right (by omega)]
      simp [hl]
      exact hx
theorem cell_lt {w : World} {a : Addr} {u : Value} (h : w.cell? a = some u) : a.block < w.heap.size := by
  unfold World.cell? at h
  split at h
  · rename_i hh; exact (Array.getElem?_eq_some_iff.1 hh).1
  · cases h
theorem wf64 {n : Int} (h : (Lit.int .i64 n).wf = true) : inI64 n := by
  unfold Lit.wf at h
  simp only [Bool.and_eq_true, decide_eq_true_eq] at h
  exact h

section
variable {H : Type} {enc : TypeId × Value → H} {P : Program} {w : World} {base : Nat} {spare : Nat → Bool} {held : Bool}
theorem sl_of_trod {α : Type} {R : Rp α} {t e : TypeId} {fuel : Nat} {v : Value} {x : DataW H × List MemPlace} (ht : P.underlying t = some (.slice e)) (hC : P.cellsOf e = R.size) (hpos : 0 < R.size)
    (hel : ∀ (n : Nat) (cs : List Value) (y : DataW H × List MemPlace), cs.length = R.size → DataW.trod enc P w base spare held n e cs = some y → ∃ z, R.rep w (fun b => b < w.heap.size) z cs) (h : DataW.trod enc P w base spare held fuel t [v] = some x) :
    ∃ l, Sl R w w.heap.size v l := by
  rcases Go.Deep.open_slice ht h with ⟨hcs, _⟩ | ⟨a, len, cap, m, n, D, Pl, hcs, _, hl, hm, hmm, _, hi⟩
  · injection hcs with hv
    subst hv
    exact ⟨[], none, 0, rfl, Nat.le_refl _, Nat.zero_le _, fun k hk => by cases hk⟩
  · injection hcs with hv
    subst hv
    have hlm : len ≤ m := by rw [hmm]; split <;> omega
    obtain ⟨l, hll, hq⟩ := list_choose (Q := fun i z => a.block < w.heap.size ∧ ∃ cs, (∀ j u, cs[j]? = some u → w.cell? (a.add (i * R.size + j)) = some u) ∧ R.rep w (fun b => b < w.heap.size) z cs) len fun i hilt => by
      obtain ⟨cs', hc, htr⟩ := hi i (by omega)
      obtain ⟨_, hcl, hat⟩ := World.cells?_some hc
      rw [hC] at hc hcl hat
      obtain ⟨z, hz⟩ := hel n cs' _ hcl htr
      have hcell : ∀ j u, cs'[j]? = some u → w.cell? (a.add (i * R.size + j)) = some u := fun j u hu => by
        have hj : j < cs'.length := (List.getElem?_eq_some_iff.1 hu).1
        rw [← add_add, hat j (by omega), hu]
      refine ⟨z, ?_, cs', hcell, hz⟩
      have h0 := hcell 0 _ (List.getElem?_eq_getElem (by omega))
      have := cell_lt h0
      rwa [add_block] at this
    subst hll
    refine ⟨l, some a, cap, rfl, hl, hm, fun k hk => ?_⟩
    obtain ⟨hb, cs, hc, hr⟩ := hq k hk
    exact ⟨a, cs, rfl, hb, hc, hr⟩

/-- The type of a field that is one cell, at its place. -/
def fieldT (P : Program) (e : TypeId) (i : Nat) : Option TypeId := match P.underlying e with
  | some (.struct fs) => match fs[i]? with
    | some f => bif Nat.beq f.offset i && Nat.beq (P.cellsOf f.type) 1 then some f.type else none
    | none => none
  | _ => none
theorem field_trod {e ft : TypeId} {i n : Nat} {cs : List Value} {x : DataW H × List MemPlace} {c : Value} (h : DataW.trod enc P w base spare held n e cs = some x) (hf : fieldT P e i = some ft) (hc : cs[i]? = some c) :
    ∃ m y, DataW.trod enc P w base spare held m ft [c] = some y := by
  unfold fieldT at hf
  split at hf
  · rename_i fs hu
    split at hf
    · rename_i f hfi
      cases hb : (Nat.beq f.offset i && Nat.beq (P.cellsOf f.type) 1) with
      | false => rw [hb] at hf; cases hf
      | true =>
        rw [hb] at hf
        simp only [cond_true, Option.some.injEq] at hf
        subst hf
        rw [Bool.and_eq_true] at hb
        have h1 : f.offset = i := Nat.eq_of_beq_eq_true hb.1
        have h2 : P.cellsOf f.type = 1 := Nat.eq_of_beq_eq_true hb.2
        obtain ⟨xs, m, _, _, _, hlen, hg⟩ := DataW.trod_struct hu h
        have h3 := hg i f hfi
        have hi : i < fs.size := (Array.getElem?_eq_some_iff.1 hfi).1
        rw [h1, h2, List.getElem?_eq_getElem (by omega)] at h3
        have h4 : (cs.drop i).take 1 = [c] := by
          obtain ⟨hlt, hget⟩ := List.getElem?_eq_some_iff.1 hc
          rw [List.drop_eq_getElem_cons hlt, hget]
          rfl
        rw [h4] at h3
        exact ⟨m, _, h3⟩
    · cases hf
  · cases hf
theorem int_trod {t : TypeId} {n : Nat} {c : Value} {x : DataW H × List MemPlace} (ht : P.underlying t = some (.int .i64)) (h : DataW.trod enc P w base spare held n t [c] = some x) : ∃ i, c = .int .i64 i ∧ inI64 i := by
  obtain ⟨i, hc, _, hw⟩ := DataW.trod_int ht h
  injection hc with hc
  exact ⟨i, hc, wf64 hw⟩
theorem str_trod {t : TypeId} {n : Nat} {c : Value} {x : DataW H × List MemPlace} (ht : P.underlying t = some .string) (h : DataW.trod enc P w base spare held n t [c] = some x) : ∃ s : ByteArray, c = .string s ∧ s.size ≤ maxLen := by
  obtain ⟨i, hc, _, hw⟩ := DataW.trod_string ht h
  injection hc with hc
  exact ⟨i, hc, hw⟩
theorem bool_trod {t : TypeId} {n : Nat} {c : Value} {x : DataW H × List MemPlace} (ht : P.underlying t = some .bool) (h : DataW.trod enc P w base spare held n t [c] = some x) : ∃ b, c = .bool b := by
  obtain ⟨i, hc, _⟩ := DataW.trod_bool ht h
  injection hc with hc
  exact ⟨i, hc⟩
theorem ints_trod {t e : TypeId} {n : Nat} {c : Value} {x : DataW H × List MemPlace} (ht : P.underlying t = some (.slice e)) (he : P.underlying e = some (.int .i64)) (hC : P.cellsOf e = 1) (h : DataW.trod enc P w base spare held n t [c] = some x) :
    ∃ l, Sl rInt w w.heap.size c l :=
  sl_of_trod (R := rInt) ht hC (by decide) (fun n cs y hl hy => by
    obtain ⟨i, hc, _, hw⟩ := DataW.trod_int he hy
    exact ⟨i, hc, wf64 hw⟩) h
end
end Go.Proofs.YteiboodeepjanaaGreat
