/- Arguments that came in, read as lists and structs. No program in sight. -/
import Derived.Test.YteiboodeepjanaaGreatFwH
import Derived.Deep.Slices
import Derived.WalkKit
import Derived.ProofKit
import Derived.OpenShut
import Derived.ShutString
import Derived.ChangeOld
namespace Go.Proofs.YteiboodeepjanaaGreat
open Go.ChangeShapes Go.WideShapes Go.ChangeAt Go.RowKit

theorem list_choose {α : Type} {Q : Nat → α → Prop} : ∀ n, (∀ i, i < n → ∃ x, Q i x) → ∃ l : List α, l.length = n ∧ ∀ k (hk : k < l.length), Q k l[k]
  | 0, _ => ⟨[], rfl, fun k hk => by cases hk⟩
  | n + 1, h => by
    obtain ⟨l, hl, hq⟩ := list_choose n fun i hi => h i (by omega)
    obtain ⟨x, hx⟩ := h n (by omega)
    refine ⟨l ++ [x], by simp [hl], fun k hk => ?_⟩
    by_cases hkl : k < l.length
    · rw [List.getElem_append_left hkl]; exact hq k hkl
    · have : k = n := by simp at hk; omega
      subst this
      rw [List.getElem_append_right (by omega)]
      simp [hl]
      exact hx
theorem cell_lt {w : World} {a : Addr} {u : Value} (h : w.cell? a = some u) : a.block < w.heap.size := by
  unfold World.cell? at h
  split at h
  · rename_i hh; exact (Array.getElem?_eq_some_iff.1 hh).1
  · cases h
theorem wf64 {n : Int} (h : (Lit.int .i64 n).wf = true) : inI64 n := by
  unfold Lit.wf at h
  simp only [Bool.and_eq_true, decide_eq_true_eq] at h
  exact h

section
variable {H : Type} {enc : TypeId × Value → H} {P : Program} {w : World} {base : Nat} {spare : Nat → Bool} {held : Bool}
theorem sl_of_trod {α : Type} {R : Rp α} {t e : TypeId} {fuel : Nat} {v : Value} {x : DataW H × List MemPlace} (ht : P.underlying t = some (.slice e)) (hC : P.cellsOf e = R.size) (hpos : 0 < R.size)
    (hel : ∀ (n : Nat) (cs : List Value) (y : DataW H × List MemPlace), cs.length = R.size → DataW.trod enc P w base spare held n e cs = some y → ∃ z, R.rep w (fun b => b < w.heap.size) z cs) (h : DataW.trod enc P w base spare held fuel t [v] = some x) :
    ∃ l, Sl R w w.heap.size v l := by
  rcases Go.Deep.open_slice ht h with ⟨hcs, _⟩ | ⟨a, len, cap, m, n, D, Pl, hcs, _, hl, hm, hmm, _, hi⟩
  · injection hcs with hv
    subst hv
    exact ⟨[], none, 0, rfl, Nat.le_refl _, Nat.zero_le _, fun k hk => by cases hk⟩
  · injection hcs with hv
    subst hv
    have hlm : len ≤ m := by rw [hmm]; split <;> omega
    obtain ⟨l, hll, hq⟩ := list_choose (Q := fun i z => a.block < w.heap.size ∧ ∃ cs, (∀ j u, cs[j]? = some u → w.cell? (a.add (i * R.size + j)) = some u) ∧ R.rep w (fun b => b < w.heap.size) z cs) len fun i hilt => by
      obtain ⟨cs', hc, htr⟩ := hi i (by omega)
      obtain ⟨_, hcl, hat⟩ := World.cells?_some hc
      rw [hC] at hc hcl hat
      obtain ⟨z, hz⟩ := hel n cs' _ hcl htr
      have hcell : ∀ j u, cs'[j]? = some u → w.cell? (a.add (i * R.size + j)) = some u := fun j u hu => by
        have hj : j < cs'.length := (List.getElem?_eq_some_iff.1 hu).1
        rw [← add_add, hat j (by omega), hu]
      refine ⟨z, ?_, cs', hcell, hz⟩
      have h0 := hcell 0 _ (List.getElem?_eq_getElem (by omega))
      have := cell_lt h0
      rwa [add_block] at this
    subst hll
    refine ⟨l, some a, cap, rfl, hl, hm, fun k hk => ?_⟩
    obtain ⟨hb, cs, hc, hr⟩ := hq k hk
    exact ⟨a, cs, rfl, hb, hc, hr⟩

/-- The type of a field that is one cell, at its place. -/
def fieldT (P : Program) (e : TypeId) (i : Nat) : Option TypeId := match P.underlying e with
  | some (.struct fs) => match fs[i]? with
    | some f => bif Nat.beq f.offset i && Nat.beq (P.cellsOf f.type) 1 then some f.type else none
    | none => none
  | _ => none
theorem field_trod {e ft : TypeId} {i n : Nat} {cs : List Value} {x : DataW H × List MemPlace} {c : Value} (h : DataW.trod enc P w base spare held n e cs = some x) (hf : fieldT P e i = some ft) (hc : cs[i]? = some c) :
    ∃ m y, DataW.trod enc P w base spare held m ft [c] = some y := by
  unfold fieldT at hf
  split at hf
  · rename_i fs hu
    split at hf
    · rename_i f hfi
      cases hb : (Nat.beq f.offset i && Nat.beq (P.cellsOf f.type) 1) with
      | false => rw [hb] at hf; cases hf
      | true =>
        rw [hb] at hf
        simp only [cond_true, Option.some.injEq] at hf
        subst hf
        rw [Bool.and_eq_true] at hb
        have h1 : f.offset = i := Nat.eq_of_beq_eq_true hb.1
        have h2 : P.cellsOf f.type = 1 := Nat.eq_of_beq_eq_true hb.2
        obtain ⟨xs, m, _, _, _, hlen, hg⟩ := DataW.trod_struct hu h
        have h3 := hg i f hfi
        have hi : i < fs.size := (Array.getElem?_eq_some_iff.1 hfi).1
        rw [h1, h2, List.getElem?_eq_getElem (by omega)] at h3
        have h4 : (cs.drop i).take 1 = [c] := by
          obtain ⟨hlt, hget⟩ := List.getElem?_eq_some_iff.1 hc
          rw [List.drop_eq_getElem_cons hlt, hget]
          rfl
        rw [h4] at h3
        exact ⟨m, _, h3⟩
    · cases hf
  · cases hf
theorem int_trod {t : TypeId} {n : Nat} {c : Value} {x : DataW H × List MemPlace} (ht : P.underlying t = some (.int .i64)) (h : DataW.trod enc P w base spare held n t [c] = some x) : ∃ i, c = .int .i64 i ∧ inI64 i := by
  obtain ⟨i, hc, _, hw⟩ := DataW.trod_int ht h
  injection hc with hc
  exact ⟨i, hc, wf64 hw⟩
theorem str_trod {t : TypeId} {n : Nat} {c : Value} {x : DataW H × List MemPlace} (ht : P.underlying t = some .string) (h : DataW.trod enc P w base spare held n t [c] = some x) : ∃ s : ByteArray, c = .string s ∧ s.size ≤ maxLen := by
  obtain ⟨i, hc, _, hw⟩ := DataW.trod_string ht h
  injection hc with hc
  exact ⟨i, hc, hw⟩
theorem bool_trod {t : TypeId} {n : Nat} {c : Value} {x : DataW H × List MemPlace} (ht : P.underlying t = some .bool) (h : DataW.trod enc P w base spare held n t [c] = some x) : ∃ b, c = .bool b := by
  obtain ⟨i, hc, _⟩ := DataW.trod_bool ht h
  injection hc with hc
  exact ⟨i, hc⟩
theorem ints_trod {t e : TypeId} {n : Nat} {c : Value} {x : DataW H × List MemPlace} (ht : P.underlying t = some (.slice e)) (he : P.underlying e = some (.int .i64)) (hC : P.cellsOf e = 1) (h : DataW.trod enc P w base spare held n t [c] = some x) :
    ∃ l, Sl rInt w w.heap.size c l :=
  sl_of_trod (R := rInt) ht hC (by decide) (fun n cs y hl hy => by
    obtain ⟨i, hc, _, hw⟩ := DataW.trod_int he hy
    exact ⟨i, hc, wf64 hw⟩) h
end
end Go.Proofs.YteiboodeepjanaaGreat

/- An empty slice literal. No program in sight. -/
namespace Go.Proofs.YteiboodeepjanaaGreat
open Go.RowKit

theorem run_bslice0 {P : Program} (w : World) (t e : TypeId) (ie : TypeInfo) (hu : P.underlying t = some (.slice e)) (hie : P.info? e = some ie) :
    (Instr.buildSlice t 0 #[]).run P w = .ok (.slice (some ⟨w.heap.size, 0, none⟩) 0 0) (w.alloc (.cells #[] e)) := by
  simp [Instr.buildSlice, run_underlying hu, sizeOf, typeInfo, hie, newRow, Instr.fill]
  have h0 : (Array.range 0).map (fun _ : Nat => (default : Value)) = #[] := Array.eq_empty_of_size_eq_zero (by simp)
  rw [h0]
theorem gw_bslice0 {P : Program} {ops : Array Oper} {Q : Exit → Act → World → Prop} {N : Nat} {w0 : World} {L : List Res} {e : Env} {rest : List Oper} {t el : TypeId} {sz : Nat} [CSlice P t el sz] {d : Nat} {ty : TypeId} {pos : String} {af : Array Edge} {g : Option (Nat × Bool)} (hw : wantedE N ops e ⟨some d, .buildSlice t 0 #[], ty, pos, af, g⟩ = true)
    (k : ∀ b, GW P ops Q N w0 (Box b el #[] :: L) rest (upd e d (.slice (some ⟨b, 0, none⟩) 0 0))) : GW P ops Q N w0 L (⟨some d, .buildSlice t 0 #[], ty, pos, af, g⟩ :: rest) e := ⟨fun w s => by
  have ht := CSlice.h (P := P) (t := t) (el := el) (sz := sz)
  unfold sliceSz at ht
  split at ht
  · rename_i el' hu
    obtain ⟨i, hinfo, heq⟩ := Option.map_eq_some_iff.1 ht
    injection heq with e1 e2
    subst e1 e2
    have hr := run_bslice0 (P := P) w t el' i hu hinfo
    refine wl_run (w' := w.alloc (.cells #[] el')) hw ?_ ((k w.heap.size).h _ (s.box el' _))
    unfold execOp
    simp [hr]
  · cases ht⟩
end Go.Proofs.YteiboodeepjanaaGreat

/- A collection of resources whose number is not known: one is taken out, turned, and put back. No program in sight. -/
namespace Go.Proofs.YteiboodeepjanaaGreat
open Go.RowKit

def Emp : Res := ⟨fun _ => False, fun _ => True, fun _ _ _ _ => trivial⟩
def setR (F : Nat → Res) (i : Nat) (r : Res) : Nat → Res := fun j => if j = i then r else F j
theorem setR_same (F : Nat → Res) (i : Nat) (r : Res) : setR F i r i = r := if_pos rfl
theorem setR_ne (F : Nat → Res) {i j : Nat} (r : Res) (h : ¬ j = i) : setR F i r j = F j := if_neg h
theorem setR_set (F : Nat → Res) (i : Nat) (r q : Res) : setR (setR F i r) i q = setR F i q := by
  funext j
  unfold setR
  split <;> rfl
theorem setR_id (F : Nat → Res) (i : Nat) : setR F i (F i) = F := by
  funext j
  unfold setR
  split
  · rename_i h; rw [h]
  · rfl
/-- The resources F 0, .., F (n-1), which do not meet. -/
def Coll (n : Nat) (F : Nat → Res) : Res where
  fp b := ∃ i, i < n ∧ (F i).fp b
  p w := (∀ i, i < n → (F i).p w) ∧ ∀ i j, i < n → j < n → ¬ i = j → ∀ b, (F i).fp b → ¬ (F j).fp b
  stable w w' h p := ⟨fun i hi => (F i).stable w w' (fun b hb => h b ⟨i, hi, hb⟩) (p.1 i hi), p.2⟩
theorem St.same {w0 w : World} {r q : Res} {L : List Res} (s : St w0 (r :: L) w) (hf : ∀ b, q.fp b → r.fp b) (hp : q.p w) : St w0 (q :: L) w := ⟨s.below, hp, fun b hb => s.sep.2.1 b (hf b hb), fun b hb => s.sep.2.2.1 b (hf b hb), s.sep.2.2.2⟩
theorem coll_nil {F : Nat → Res} {L : List Res} : Ent L (Coll 0 F :: L) := fun w0 w s =>
  ⟨s.below, ⟨fun i hi => absurd hi (Nat.not_lt_zero i), fun i j hi => absurd hi (Nat.not_lt_zero i)⟩, fun b ⟨i, hi, _⟩ => absurd hi (Nat.not_lt_zero i), fun b ⟨i, hi, _⟩ => absurd hi (Nat.not_lt_zero i), s.sep⟩
theorem coll_take {n i : Nat} {F : Nat → Res} {L : List Res} (hi : i < n) : Ent (Coll n F :: L) (F i :: Coll n (setR F i Emp) :: L) := fun w0 w s => by
  obtain ⟨hB, ⟨h1, h2⟩, h3, h4, h5⟩ := s
  have hsub : ∀ b, (Coll n (setR F i Emp)).fp b → ∃ j, j < n ∧ ¬ j = i ∧ (F j).fp b := fun b ⟨j, hj, hb⟩ => by
    by_cases hji : j = i
    · subst hji; rw [setR_same] at hb; exact absurd hb id
    · rw [setR_ne _ _ hji] at hb; exact ⟨j, hj, hji, hb⟩
  refine ⟨hB, h1 i hi, fun b hb => h3 b ⟨i, hi, hb⟩, fun b hb q hq => ?_, ⟨fun j hj => ?_, fun j k hj hk hjk b hb hb' => ?_⟩, fun b hb => ?_, fun b hb => ?_, h5⟩
  · rcases List.mem_cons.1 hq with rfl | hq
    · intro hc
      obtain ⟨j, hj, hji, hjb⟩ := hsub b hc
      exact h2 j i hj hi hji b hjb hb
    · exact h4 b ⟨i, hi, hb⟩ q hq
  · by_cases hji : j = i
    · subst hji; rw [setR_same]; trivial
    · rw [setR_ne _ _ hji]; exact h1 j hj
  · by_cases hji : j = i
    · subst hji; rw [setR_same] at hb; exact hb
    · rw [setR_ne _ _ hji] at hb
      by_cases hki : k = i
      · subst hki; rw [setR_same] at hb'; exact hb'
      · rw [setR_ne _ _ hki] at hb'; exact h2 j k hj hk hjk b hb hb'
  · obtain ⟨j, hj, _, hjb⟩ := hsub b hb; exact h3 b ⟨j, hj, hjb⟩
  · obtain ⟨j, hj, _, hjb⟩ := hsub b hb; exact h4 b ⟨j, hj, hjb⟩
theorem coll_put {n i : Nat} {F : Nat → Res} {r : Res} {L : List Res} (hi : i < n) : Ent (r :: Coll n (setR F i Emp) :: L) (Coll n (setR F i r) :: L) := fun w0 w s => by
  obtain ⟨hB, h1, h2, h3, ⟨g1, g2⟩, g3, g4, g5⟩ := s
  have hin : ∀ j b, j < n → ¬ j = i → (F j).fp b → (Coll n (setR F i Emp)).fp b := fun j b hj hji hb => ⟨j, hj, by rw [setR_ne _ _ hji]; exact hb⟩
  refine ⟨hB, ⟨fun j hj => ?_, fun j k hj hk hjk b hb hb' => ?_⟩, fun b ⟨j, hj, hb⟩ => ?_, fun b ⟨j, hj, hb⟩ q hq => ?_, g5⟩
  · by_cases hji : j = i
    · subst hji; rw [setR_same]; exact h1
    · rw [setR_ne _ _ hji]; have := g1 j hj; rwa [setR_ne _ _ hji] at this
  · by_cases hji : j = i
    · subst hji
      have hkj : ¬ k = j := fun h => hjk h.symm
      rw [setR_same] at hb
      rw [setR_ne _ _ hkj] at hb'
      exact h3 b hb _ List.mem_cons_self (hin k b hk hkj hb')
    · rw [setR_ne _ _ hji] at hb
      by_cases hki : k = i
      · subst hki
        rw [setR_same] at hb'
        exact h3 b hb' _ List.mem_cons_self (hin j b hj hji hb)
      · rw [setR_ne _ _ hki] at hb'
        have := g2 j k hj hk hjk b
        rw [setR_ne _ _ hji, setR_ne _ _ hki] at this
        exact this hb hb'
  · by_cases hji : j = i
    · subst hji; rw [setR_same] at hb; exact h2 b hb
    · rw [setR_ne _ _ hji] at hb; exact g3 b (hin j b hj hji hb)
  · by_cases hji : j = i
    · subst hji; rw [setR_same] at hb; exact h3 b hb q (List.mem_cons_of_mem _ hq)
    · rw [setR_ne _ _ hji] at hb; exact g4 b (hin j b hj hji hb) q hq
theorem coll_push {n : Nat} {F : Nat → Res} {r : Res} {L : List Res} : Ent (r :: Coll n F :: L) (Coll (n + 1) (setR F n r) :: L) := fun w0 w s => by
  obtain ⟨hB, h1, h2, h3, ⟨g1, g2⟩, g3, g4, g5⟩ := s
  refine ⟨hB, ⟨fun j hj => ?_, fun j k hj hk hjk b hb hb' => ?_⟩, fun b ⟨j, hj, hb⟩ => ?_, fun b ⟨j, hj, hb⟩ q hq => ?_, g5⟩
  · by_cases hji : j = n
    · subst hji; rw [setR_same]; exact h1
    · rw [setR_ne _ _ hji]; exact g1 j (by omega)
  · by_cases hji : j = n
    · subst hji
      have hkj : ¬ k = j := fun h => hjk h.symm
      rw [setR_same] at hb
      rw [setR_ne _ _ hkj] at hb'
      exact h3 b hb _ List.mem_cons_self ⟨k, by omega, hb'⟩
    · rw [setR_ne _ _ hji] at hb
      by_cases hki : k = n
      · subst hki
        rw [setR_same] at hb'
        exact h3 b hb' _ List.mem_cons_self ⟨j, by omega, hb⟩
      · rw [setR_ne _ _ hki] at hb'
        exact g2 j k (by omega) (by omega) hjk b hb hb'
  · by_cases hji : j = n
    · subst hji; rw [setR_same] at hb; exact h2 b hb
    · rw [setR_ne _ _ hji] at hb; exact g3 b ⟨j, by omega, hb⟩
  · by_cases hji : j = n
    · subst hji; rw [setR_same] at hb; exact h3 b hb q (List.mem_cons_of_mem _ hq)
    · rw [setR_ne _ _ hji] at hb; exact g4 b ⟨j, by omega, hb⟩ q hq
theorem coll_congr {n : Nat} {F G : Nat → Res} (h : ∀ i, i < n → F i = G i) {L : List Res} : Ent (Coll n F :: L) (Coll n G :: L) := fun w0 w s =>
  s.same (fun b ⟨i, hi, hb⟩ => ⟨i, hi, by rw [h i hi]; exact hb⟩) ⟨fun i hi => by rw [← h i hi]; exact s.head.1 i hi, fun i j hi hj hij b => by rw [← h i hi, ← h j hj]; exact s.head.2 i j hi hj hij b⟩
end Go.Proofs.YteiboodeepjanaaGreat

/- Pointers and nil, arrays that are values. No program in sight. -/
namespace Go.Proofs.YteiboodeepjanaaGreat
open Go.RowKit
section
variable {P : Program} {ops : Array Oper} {N : Nat} {w0 : World} {L L' : List Res} {e : Env} {o : Oper} {t : TypeId} {x y ix : Operand} {a : Addr} {v z : Value} {n m : Nat}
theorem w_nilcheck (hop : o.op = .nilCheck x) (hw : wantedE N ops e o = true) (hx : ev N e x = .pointer (some a)) : Det P ops N w0 L o e (.pointer (some a)) :=
  det_pure hw fun w => by
    unfold execOp
    simp [hop, hx]
theorem w_peqnil {p : Option Addr} {te yt : TypeId} (hu : P.underlying t = some (.pointer te)) (hop : o.op = .binOp .eql t x y yt) (hw : wantedE N ops e o = true) (hx : ev N e x = .pointer p) (hy : ev N e y = .pointer none) : Det P ops N w0 L o e (.bool p.isNone) :=
  det_pure hw fun w => by
    have h : ∀ (d : Nat) (w : World), (Op.equalIn (d + 1) t (.pointer p) (.pointer none)).run P w = .ok p.isNone w := fun d w => by
      cases p <;> simp [Op.equalIn, run_underlying hu]
    unfold execOp
    simp only [hop, hx, hy, eqGuard, binOp]
    simp [Op.equal, Op.maxDepth, h 9999]
theorem w_aidx {el : TypeId} {cs : Array Value} {k : IntKind} {zi : Int} (hu : P.underlying t = some (.array n el)) (he : P.underlying el = some (.int .i64)) (hs : ((P.info? el).map (·.size)) = some 1) (hop : o.op = .index t x ix) (hw : wantedE N ops e o = true) (hx : ev N e x = .agg cs) (hi : ev N e ix = .int k zi) (hz : zi = (m : Int)) (hm : m < n) (hc : cs[m]? = some v) :
    Det P ops N w0 L o e v :=
  det_pure hw fun w => by
    subst hz
    obtain ⟨j, hj, hsz⟩ := Option.map_eq_some_iff.1 hs
    have hp := part_int (P := P) (ft := el) (cs := cs) (off := m) (w := w) he hc
    unfold execOp
    simp [hop, hx, hi, Instr.index, run_underlying hu, asIntOf, hm, sizeOf, typeInfo, hj, hsz, hp]
theorem w_buildA {el : TypeId} {sz : Nat} [CZero P t z] {parts : Array (Nat × Operand)} {cells : Array Value} (hu : P.underlying t = some (.array n el)) (hs : ((P.info? el).map (·.size)) = some sz) (hop : o.op = .build t parts) (hw : wantedE N ops e o = true)
    (hf : Instr.fill (fun i => some (i * sz, sz)) z.cells (parts.toList.map fun q => (q.1, ev N e q.2)) = some cells) : Det P ops N w0 L o e (.agg cells) :=
  det_pure hw fun w => by
    have hz := CZero.h (P := P) (t := t) (z := z)
    obtain ⟨i, hi, hzi⟩ := Option.bind_eq_some_iff.1 hz
    obtain ⟨j, hj, hsz⟩ := Option.map_eq_some_iff.1 hs
    have hparts : (parts.map fun q => (q.1, ev N e q.2)).toList = parts.toList.map fun q => (q.1, ev N e q.2) := by simp
    have hr := run_build (P := P) w t (parts.map fun q => (q.1, ev N e q.2)) cells (by
      unfold Program.built
      simp only [hi, hu, hzi, hj, hparts]
      subst hsz
      exact hf)
    unfold execOp
    simp [hop, hr]
theorem w_buildP {ps : List (Nat × Nat)} [CPlaces P t ps] [CZero P t z] {parts : Array (Nat × Operand)} (vals : List (Nat × Value)) {cells : Array Value} (hf : Instr.fill (fun i => ps[i]?) z.cells vals = some cells) (hop : o.op = .build t parts) (hw : wantedE N ops e o = true)
    (hv : parts.toList.map (fun q => (q.1, ev N e q.2)) = vals) : Det P ops N w0 L o e (.agg cells) := w_build hop hw (by rw [hv]; exact hf)
end
end Go.Proofs.YteiboodeepjanaaGreat

/- Reading what was built: slices over own cells. No program in sight. -/
namespace Go.Proofs.YteiboodeepjanaaGreat
open Go.RowKit
set_option maxRecDepth 100000
set_option maxHeartbeats 2000000

section
variable {P : Program} {ops : Array Oper} {N : Nat} {w0 : World} {L : List Res} {rest : List Oper} {t : TypeId} {x y : Operand} {z : Value} {el sz by_ d : Nat} {ty : TypeId} {pos : String} {af : Array Edge} {g : Option (Nat × Bool)}
variable {X : Type} [Inhabited X] {pl : Nat → List Nat} {tail : ((Nat → X) → Env) → (Nat → (Nat → X) → List Res) → Prop} {i : Nat} {E : (Nat → X) → Env} {RL : Nat → (Nat → X) → List Res}
theorem gb_makeN [CSlice P t el sz] [CZero P el z] [CBytes P el by_] {n : Nat} {kl kc : IntKind} {l c : Int} {cells : Array Value} (inj : Nat → X) (bk : X → Nat) (hbk : ∀ b, bk (inj b) = b) (hw : ∀ γ, wantedE N ops (E γ) ⟨some d, .makeSlice t x y, ty, pos, af, g⟩ = true)
    (hx : ∀ γ, ev N (E γ) x = .int kl l) (hy : ∀ γ, ev N (E γ) y = .int kc c) (hl : l = (n : Int)) (hc : c = (n : Int)) (hb : by_ * n ≤ 281474976710656) (hn : n ≤ 9223372036854775807) (hm : madeCells z.cells (n * sz) = cells)
    (k : GB P ops N w0 L pl tail (i + 1) rest (fun β => upd (E β) d (.slice (some ⟨bk (β i), 0, none⟩) n n)) (fun j β => bif Nat.beq j i then [Box (bk (β i)) el cells] else RL j β)) :
    GB P ops N w0 L pl tail i (⟨some d, .makeSlice t x y, ty, pos, af, g⟩ :: rest) E RL := by
  subst hm
  refine gb_make (V := fun _ x => .slice (some ⟨bk x, 0, none⟩) n n) (R := fun _ x => [Box (bk x) el (madeCells z.cells (n * sz))]) (fun γ => ⟨hw γ, fun w s => ?_⟩) (fun _ _ => ⟨rfl, rfl⟩) (fun _ => ⟨rfl, rfl⟩) k
  have ht := CSlice.h (P := P) (t := t) (el := el) (sz := sz)
  have hz := CZero.h (P := P) (t := el) (z := z)
  have hby := CBytes.h (P := P) (t := el) (n := by_)
  unfold sliceSz at ht
  split at ht
  · rename_i el' hu
    obtain ⟨i, hinfo, heq⟩ := Option.map_eq_some_iff.1 ht
    injection heq with h1 h2
    subst h1 h2 hl hc
    obtain ⟨i', hi', hzi⟩ := Option.bind_eq_some_iff.1 hz
    rw [hinfo] at hi'
    injection hi' with hi'
    subst hi'
    unfold bytesB at hby
    rw [hinfo] at hby
    have hby' : i.bytes = by_ := by simpa using hby
    subst hby'
    have hr := run_make (P := P) w t el' i z hu hinfo hzi kl kc n n (by omega) (by omega) (by
      have : ((i.bytes * n : Nat) : Int) ≤ 281474976710656 := by omega
      rwa [Int.natCast_mul] at this) (by omega)
    simp only [Int.toNat_natCast] at hr
    have hr2 : (execOp (ev N (E γ)) ⟨some d, .makeSlice t x y, ty, pos, af, g⟩).run P w = .ok (.value (.slice (some ⟨w.heap.size, 0, none⟩) n n)) (w.alloc (.cells (madeCells z.cells (n * i.size)) el')) := by
      unfold execOp
      simp [hx, hy, hr]
    unfold Step
    rw [hr2]
    exact ⟨ext_alloc w _, inj w.heap.size, by rw [hbk], by rw [hbk]; exact made_box w el' _⟩
  · cases ht
end

/-! ### Reading what was built -/
def RepsFrom {α : Type} (R : Rp α) (w : World) : List α → List Value → Prop
  | [], _ => True
  | x :: l, cs => R.rep w (fun b => b < w.heap.size) x (cs.take R.size) ∧ RepsFrom R w l (cs.drop R.size)
theorem reps_at {α : Type} {R : Rp α} {w : World} : ∀ {l : List α} {cs : List Value}, RepsFrom R w l cs → ∀ k (hk : k < l.length), R.rep w (fun b => b < w.heap.size) l[k] ((cs.drop (k * R.size)).take R.size)
  | x :: l, cs, h, 0, _ => by simpa using h.1
  | x :: l, cs, h, k + 1, hk => by
    have := reps_at h.2 k (by simpa using hk)
    rw [List.drop_drop] at this
    rwa [show R.size + k * R.size = (k + 1) * R.size by rw [Nat.succ_mul]; omega] at this
theorem Sl.ofCells {α : Type} {R : Rp α} {w : World} {b n c : Nat} {cs : Array Value} {ty : TypeId} {l : List α} (hb : w.heap[b]? = some (.cells cs ty (0, 0))) (hn : n = l.length) (hc : n ≤ c) (hc2 : c ≤ 1000) (h : RepsFrom R w l cs.toList) : Sl R w w.heap.size (.slice (some ⟨b, 0, none⟩) n c) l := by
  subst hn
  refine ⟨_, c, rfl, hc, by unfold maxLen; omega, fun k hk => ⟨⟨b, 0, none⟩, _, rfl, (Array.getElem?_eq_some_iff.1 hb).1, fun j u hu => ?_, reps_at h k hk⟩⟩
  rw [add_zero]
  simp only [World.cell?, hb]
  rw [List.getElem?_take] at hu
  split at hu
  · rw [List.getElem?_drop] at hu
    simpa using hu
  · cases hu
theorem Sl.nil {α : Type} (R : Rp α) (w : World) : Sl R w w.heap.size (.slice none 0 0) ([] : List α) := ⟨none, 0, rfl, Nat.le_refl _, Nat.zero_le _, fun k hk => by cases hk⟩

theorem inI {i : Int} (h : decide (-9223372036854775808 ≤ i ∧ i ≤ 9223372036854775807) = true) : inI64 i := by unfold inI64; exact of_decide_eq_true h
theorem row_set {α : Type} (f : α → Value) {l : List α} {m : Nat} (hm : m < l.length) (x : α) : ((l.map f).toArray.toList.take (m * 1) ++ [f x] ++ (l.map f).toArray.toList.drop (m * 1 + 1)).toArray = ((l.set m x).map f).toArray := by
  rw [Nat.mul_one, List.map_set, List.set_eq_take_append_cons_drop, if_pos (by simpa using hm)]
  simp
theorem row_get {α : Type} (f : α → Value) {l : List α} (d : α) {m : Nat} (hm : m < l.length) : (l.map f).toArray[m * 1]? = some (f (l.getD m d)) := by
  simp [hm]
theorem row_make {α : Type} (f : α → Value) (n : Nat) (x : α) : Array.replicate n (f x) = ((List.replicate n x).map f).toArray := by
  rw [List.map_replicate]
  simp
end Go.Proofs.YteiboodeepjanaaGreat

/- Regions that draw their order and hold an operation that changes what the function owns: in whatever order. No program in sight. -/
namespace Go.Proofs.YteiboodeepjanaaGreat
open Go.RowKit

section
variable {X : Type} [Inhabited X] {P : Program} {ops : Array Oper} {Q : Exit → Act → World → Prop} {N : Nat} {w0 : World} {L : List Res} {rest : List Oper} {e : Env} {o : Oper}

/-- What the operation gives is known. -/
def StepG (P : Program) (ρ : Operand → Value) (o : Oper) (w : World) (φ : Value → World → Prop) : Prop :=
  match (execOp ρ o).run P w with
  | .ok (.value v) w' => φ v w'
  | .ok .skip w' => φ undef w'
  | .ok (.enter f args) w' => Ok P f args w' φ
  | _ => False
def setB (ls : Nat → Bool) (i : Nat) : Nat → Bool := fun j => if i = j then true else ls j
theorem StepG.congr {ρ ρ' : Operand → Value} {w : World} {φ : Value → World → Prop} (hs : ∀ cs b, o.op ≠ .select cs b) (h : ∀ x ∈ o.op.operands, ρ x = ρ' x) (k : StepG P ρ o w φ) : StepG P ρ' o w φ := by
  unfold StepG at *
  rwa [← execOp_congr o hs h]
theorem opJ_wpOp {i : Nat} {K : Act → World → Prop} {w : World} {E : Env} {φ : Value → World → Prop} (hi : ops[i]? = some o) (hs : ∀ cs b, o.op ≠ .select cs b)
    (hwt : wantedE N ops E o = true) (hst : StepG P (ev N E) o w φ) (hsame : ∀ t ∈ o.looksAt ops, E t = e t) (k : ∀ v w', φ v w' → K (mk N (updO e o.dst v)) w') : wpOp P ops Q i K (mk N e) w := by
  have hw : wantedE N ops E o = wantedE N ops e o := by
    unfold wantedE
    cases hg : o.guard with
    | none => rfl
    | some g =>
      obtain ⟨j, want⟩ := g
      cases hj : (ops[j]?).bind (·.dst) with
      | none => simp only [hj]
      | some d => simp only [hj, hsame d (looks_guard hg hj)]
  unfold wpOp
  simp only [hi]
  rw [hw] at hwt
  rw [if_pos (by rw [wanted_mk]; exact hwt)]
  refine .inl ?_
  have hstep := StepG.congr (ρ' := ev N e) hs (fun x hx => by
    cases x with
    | tmp t =>
      show (bif Nat.blt t N then E t else undef) = (bif Nat.blt t N then e t else undef)
      rw [hsame t (looks_operand hx)]
    | const v => rfl
    | global g => rfl
    | func f => rfl) hst
  unfold Oper.wp
  rw [mk_eval]
  unfold StepG at hstep
  split at hstep
  · rename_i hr
    rw [hr]
    show K ((mk N e).put o.dst _) _
    rw [mk_put]
    exact k _ _ hstep
  · rename_i hr
    rw [hr]
    show K ((mk N e).put o.dst undef) _
    rw [mk_put]
    exact k _ _ hstep
  · rename_i hr
    rw [hr]
    refine Calls.mono hstep ?_
    rintro y w'' ⟨v, rfl, _, hv⟩
    show K ((mk N e).put o.dst v) w''
    rw [mk_put]
    exact k _ _ hv
  · exact hstep.elim

set_option maxHeartbeats 1000000 in
theorem any_blockJ {k : Nat} {pl : Nat → List Nat} (hok : blockOk ops k pl = true) {e : Env} {V : Nat → (Nat → X) → Value} {J : (Nat → Bool) → (Nat → X) → World → Prop}
    (hop : ∀ (i : Nat) (o : Oper) (ls : Nat → Bool) (β : Nat → X) (w : World), ops[i]? = some o → i < k → ls i = false → (∀ j ∈ pl i, ls j = true) → J ls β w → wantedE N ops (envAt e (ops.toList.take i) (vals pl V i (restr (i :: pl i) β))) o = true ∧
      StepG P (ev N (envAt e (ops.toList.take i) (vals pl V i (restr (i :: pl i) β)))) o w fun v w' => ∃ x, v = V i (setF (restr (i :: pl i) β) i x) ∧ J (setB ls i) (setF β i x) w')
    (htail : ∀ (ls : Nat → Bool) (β : Nat → X) (w : World), (∀ i, i < k → ls i = true) → J ls β w → wpList P ops Q (ops.toList.drop k) (mk N (envAt e (ops.toList.take k) (vals pl V k β))) w) :
    ∀ (fuel : Nat) (listed : Array Bool) (β : Nat → X) (e' : Env) (w : World), listed.size = ops.size → listedCount listed ops.size + fuel = ops.size → (∀ i, k ≤ i → listed.getD i false = false) →
      (∀ i, i < k → listed.getD i false = true → ∀ j ∈ pl i, listed.getD j false = true) →
      (∀ (i : Nat) (o : Oper) (d : Nat), i < k → listed.getD i false = true → ops[i]? = some o → o.dst = some d → e' d = V i (restr (i :: pl i) β)) →
      (∀ t, (∀ (i : Nat) (o : Oper), i < k → listed.getD i false = true → ops[i]? = some o → o.dst ≠ some t) → e' t = e t) →
      J (fun j => listed.getD j false) β w → wpAny P .any ops Q fuel listed (mk N e') w := by
  have hkn : k ≤ ops.size := by
    unfold blockOk at hok
    rw [Bool.and_eq_true] at hok
    exact Nat.le_of_ble_eq_true hok.1
  have huniq : ∀ (i j : Nat) (oi oj : Oper) (d : Nat), i < k → j < k → ops[i]? = some oi → ops[j]? = some oj → oi.dst = some d → oj.dst = some d → i = j := fun i j oi oj d hi hj hoi hoj hdi hdj => by
    have := ((bOk_first (bOk_of hok hoi) hi).dst j d hj (by simp [hoj, hdj])).1
    rcases this with h | h
    · exact h.symm
    · exact absurd hdi h
  have hvget : ∀ (n j : Nat) (β : Nat → X), j < n → (vals pl V n β)[j]? = some (V j (restr (j :: pl j) β)) := fun n j β hj => by
    unfold vals
    rw [List.getElem?_map, List.getElem?_range hj]
    rfl
  have hspec : ∀ i, i ≤ k → ∀ (β : Nat → X) (t : Nat), ((∀ (j : Nat) (oj : Oper), j < i → ops[j]? = some oj → oj.dst ≠ some t) → envAt e (ops.toList.take i) (vals pl V i β) t = e t) ∧
      (∀ (j : Nat) (oj : Oper), j < i → ops[j]? = some oj → oj.dst = some t → envAt e (ops.toList.take i) (vals pl V i β) t = V j (restr (j :: pl j) β)) := fun i hi β t => by
    have hget : ∀ (j : Nat) (oj : Oper), (ops.toList.take i)[j]? = some oj ↔ j < i ∧ ops[j]? = some oj := fun j oj => by
      rw [List.getElem?_take]
      by_cases hji : j < i
      · simp [hji]
      · simp [hji]
    have h := envAt_spec (ops.toList.take i) (vals pl V i β) e t (by simp [vals]; omega) (fun a b oa ob ha hb hda hdb => by
      obtain ⟨ha1, ha2⟩ := (hget a oa).1 ha
      obtain ⟨hb1, hb2⟩ := (hget b ob).1 hb
      exact huniq a b oa ob t (by omega) (by omega) ha2 hb2 hda hdb)
    exact ⟨fun hn => h.1 fun j oj hj => hn j oj ((hget j oj).1 hj).1 ((hget j oj).1 hj).2, fun j oj hji hoj hd => h.2 j oj _ ((hget j oj).2 ⟨hji, hoj⟩) hd (hvget i j β hji)⟩
  -- all of the first k are listed: the rest
  have finish : ∀ (fuel : Nat) (listed : Array Bool) (β : Nat → X) (e' : Env) (w : World), listed.size = ops.size → k + fuel = ops.size → (∀ i, k ≤ i → listed.getD i false = false) → (∀ i, i < k → listed.getD i false = true) →
      (∀ (i : Nat) (o : Oper) (d : Nat), i < k → listed.getD i false = true → ops[i]? = some o → o.dst = some d → e' d = V i (restr (i :: pl i) β)) →
      (∀ t, (∀ (i : Nat) (o : Oper), i < k → listed.getD i false = true → ops[i]? = some o → o.dst ≠ some t) → e' t = e t) →
      J (fun j => listed.getD j false) β w → wpAny P .any ops Q fuel listed (mk N e') w := by
    intro fuel listed β e' w hsz hf hrest hall hval hold s
    have he : e' = envAt e (ops.toList.take k) (vals pl V k β) := by
      funext t
      have hs := hspec k (Nat.le_refl _) β t
      by_cases hex : ∃ (j : Nat) (oj : Oper), j < k ∧ ops[j]? = some oj ∧ oj.dst = some t
      · obtain ⟨j, oj, hj, hoj, hd⟩ := hex
        rw [hval j oj t hj (hall j hj) hoj hd, hs.2 j oj hj hoj hd]
      · rw [hold t fun i oi hi _ hoi hd => hex ⟨i, oi, hi, hoi, hd⟩, hs.1 fun j oj hj hoj hd => hex ⟨j, oj, hj, hoj, hd⟩]
    have hw := htail _ β w (fun i hi => hall i hi) s
    rw [← he] at hw
    refine any_rest' hok fuel k listed _ w (Nat.le_refl _) hf hsz (fun i hi => ?_) hw
    have hi' : i < listed.size := by omega
    by_cases hik : i < k
    · have h1 := hall i hik
      simp only [Array.getD_eq_getD_getElem?, hi', getElem?_pos, Option.getD_some] at h1 ⊢
      rw [h1]; simp [hik]
    · have h1 := hrest i (by omega)
      simp only [Array.getD_eq_getD_getElem?, hi', getElem?_pos, Option.getD_some] at h1 ⊢
      rw [h1]; simp [hik]
  have hsplit : ∀ (listed : Array Bool) (n : Nat), (∀ i, k ≤ i → listed.getD i false = false) → (∀ i, i < k → listed.getD i false = true) → listedCount listed n = min n k := by
    intro listed n h1 h2
    induction n with
    | zero => simp [listedCount]
    | succ n ihn =>
      rw [count_succ, ihn]
      by_cases hnk : n < k
      · rw [h2 n hnk]; simp; omega
      · rw [h1 n (by omega)]; simp; omega
  intro fuel
  induction fuel with
  | zero =>
    intro listed β e' w hsz hcnt hrest hcl hval hold s
    have hall := count_all ops.size (by omega : listedCount listed ops.size = ops.size)
    by_cases hk : k < ops.size
    · have h1 := hall k hk
      rw [hrest k (Nat.le_refl _)] at h1
      cases h1
    · exact finish 0 listed β e' w hsz (by omega) hrest (fun i hi => hall i (by omega)) hval hold s
  | succ fuel ih =>
    intro listed β e' w hsz hcnt hrest hcl hval hold s
    by_cases hfirst : ∃ i, i < k ∧ listed.getD i false = false
    · have hleast : ∃ i, (i < k ∧ listed.getD i false = false) ∧ ∀ j, j < i → j < k → listed.getD j false = true := by
        obtain ⟨n, hn, hmin⟩ := exists_least hfirst
        refine ⟨n, hn, fun j hj hjk => ?_⟩
        cases hb : listed.getD j false with
        | true => rfl
        | false => have := hmin j ⟨hjk, hb⟩; omega
      obtain ⟨i0, ⟨hi0, hun0⟩, hmin⟩ := hleast
      have hi0n : i0 < ops.size := by omega
      have hready0 : i0 ∈ Region.ready .any ops listed := by
        rw [mem_ready]
        refine ⟨?_, _, Array.getElem?_eq_getElem hi0n, fun x hx hb => ?_⟩
        · have : i0 < listed.size := by omega
          simpa [this] using hun0
        · have := bOk_edge (bOk_of hok (Array.getElem?_eq_getElem hi0n)) x hx hb
          exact hmin x.on this (by omega)
      refine ⟨fun h0 => (by rw [h0] at hready0; cases hready0), fun i hi => ?_⟩
      obtain ⟨hun, oi, hoi, hall⟩ := mem_ready.1 hi
      have hilt := (Array.getElem?_eq_some_iff.1 hoi).1
      have hilt' : i < listed.size := by omega
      have hun' : listed.getD i false = false := by simpa [hilt'] using hun
      have hik : i < k := by
        rcases Nat.lt_or_ge i k with h | h
        · exact h
        · rcases bOk_rest (bOk_of hok hoi) (by omega) with ⟨_, h1⟩ | ⟨h1, h2⟩
          · rcases h1 i0 hi0 with h2 | ⟨j', hj', h2, h3⟩
            · have := bindsOn_listed h2 hall
              rw [hun0] at this
              cases this
            · have := hcl j' hj' (bindsOn_listed h2 hall) i0 h3
              rw [hun0] at this
              cases this
          · have := bindsOn_listed h2 hall
            rw [hrest (i - 1) (by omega)] at this
            cases this
      have hB := bOk_first (bOk_of hok hoi) hik
      have hpl : ∀ j ∈ pl i, listed.getD j false = true := fun j hj => by
        rcases (hB.pred j hj).2 with h | ⟨j', h, hjj⟩
        · exact bindsOn_listed h hall
        · have hj' : j' < k := by
            unfold bindsOn at h
            obtain ⟨x, hx, hb⟩ := Array.any_eq_true'.1 h
            simp only [Bool.and_eq_true, beq_iff_eq] at hb
            have := (hB.edge x hx hb.1).1
            omega
          exact hcl j' hj' (bindsOn_listed h hall) j hjj
      have hplt : ∀ j ∈ pl i, j < i := fun j hj => (hB.pred j hj).1
      have hrr : ∀ j ∈ pl i, restr (j :: pl j) (restr (i :: pl i) β) = restr (j :: pl j) β := fun j hj => restr_restr β fun m hm => by
        rcases List.mem_cons.1 hm with rfl | hm
        · exact List.mem_cons_of_mem _ hj
        · exact List.mem_cons_of_mem _ (pl_trans hok i hik j hj m hm)
      have hsame : ∀ t ∈ oi.looksAt ops, envAt e (ops.toList.take i) (vals pl V i (restr (i :: pl i) β)) t = e' t := fun t ht => by
        have hs := hspec i (by omega) (restr (i :: pl i) β) t
        by_cases hex : ∃ (j : Nat) (oj : Oper), j < k ∧ ops[j]? = some oj ∧ oj.dst = some t
        · obtain ⟨j, oj, hj, hoj, hdj⟩ := hex
          have hji := (hB.dst j t hj (by simp [hoj, hdj])).2 ht
          rw [hs.2 j oj (hplt j hji) hoj hdj, hval j oj t hj (hpl j hji) hoj hdj, hrr j hji]
        · rw [hs.1 fun j oj hj hoj hd => hex ⟨j, oj, by omega, hoj, hd⟩, hold t fun j oj hj _ hoj hd => hex ⟨j, oj, hj, hoj, hd⟩]
      have hst := hop i oi (fun j => listed.getD j false) β w hoi hik hun' hpl s
      refine opJ_wpOp (e := e') hoi (bOk_select (bOk_of hok hoi)) hst.1 hst.2 hsame fun v w' hxx => ?_
      obtain ⟨x, rfl, hm⟩ := hxx
      have hset : ∀ j, (listed.setIfInBounds i true).getD j false = if i = j then true else listed.getD j false := fun j => by
        by_cases hij : i = j
        · subst hij; simp [hilt']
        · rw [getD_set_ne false hij, if_neg hij]
      have hri : restr (i :: pl i) (setF β i x) = setF (restr (i :: pl i) β) i x := restr_set List.mem_cons_self
      have hrj : ∀ j, j < k → listed.getD j false = true → restr (j :: pl j) (setF β i x) = restr (j :: pl j) β := fun j hj hl => restr_set_not fun hm => by
        rcases List.mem_cons.1 hm with rfl | hm
        · rw [hun'] at hl; cases hl
        · have := hcl j hj hl i hm
          rw [hun'] at this
          cases this
      refine ih _ (setF β i x) _ w' (by simpa using hsz) ?_ (fun j hj => ?_) (fun j hj hl m hm => ?_) (fun j oj d hj hl hoj hdj => ?_) (fun t ht => ?_) ?_
      · rw [count_set hilt' hun', if_pos hilt]; omega
      · rw [hset, if_neg (by omega)]; exact hrest j hj
      · rw [hset] at hl ⊢
        by_cases hij : i = j
        · subst hij
          split
          · rfl
          · exact hpl m hm
        · rw [if_neg hij] at hl
          split
          · rfl
          · exact hcl j hj hl m hm
      · rw [hset] at hl
        by_cases hij : i = j
        · subst hij
          rw [hoi] at hoj
          injection hoj with hoj
          subst hoj
          rw [hdj, hri]
          show upd e' d _ d = _
          rw [upd_apply, if_pos rfl]
        · rw [if_neg hij] at hl
          have := hval j oj d hj hl hoj hdj
          rw [hrj j hj hl]
          cases hdi : oi.dst with
          | none => exact this
          | some d' =>
            show upd e' d' _ d = _
            rw [upd_apply, if_neg]
            · exact this
            · intro heq
              subst heq
              exact hij (huniq i j oi oj d hik hj hoi hoj hdi hdj)
      · have h1 : e' t = e t := hold t fun j oj hj hl hoj => ht j oj hj (by rw [hset, hl]; split <;> rfl) hoj
        have h2 := ht i oi hik (by rw [hset, if_pos rfl]) hoi
        cases hdi : oi.dst with
        | none => exact h1
        | some d' =>
          show upd e' d' _ t = e t
          rw [upd_apply, if_neg]
          · exact h1
          · intro heq
            exact h2 (by rw [hdi, heq])
      · have hls : (fun j => (listed.setIfInBounds i true).getD j false) = setB (fun j => listed.getD j false) i := funext fun j => hset j
        rw [hls]
        exact hm
    · have hlist : ∀ i, i < k → listed.getD i false = true := fun i hi => by
        cases hb : listed.getD i false with
        | true => rfl
        | false => exact absurd ⟨i, hi, hb⟩ hfirst
      have hcount : listedCount listed ops.size = k := by rw [hsplit listed _ hrest hlist]; omega
      exact finish (fuel + 1) listed β e' w hsz (by omega) hrest hlist hval hold s


/-- A REGION THAT DRAWS: the first k operations in whatever order, under an invariant J of what is held; then the rest. -/
theorem gc_blockJ {id : Nat} {l : List Oper} (X : Type) [Inhabited X] (k : Nat) (pl : Nat → List Nat) (V : Nat → (Nat → X) → Value) (J : (Nat → Bool) → (Nat → X) → World → Prop) (hm : P.follows .mixedOrders = true) (hok : blockOk l.toArray k pl = true)
    (h0 : ∀ w, St w0 L w → J (fun _ => false) (fun _ => default) w)
    (hop : ∀ (i : Nat) (o : Oper) (ls : Nat → Bool) (β : Nat → X) (w : World), l[i]? = some o → i < k → ls i = false → (∀ j ∈ pl i, ls j = true) → J ls β w → wantedE N l.toArray (envAt e (l.take i) (vals pl V i (restr (i :: pl i) β))) o = true ∧
      StepG P (ev N (envAt e (l.take i) (vals pl V i (restr (i :: pl i) β)))) o w fun v w' => ∃ x, v = V i (setF (restr (i :: pl i) β) i x) ∧ J (setB ls i) (setF β i x) w')
    (htail : ∀ (ls : Nat → Bool) (β : Nat → X) (w : World), (∀ i, i < k → ls i = true) → J ls β w → wpList P l.toArray Q (l.drop k) (mk N (envAt e (l.take k) (vals pl V k β))) w) : GC P Q N w0 L (.region id l.toArray true) e := ⟨fun w s => by
  refine wp_region_any hm (any_blockJ (X := X) (V := V) (J := J) (k := k) (pl := pl) (e := e) hok (fun i o ls β w hi => hop i o ls β w (by simpa using hi)) htail l.toArray.size _ (fun _ => default) e _ (by simp) ?_ ?_ ?_ ?_ (fun _ _ => rfl) ?_)
  · have : listedCount (Array.replicate l.toArray.size false) l.toArray.size = 0 := by
      unfold listedCount
      rw [List.length_eq_zero_iff, List.filter_eq_nil_iff]
      intro i _
      by_cases hi : i < l.length <;> simp [hi]
    omega
  · intro i _
    by_cases hi : i < l.length <;> simp [hi]
  · intro i _ hl'
    by_cases hi : i < l.length <;> simp [hi] at hl'
  · intro i o d _ hl'
    by_cases hi : i < l.length <;> simp [hi] at hl'
  · have hf : (fun j => (Array.replicate l.toArray.size false).getD j false) = fun _ => false := by
      funext j
      by_cases hi : j < l.length <;> simp [hi]
    rw [hf]
    exact h0 _ (s.ext (Ext.drawn w _))⟩
theorem stepG_bslice1 {t el sz : Nat} {z v : Value} [CSlice P t el sz] [CZero P el z] {d : Nat} {q : Operand} {ty : TypeId} {pos : String} {af : Array Edge} {g : Option (Nat × Bool)} (hq : ev N e q = v)
    (hv : v.cells.size = sz) (hsz : Nat.ble sz 1000 = true) (hpos : Nat.blt 0 sz = true) {w : World} (s : St w0 L w) :
    StepG P (ev N e) ⟨some d, .buildSlice t 1 #[(0, q)], ty, pos, af, g⟩ w fun u w' => ∃ b, u = .slice (some ⟨b, 0, none⟩) 1 1 ∧ St w0 (Box b el v.cells :: L) w' := by
  have ht := CSlice.h (P := P) (t := t) (el := el) (sz := sz)
  have hz := CZero.h (P := P) (t := el) (z := z)
  unfold sliceSz at ht
  split at ht
  · rename_i el' hu
    obtain ⟨i, hinfo, heq⟩ := Option.map_eq_some_iff.1 ht
    injection heq with e1 e2
    subst e1 e2
    obtain ⟨i', hi', hzi⟩ := Option.bind_eq_some_iff.1 hz
    rw [hinfo] at hi'
    injection hi' with hi'
    subst hi'
    have hle := Nat.le_of_ble_eq_true hsz
    have hp : 0 < i.size := by rw [Nat.blt_eq] at hpos; exact hpos
    have hr := run_buildSlice (P := P) w t el' 1 #[(0, v)] v.cells i z hu hinfo hzi (by omega) (by omega) (fill_one (by simp) hv)
    have hrun2 : (execOp (ev N e) ⟨some d, .buildSlice t 1 #[(0, q)], ty, pos, af, g⟩).run P w = .ok (.value (.slice (some ⟨w.heap.size, 0, none⟩) 1 1)) (w.alloc (.cells v.cells el')) := by
      unfold execOp
      simp [hq, hr]
    unfold StepG
    rw [hrun2]
    exact ⟨w.heap.size, rfl, s.box el' _⟩
  · cases ht
theorem detG {E : Env} {c : Value} {φ : Value → World → Prop} {w : World} (hd : Det P ops N w0 L o E c) (hw : wantedE N ops E o = true) (s : St w0 L w) (k : ∀ w', Ext w w' → φ c w') : wantedE N ops E o = true ∧ StepG P (ev N E) o w φ := by
  refine ⟨hw, ?_⟩
  rcases hd with ⟨_, h⟩ | ⟨h, _⟩
  · have h1 := h w s
    unfold Step at h1
    unfold StepG
    split at h1
    · rename_i v w' hr
      rw [hr]
      show φ v w'
      rw [h1.2]
      exact k _ h1.1
    · rename_i w' hr
      rw [hr]
      show φ undef w'
      rw [h1.2]
      exact k _ h1.1
    · rename_i hr
      rw [hr]
      exact h1.2.mono fun v w' hx hv => by rw [hv]; exact k _ (h1.1.trans hx)
    · exact h1.elim
  · rw [hw] at h; cases h
theorem stepG_append {t el sz : Nat} {z : Value} {by_ : Nat} {x y : Operand} {L' : List Res} [CSlice P t el sz] [CZero P el z] [CBytes P el by_] {n c m c' : Nat} {A B : Option Addr} {d : Nat} {ty : TypeId} {pos : String} {af : Array Edge} {g : Option (Nat × Bool)} {xs news : List Value}
    (hx : ev N e x = .slice A n c) (hy : ev N e y = .slice B m c')
    (hp : Pick L (Own A n c el sz xs) L') (hl : news.length = m * sz) (hB : ∀ w, St w0 L w → 0 < m → ∃ ad, B = some ad ∧ ∀ j u, news[j]? = some u → w.cell? (ad.add j) = some u) (h1 : ∀ u ∈ news, u.oneCell' = true)
    (h63 : n + m ≤ maxLen) (hbytes : (n + m) * by_ ≤ 140737488355328) (hsz : 0 < sz) (hzs : z.cells.size = sz) {w : World} (s : St w0 L w) :
    StepG P (ev N e) ⟨some d, .call { callee := .builtin .append, args := #[x, y], argTypes := #[t, t] }, ty, pos, af, g⟩ w fun u w' => ∃ A' c'', u = .slice A' (n + m) c'' ∧ St w0 (Own A' (n + m) c'' el sz (xs ++ news) :: L') w' := by
  have ht := CSlice.h (P := P) (t := t) (el := el) (sz := sz)
  have hz := CZero.h (P := P) (t := el) (z := z)
  have hby := CBytes.h (P := P) (t := el) (n := by_)
  unfold sliceSz at ht
  split at ht
  · rename_i el' hu
    obtain ⟨i, hinfo, heq⟩ := Option.map_eq_some_iff.1 ht
    injection heq with e1 e2
    subst e1 e2
    obtain ⟨i', hi', hzi⟩ := Option.bind_eq_some_iff.1 hz
    rw [hinfo] at hi'
    injection hi' with hi'
    subst hi'
    unfold bytesB at hby
    rw [hinfo] at hby
    have hby' : i.bytes = by_ := by simpa using hby
    subst hby'
    have s1 := s.pick hp
    have hown : w.ownsRow 0 el' i.size (.slice A n c) n xs := s1.head
    have hrun : ∃ v' w', (Builtin.append_ #[t, t] ty #[.slice A n c, .slice B m c']).run P w = .ok v' w' ∧ w'.ownsRow 0 el' i.size v' (n + m) (xs ++ news) ∧ w.grownBy w' (Value.slice A n c).ownBlock ∧
        (v'.ownBlock = (Value.slice A n c).ownBlock ∨ v'.ownBlock = some w.heap.size) := by
      rcases Nat.eq_zero_or_pos m with h0 | h0
      · subst h0
        have hn : news = [] := List.eq_nil_of_length_eq_zero (by simpa using hl)
        subst hn
        refine ⟨.slice A n c, w, ?_, by simpa using hown, ⟨rfl, rfl, rfl, Nat.le_refl _, fun _ _ _ => rfl⟩, .inl rfl⟩
        rcases hown.2 with ⟨hv, rfl⟩ | ⟨g', cap, cur, hv, _, _, hnc, _⟩
        · injection hv with ha hn hc
          subst ha hc
          cases B <;> simp [Builtin.append_, run_underlying hu, sizeOf, typeInfo, hinfo, Builtin.lenOf, Builtin.firstCells, loadCells, loadCellsFrom]
        · injection hv with ha hn hc
          subst ha hc
          cases B <;> simp [Builtin.append_, run_underlying hu, sizeOf, typeInfo, hinfo, Builtin.lenOf, Builtin.firstCells, hnc, storeCells, loadCells, loadCellsFrom]
      · obtain ⟨ad, rfl, hcells⟩ := hB w s h0
        obtain ⟨v', w', hr, h2, h3, _, h5⟩ := run_append_own_at (P := P) w 0 t ty el' i z i.size i.bytes hu hinfo hzi rfl rfl hzs hsz (.slice A n c) n xs hown ad m c' news hl hcells h1 h63 hbytes (Nat.zero_le _)
        exact ⟨v', w', hr, h2, h3, h5⟩
    obtain ⟨v', w', hr, h2, h3, h4⟩ := hrun
    obtain ⟨A', c'', rfl⟩ : ∃ A' c'', v' = .slice A' (n + m) c'' := by
      rcases h2.2 with ⟨hv, h0⟩ | ⟨g', cap, cur, hv, _⟩
      · exact ⟨none, 0, by rw [hv, h0]⟩
      · exact ⟨_, _, hv⟩
    have hrun2 : (execOp (ev N e) ⟨some d, .call { callee := .builtin .append, args := #[x, y], argTypes := #[t, t] }, ty, pos, af, g⟩).run P w = .ok (.value (.slice A' (n + m) c'')) w' := by
      unfold execOp
      simp [hx, hy, resolve, invoke, builtin, hr]
    unfold StepG
    rw [hrun2]
    refine ⟨A', c'', rfl, s1.turn (r' := Own A' (n + m) c'' el' i.size (xs ++ news)) h3.size h3.os h3.tape h3.output (fun b hb hnb => h3.block b hb fun he => hnb he.symm) h2 fun b hb => ?_⟩
    have hb' : (Value.slice A' (n + m) c'').ownBlock = some b := hb
    rcases h4 with h4 | h4
    · exact .inl (h4.symm.trans hb')
    · rw [h4] at hb'
      injection hb' with hb'
      subst hb'
      exact .inr ⟨Nat.le_refl _, (h2.lt _ h4).2⟩
  · cases ht
theorem StepG.mono {ρ : Operand → Value} {w : World} {φ ψ : Value → World → Prop} (h : StepG P ρ o w φ) (k : ∀ v w', φ v w' → ψ v w') : StepG P ρ o w ψ := by
  unfold StepG at *
  split at h
  · exact k _ _ h
  · exact k _ _ h
  · exact Ok.mono h fun v w' _ hv => k v w' hv
  · exact h.elim
end
end Go.Proofs.YteiboodeepjanaaGreat

