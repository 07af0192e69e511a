/- Texts in one file: FwM N1 Tab N2 N5 N6 N7 N8 C2 C3 C4 N3 N4 C5 C6. -/
import Derived.Test.YtafbfldjcikmcaaGreatFL1
import Derived.Deep.Slices
import Derived.WalkKit
import Derived.ProofKit
import Derived.OpenShut
import Derived.ShutString
import Derived.ChangeOld
import Derived.Test.YtafbfldjcikmcaaGreatProg
import Derived.KernelRfl
set_option maxRecDepth 100000
set_option maxHeartbeats 8000000
namespace Go.Proofs.YtafbfldjcikmcaaGreat
open Go.RowKit
open Go.ChangeShapes Go.WideShapes Go.ChangeAt Go.RowKit

theorem list_choose {α : Type} {Q : Nat → α → Prop} : ∀ n, (∀ i, i < n → ∃ x, Q i x) → ∃ l : List α, l.length = n ∧ ∀ k (hk : k < l.length), Q k l[k]
 | 0, _ => ⟨[], rfl, fun k hk => by cases hk⟩
 | n + 1, h => by
  obtain ⟨l, hl, hq⟩ := list_choose n fun i hi => h i (by omega)
  obtain ⟨x, hx⟩ := h n (by omega)
  refine ⟨l ++ [x], by simp [hl], fun k hk => ?_⟩
  by_cases hkl : k < l.length
  ·rw [List.getElem_append_left hkl]; exact hq k hkl
  ·have : k = n := by simp at hk; omega
   subst this
   rw [List.getElem_append_right (by omega)]
   simp [hl]
   exact hx
theorem cell_lt {w : World} {a : Addr} {u : Value} (h : w.cell? a = some u) : a.block < w.heap.size := by
 unfold World.cell? at h
 split at h
 ·rename_i hh; exact (Array.getElem?_eq_some_iff.1 hh).1
 ·cases h
theorem wf64 {n : Int} (h : (Lit.int .i64 n).wf = true) : inI64 n := by
 unfold Lit.wf at h
 simp only [Bool.and_eq_true, decide_eq_true_eq] at h
 exact h

section
variable {H : Type} {enc : TypeId × Value → H} {P : Program} {w : World} {base : Nat} {spare : Nat → Bool} {held : Bool}
theorem sl_of_trod {α : Type} {R : Rp α} {t e : TypeId} {fuel : Nat} {v : Value} {x : DataW H × List MemPlace} (ht : P.underlying t = some (.slice e)) (hC : P.cellsOf e = R.size) (hpos : 0 < R.size)
  (hel : ∀ (n : Nat) (cs : List Value) (y : DataW H × List MemPlace), cs.length = R.size → DataW.trod enc P w base spare held n e cs = some y → ∃ z, R.rep w (fun b => b < w.heap.size) z cs) (h : DataW.trod enc P w base spare held fuel t [v] = some x) :
  ∃ l, Sl R w w.heap.size v l := by
 rcases Go.Deep.open_slice ht h with ⟨hcs, _⟩ | ⟨a, len, cap, m, n, D, Pl, hcs, _, hl, hm, hmm, _, hi⟩
 ·injection hcs with hv
  subst hv
  exact ⟨[], none, 0, rfl, Nat.le_refl _, Nat.zero_le _, fun k hk => by cases hk⟩
 ·injection hcs with hv
  subst hv
  have hlm : len ≤ m := by rw [hmm]; split <;> omega
  obtain ⟨l, hll, hq⟩ := list_choose (Q := fun i z => a.block < w.heap.size ∧ ∃ cs, (∀ j u, cs[j]? = some u → w.cell? (a.add (i * R.size + j)) = some u) ∧ R.rep w (fun b => b < w.heap.size) z cs) len fun i hilt => by
   obtain ⟨cs', hc, htr⟩ := hi i (by omega)
   obtain ⟨_, hcl, hat⟩ := World.cells?_some hc
   rw [hC] at hc hcl hat
   obtain ⟨z, hz⟩ := hel n cs' _ hcl htr
   have hcell : ∀ j u, cs'[j]? = some u → w.cell? (a.add (i * R.size + j)) = some u := fun j u hu => by
    have hj : j < cs'.length := (List.getElem?_eq_some_iff.1 hu).1
    rw [← add_add, hat j (by omega), hu]
   refine ⟨z, ?_, cs', hcell, hz⟩
   have h0 := hcell 0 _ (List.getElem?_eq_getElem (by omega))
   have := cell_lt h0
   rwa [add_block] at this
  subst hll
  refine ⟨l, some a, cap, rfl, hl, hm, fun k hk => ?_⟩
  obtain ⟨hb, cs, hc, hr⟩ := hq k hk
  exact ⟨a, cs, rfl, hb, hc, hr⟩

/-- The type of a field that is one cell, at its place. -/
def fieldT (P : Program) (e : TypeId) (i : Nat) : Option TypeId := match P.underlying e with
 | some (.struct fs) => match fs[i]? with
  | some f => bif Nat.beq f.offset i && Nat.beq (P.cellsOf f.type) 1 then some f.type else none
  | none => none
 | _ => none
theorem field_trod {e ft : TypeId} {i n : Nat} {cs : List Value} {x : DataW H × List MemPlace} {c : Value} (h : DataW.trod enc P w base spare held n e cs = some x) (hf : fieldT P e i = some ft) (hc : cs[i]? = some c) :
  ∃ m y, DataW.trod enc P w base spare held m ft [c] = some y := by
 unfold fieldT at hf
 split at hf
 ·rename_i fs hu
  split at hf
  ·rename_i f hfi
   cases hb : (Nat.beq f.offset i && Nat.beq (P.cellsOf f.type) 1) with
   | false => rw [hb] at hf; cases hf
   | true =>
    rw [hb] at hf
    simp only [cond_true, Option.some.injEq] at hf
    subst hf
    rw [Bool.and_eq_true] at hb
    have h1 : f.offset = i := Nat.eq_of_beq_eq_true hb.1
    have h2 : P.cellsOf f.type = 1 := Nat.eq_of_beq_eq_true hb.2
    obtain ⟨xs, m, _, _, _, hlen, hg⟩ := DataW.trod_struct hu h
    have h3 := hg i f hfi
    have hi : i < fs.size := (Array.getElem?_eq_some_iff.1 hfi).1
    rw [h1, h2, List.getElem?_eq_getElem (by omega)] at h3
    have h4 : (cs.drop i).take 1 = [c] := by
     obtain ⟨hlt, hget⟩ := List.getElem?_eq_some_iff.1 hc
     rw [List.drop_eq_getElem_cons hlt, hget]
     rfl
    rw [h4] at h3
    exact ⟨m, _, h3⟩
  ·cases hf
 ·cases hf
theorem int_trod {t : TypeId} {n : Nat} {c : Value} {x : DataW H × List MemPlace} (ht : P.underlying t = some (.int .i64)) (h : DataW.trod enc P w base spare held n t [c] = some x) : ∃ i, c = .int .i64 i ∧ inI64 i := by
 obtain ⟨i, hc, _, hw⟩ := DataW.trod_int ht h
 injection hc with hc
 exact ⟨i, hc, wf64 hw⟩
theorem str_trod {t : TypeId} {n : Nat} {c : Value} {x : DataW H × List MemPlace} (ht : P.underlying t = some .string) (h : DataW.trod enc P w base spare held n t [c] = some x) : ∃ s : ByteArray, c = .string s ∧ s.size ≤ maxLen := by
 obtain ⟨i, hc, _, hw⟩ := DataW.trod_string ht h
 injection hc with hc
 exact ⟨i, hc, hw⟩
theorem bool_trod {t : TypeId} {n : Nat} {c : Value} {x : DataW H × List MemPlace} (ht : P.underlying t = some .bool) (h : DataW.trod enc P w base spare held n t [c] = some x) : ∃ b, c = .bool b := by
 obtain ⟨i, hc, _⟩ := DataW.trod_bool ht h
 injection hc with hc
 exact ⟨i, hc⟩
theorem ints_trod {t e : TypeId} {n : Nat} {c : Value} {x : DataW H × List MemPlace} (ht : P.underlying t = some (.slice e)) (he : P.underlying e = some (.int .i64)) (hC : P.cellsOf e = 1) (h : DataW.trod enc P w base spare held n t [c] = some x) :
  ∃ l, Sl rInt w w.heap.size c l :=
 sl_of_trod (R := rInt) ht hC (by decide) (fun n cs y hl hy => by
  obtain ⟨i, hc, _, hw⟩ := DataW.trod_int he hy
  exact ⟨i, hc, wf64 hw⟩) h
end

/- An empty slice literal. No program in sight. -/

theorem run_bslice0 {P : Program} (w : World) (t e : TypeId) (ie : TypeInfo) (hu : P.underlying t = some (.slice e)) (hie : P.info? e = some ie) :
  (Instr.buildSlice t 0 #[]).run P w = .ok (.slice (some ⟨w.heap.size, 0, none⟩) 0 0) (w.alloc (.cells #[] e)) := by
 simp [Instr.buildSlice, run_underlying hu, sizeOf, typeInfo, hie, newRow, Instr.fill]
 have h0 : (Array.range 0).map (fun _ : Nat => (default : Value)) = #[] := Array.eq_empty_of_size_eq_zero (by simp)
 rw [h0]
theorem gw_bslice0 {P : Program} {ops : Array Oper} {Q : Exit → Act → World → Prop} {N : Nat} {w0 : World} {L : List Res} {e : Env} {rest : List Oper} {t el : TypeId} {sz : Nat} [CSlice P t el sz] {d : Nat} {ty : TypeId} {pos : String} {af : Array Edge} {g : Option (Nat × Bool)} (hw : wantedE N ops e ⟨some d, .buildSlice t 0 #[], ty, pos, af, g⟩ = true)
  (k : ∀ b, GW P ops Q N w0 (Box b el #[] :: L) rest (upd e d (.slice (some ⟨b, 0, none⟩) 0 0))) : GW P ops Q N w0 L (⟨some d, .buildSlice t 0 #[], ty, pos, af, g⟩ :: rest) e := ⟨fun w s => by
 have ht := CSlice.h (P := P) (t := t) (el := el) (sz := sz)
 unfold sliceSz at ht
 split at ht
 ·rename_i el' hu
  obtain ⟨i, hinfo, heq⟩ := Option.map_eq_some_iff.1 ht
  injection heq with e1 e2
  subst e1 e2
  have hr := run_bslice0 (P := P) w t el' i hu hinfo
  refine wl_run (w' := w.alloc (.cells #[] el')) hw ?_ ((k w.heap.size).h _ (s.box el' _))
  unfold execOp
  simp [hr]
 ·cases ht⟩

/- A collection of resources whose number is not known: one is taken out, turned, and put back. No program in sight. -/

def Emp : Res := ⟨fun _ => False, fun _ => True, fun _ _ _ _ => trivial⟩
def setR (F : Nat → Res) (i : Nat) (r : Res) : Nat → Res := fun j => if j = i then r else F j
theorem setR_same (F : Nat → Res) (i : Nat) (r : Res) : setR F i r i = r := if_pos rfl
theorem setR_ne (F : Nat → Res) {i j : Nat} (r : Res) (h : ¬ j = i) : setR F i r j = F j := if_neg h
/-- The resources F 0, .., F (n-1), which do not meet. -/
def Coll (n : Nat) (F : Nat → Res) : Res where
 fp b := ∃ i, i < n ∧ (F i).fp b
 p w := (∀ i, i < n → (F i).p w) ∧ ∀ i j, i < n → j < n → ¬ i = j → ∀ b, (F i).fp b → ¬ (F j).fp b
 stable w w' h p := ⟨fun i hi => (F i).stable w w' (fun b hb => h b ⟨i, hi, hb⟩) (p.1 i hi), p.2⟩
theorem St.same {w0 w : World} {r q : Res} {L : List Res} (s : St w0 (r :: L) w) (hf : ∀ b, q.fp b → r.fp b) (hp : q.p w) : St w0 (q :: L) w := ⟨s.below, hp, fun b hb => s.sep.2.1 b (hf b hb), fun b hb => s.sep.2.2.1 b (hf b hb), s.sep.2.2.2⟩
theorem coll_nil {F : Nat → Res} {L : List Res} : Ent L (Coll 0 F :: L) := fun _w0 _w s =>
 ⟨s.below, ⟨fun i hi => absurd hi (Nat.not_lt_zero i), fun i _j hi => absurd hi (Nat.not_lt_zero i)⟩, fun _b ⟨i, hi, _⟩ => absurd hi (Nat.not_lt_zero i), fun _b ⟨i, hi, _⟩ => absurd hi (Nat.not_lt_zero i), s.sep⟩
theorem coll_take {n i : Nat} {F : Nat → Res} {L : List Res} (hi : i < n) : Ent (Coll n F :: L) (F i :: Coll n (setR F i Emp) :: L) := fun w0 w s => by
 obtain ⟨hB, ⟨h1, h2⟩, h3, h4, h5⟩ := s
 have hsub : ∀ b, (Coll n (setR F i Emp)).fp b → ∃ j, j < n ∧ ¬ j = i ∧ (F j).fp b := fun b ⟨j, hj, hb⟩ => by
  by_cases hji : j = i
  ·subst hji; rw [setR_same] at hb; exact absurd hb id
  ·rw [setR_ne _ _ hji] at hb; exact ⟨j, hj, hji, hb⟩
 refine ⟨hB, h1 i hi, fun b hb => h3 b ⟨i, hi, hb⟩, fun b hb q hq => ?_, ⟨fun j hj => ?_, fun j k hj hk hjk b hb hb' => ?_⟩, fun b hb => ?_, fun b hb => ?_, h5⟩
 ·rcases List.mem_cons.1 hq with rfl | hq
  ·intro hc
   obtain ⟨j, hj, hji, hjb⟩ := hsub b hc
   exact h2 j i hj hi hji b hjb hb
  ·exact h4 b ⟨i, hi, hb⟩ q hq
 ·by_cases hji : j = i
  ·subst hji; rw [setR_same]; trivial
  ·rw [setR_ne _ _ hji]; exact h1 j hj
 ·by_cases hji : j = i
  ·subst hji; rw [setR_same] at hb; exact hb
  ·rw [setR_ne _ _ hji] at hb
   by_cases hki : k = i
   ·subst hki; rw [setR_same] at hb'; exact hb'
   ·rw [setR_ne _ _ hki] at hb'; exact h2 j k hj hk hjk b hb hb'
 ·obtain ⟨j, hj, _, hjb⟩ := hsub b hb; exact h3 b ⟨j, hj, hjb⟩
 ·obtain ⟨j, hj, _, hjb⟩ := hsub b hb; exact h4 b ⟨j, hj, hjb⟩
theorem coll_put {n i : Nat} {F : Nat → Res} {r : Res} {L : List Res} (hi : i < n) : Ent (r :: Coll n (setR F i Emp) :: L) (Coll n (setR F i r) :: L) := fun w0 w s => by
 obtain ⟨hB, h1, h2, h3, ⟨g1, g2⟩, g3, g4, g5⟩ := s
 have hin : ∀ j b, j < n → ¬ j = i → (F j).fp b → (Coll n (setR F i Emp)).fp b := fun j b hj hji hb => ⟨j, hj, by rw [setR_ne _ _ hji]; exact hb⟩
 refine ⟨hB, ⟨fun j hj => ?_, fun j k hj hk hjk b hb hb' => ?_⟩, fun b ⟨j, hj, hb⟩ => ?_, fun b ⟨j, hj, hb⟩ q hq => ?_, g5⟩
 ·by_cases hji : j = i
  ·subst hji; rw [setR_same]; exact h1
  ·rw [setR_ne _ _ hji]; have := g1 j hj; rwa [setR_ne _ _ hji] at this
 ·by_cases hji : j = i
  ·subst hji
   have hkj : ¬ k = j := fun h => hjk h.symm
   rw [setR_same] at hb
   rw [setR_ne _ _ hkj] at hb'
   exact h3 b hb _ List.mem_cons_self (hin k b hk hkj hb')
  ·rw [setR_ne _ _ hji] at hb
   by_cases hki : k = i
   ·subst hki
    rw [setR_same] at hb'
    exact h3 b hb' _ List.mem_cons_self (hin j b hj hji hb)
   ·rw [setR_ne _ _ hki] at hb'
    have := g2 j k hj hk hjk b
    rw [setR_ne _ _ hji, setR_ne _ _ hki] at this
    exact this hb hb'
 ·by_cases hji : j = i
  ·subst hji; rw [setR_same] at hb; exact h2 b hb
  ·rw [setR_ne _ _ hji] at hb; exact g3 b (hin j b hj hji hb)
 ·by_cases hji : j = i
  ·subst hji; rw [setR_same] at hb; exact h3 b hb q (List.mem_cons_of_mem _ hq)
  ·rw [setR_ne _ _ hji] at hb; exact g4 b (hin j b hj hji hb) q hq
theorem coll_push {n : Nat} {F : Nat → Res} {r : Res} {L : List Res} : Ent (r :: Coll n F :: L) (Coll (n + 1) (setR F n r) :: L) := fun w0 w s => by
 obtain ⟨hB, h1, h2, h3, ⟨g1, g2⟩, g3, g4, g5⟩ := s
 refine ⟨hB, ⟨fun j hj => ?_, fun j k hj hk hjk b hb hb' => ?_⟩, fun b ⟨j, hj, hb⟩ => ?_, fun b ⟨j, hj, hb⟩ q hq => ?_, g5⟩
 ·by_cases hji : j = n
  ·subst hji; rw [setR_same]; exact h1
  ·rw [setR_ne _ _ hji]; exact g1 j (by omega)
 ·by_cases hji : j = n
  ·subst hji
   have hkj : ¬ k = j := fun h => hjk h.symm
   rw [setR_same] at hb
   rw [setR_ne _ _ hkj] at hb'
   exact h3 b hb _ List.mem_cons_self ⟨k, by omega, hb'⟩
  ·rw [setR_ne _ _ hji] at hb
   by_cases hki : k = n
   ·subst hki
    rw [setR_same] at hb'
    exact h3 b hb' _ List.mem_cons_self ⟨j, by omega, hb⟩
   ·rw [setR_ne _ _ hki] at hb'
    exact g2 j k (by omega) (by omega) hjk b hb hb'
 ·by_cases hji : j = n
  ·subst hji; rw [setR_same] at hb; exact h2 b hb
  ·rw [setR_ne _ _ hji] at hb; exact g3 b ⟨j, by omega, hb⟩
 ·by_cases hji : j = n
  ·subst hji; rw [setR_same] at hb; exact h3 b hb q (List.mem_cons_of_mem _ hq)
  ·rw [setR_ne _ _ hji] at hb; exact g4 b ⟨j, by omega, hb⟩ q hq
theorem coll_congr {n : Nat} {F G : Nat → Res} (h : ∀ i, i < n → F i = G i) {L : List Res} : Ent (Coll n F :: L) (Coll n G :: L) := fun w0 w s =>
 s.same (fun b ⟨i, hi, hb⟩ => ⟨i, hi, by rw [h i hi]; exact hb⟩) ⟨fun i hi => by rw [← h i hi]; exact s.head.1 i hi, fun i j hi hj hij b => by rw [← h i hi, ← h j hj]; exact s.head.2 i j hi hj hij b⟩

/- Pointers and nil, arrays that are values. No program in sight. -/
section
variable {P : Program} {ops : Array Oper} {N : Nat} {w0 : World} {L L' : List Res} {e : Env} {o : Oper} {t : TypeId} {x y ix : Operand} {a : Addr} {v z : Value} {n m : Nat}
theorem w_nilcheck (hop : o.op = .nilCheck x) (hw : wantedE N ops e o = true) (hx : ev N e x = .pointer (some a)) : Det P ops N w0 L o e (.pointer (some a)) :=
 det_pure hw fun w => by
  unfold execOp
  simp [hop, hx]
theorem w_peqnil {p : Option Addr} {te yt : TypeId} (hu : P.underlying t = some (.pointer te)) (hop : o.op = .binOp .eql t x y yt) (hw : wantedE N ops e o = true) (hx : ev N e x = .pointer p) (hy : ev N e y = .pointer none) : Det P ops N w0 L o e (.bool p.isNone) :=
 det_pure hw fun w => by
  have h : ∀ (d : Nat) (w : World), (Op.equalIn (d + 1) t (.pointer p) (.pointer none)).run P w = .ok p.isNone w := fun d w => by
   cases p <;> simp [Op.equalIn, run_underlying hu]
  unfold execOp
  simp only [hop, hx, hy, eqGuard, binOp]
  simp [Op.equal, Op.maxDepth, h 9999]
theorem w_buildP {ps : List (Nat × Nat)} [CPlaces P t ps] [CZero P t z] {parts : Array (Nat × Operand)} (vals : List (Nat × Value)) {cells : Array Value} (hf : Instr.fill (fun i => ps[i]?) z.cells vals = some cells) (hop : o.op = .build t parts) (hw : wantedE N ops e o = true)
  (hv : parts.toList.map (fun q => (q.1, ev N e q.2)) = vals) : Det P ops N w0 L o e (.agg cells) := w_build hop hw (by rw [hv]; exact hf)
end

/- Reading what was built: slices over own cells. No program in sight. -/

section
variable {P : Program} {ops : Array Oper} {N : Nat} {w0 : World} {L : List Res} {rest : List Oper} {t : TypeId} {x y : Operand} {z : Value} {el sz by_ d : Nat} {ty : TypeId} {pos : String} {af : Array Edge} {g : Option (Nat × Bool)}
variable {X : Type} [Inhabited X] {pl : Nat → List Nat} {tail : ((Nat → X) → Env) → (Nat → (Nat → X) → List Res) → Prop} {i : Nat} {E : (Nat → X) → Env} {RL : Nat → (Nat → X) → List Res}
theorem gb_makeN [CSlice P t el sz] [CZero P el z] [CBytes P el by_] {n : Nat} {kl kc : IntKind} {l c : Int} {cells : Array Value} (inj : Nat → X) (bk : X → Nat) (hbk : ∀ b, bk (inj b) = b) (hw : ∀ γ, wantedE N ops (E γ) ⟨some d, .makeSlice t x y, ty, pos, af, g⟩ = true)
  (hx : ∀ γ, ev N (E γ) x = .int kl l) (hy : ∀ γ, ev N (E γ) y = .int kc c) (hl : l = (n : Int)) (hc : c = (n : Int)) (hb : by_ * n ≤ 281474976710656) (hn : n ≤ 9223372036854775807) (hm : madeCells z.cells (n * sz) = cells)
  (k : GB P ops N w0 L pl tail (i + 1) rest (fun β => upd (E β) d (.slice (some ⟨bk (β i), 0, none⟩) n n)) (fun j β => bif Nat.beq j i then [Box (bk (β i)) el cells] else RL j β)) :
  GB P ops N w0 L pl tail i (⟨some d, .makeSlice t x y, ty, pos, af, g⟩ :: rest) E RL := by
 subst hm
 refine gb_make (V := fun _ x => .slice (some ⟨bk x, 0, none⟩) n n) (R := fun _ x => [Box (bk x) el (madeCells z.cells (n * sz))]) (fun γ => ⟨hw γ, fun w s => ?_⟩) (fun _ _ => ⟨rfl, rfl⟩) (fun _ => ⟨rfl, rfl⟩) k
 have ht := CSlice.h (P := P) (t := t) (el := el) (sz := sz)
 have hz := CZero.h (P := P) (t := el) (z := z)
 have hby := CBytes.h (P := P) (t := el) (n := by_)
 unfold sliceSz at ht
 split at ht
 ·rename_i el' hu
  obtain ⟨i, hinfo, heq⟩ := Option.map_eq_some_iff.1 ht
  injection heq with h1 h2
  subst h1 h2 hl hc
  obtain ⟨i', hi', hzi⟩ := Option.bind_eq_some_iff.1 hz
  rw [hinfo] at hi'
  injection hi' with hi'
  subst hi'
  unfold bytesB at hby
  rw [hinfo] at hby
  have hby' : i.bytes = by_ := by simpa using hby
  subst hby'
  have hr := run_make (P := P) w t el' i z hu hinfo hzi kl kc n n (by omega) (by omega) (by
   have : ((i.bytes * n : Nat) : Int) ≤ 281474976710656 := by omega
   rwa [Int.natCast_mul] at this) (by omega)
  simp only [Int.toNat_natCast] at hr
  have hr2 : (execOp (ev N (E γ)) ⟨some d, .makeSlice t x y, ty, pos, af, g⟩).run P w = .ok (.value (.slice (some ⟨w.heap.size, 0, none⟩) n n)) (w.alloc (.cells (madeCells z.cells (n * i.size)) el')) := by
   unfold execOp
   simp [hx, hy, hr]
  unfold Step
  rw [hr2]
  exact ⟨ext_alloc w _, inj w.heap.size, by rw [hbk], by rw [hbk]; exact made_box w el' _⟩
 ·cases ht
end

def RepsFrom {α : Type} (R : Rp α) (w : World) : List α → List Value → Prop
 | [], _ => True
 | x :: l, cs => R.rep w (fun b => b < w.heap.size) x (cs.take R.size) ∧ RepsFrom R w l (cs.drop R.size)
theorem reps_at {α : Type} {R : Rp α} {w : World} : ∀ {l : List α} {cs : List Value}, RepsFrom R w l cs → ∀ k (hk : k < l.length), R.rep w (fun b => b < w.heap.size) l[k] ((cs.drop (k * R.size)).take R.size)
 | x :: l, cs, h, 0, _ => by simpa using h.1
 | x :: l, cs, h, k + 1, hk => by
  have := reps_at h.2 k (by simpa using hk)
  rw [List.drop_drop] at this
  rwa [show R.size + k * R.size = (k + 1) * R.size by rw [Nat.succ_mul]; omega] at this
theorem Sl.ofCells {α : Type} {R : Rp α} {w : World} {b n c : Nat} {cs : Array Value} {ty : TypeId} {l : List α} (hb : w.heap[b]? = some (.cells cs ty (0, 0))) (hn : n = l.length) (hc : n ≤ c) (hc2 : c ≤ 1000) (h : RepsFrom R w l cs.toList) : Sl R w w.heap.size (.slice (some ⟨b, 0, none⟩) n c) l := by
 subst hn
 refine ⟨_, c, rfl, hc, by unfold maxLen; omega, fun k hk => ⟨⟨b, 0, none⟩, _, rfl, (Array.getElem?_eq_some_iff.1 hb).1, fun j u hu => ?_, reps_at h k hk⟩⟩
 rw [add_zero]
 simp only [World.cell?, hb]
 rw [List.getElem?_take] at hu
 split at hu
 ·rw [List.getElem?_drop] at hu
  simpa using hu
 ·cases hu
theorem Sl.nil {α : Type} (R : Rp α) (w : World) : Sl R w w.heap.size (.slice none 0 0) ([] : List α) := ⟨none, 0, rfl, Nat.le_refl _, Nat.zero_le _, fun k hk => by cases hk⟩

theorem inI {i : Int} (h : decide (-9223372036854775808 ≤ i ∧ i ≤ 9223372036854775807) = true) : inI64 i := by unfold inI64; exact of_decide_eq_true h
theorem row_set {α : Type} (f : α → Value) {l : List α} {m : Nat} (hm : m < l.length) (x : α) : ((l.map f).toArray.toList.take (m * 1) ++ [f x] ++ (l.map f).toArray.toList.drop (m * 1 + 1)).toArray = ((l.set m x).map f).toArray := by
 rw [Nat.mul_one, List.map_set, List.set_eq_take_append_cons_drop, if_pos (by simpa using hm)]
 simp
theorem row_get {α : Type} (f : α → Value) {l : List α} (d : α) {m : Nat} (hm : m < l.length) : (l.map f).toArray[m * 1]? = some (f (l.getD m d)) := by
 simp [hm]
theorem row_make {α : Type} (f : α → Value) (n : Nat) (x : α) : Array.replicate n (f x) = ((List.replicate n x).map f).toArray := by
 rw [List.map_replicate]
 simp

/- Regions that draw their order and hold an operation that changes what the function owns: in whatever order. No program in sight. -/

section
variable {X : Type} [Inhabited X] {P : Program} {ops : Array Oper} {Q : Exit → Act → World → Prop} {N : Nat} {w0 : World} {L : List Res} {rest : List Oper} {e : Env} {o : Oper}

/-- What the operation gives is known. -/
def StepG (P : Program) (ρ : Operand → Value) (o : Oper) (w : World) (φ : Value → World → Prop) : Prop :=
 match (execOp ρ o).run P w with
 | .ok (.value v) w' => φ v w'
 | .ok .skip w' => φ undef w'
 | .ok (.enter f args) w' => Ok P f args w' φ
 | _ => False
def setB (ls : Nat → Bool) (i : Nat) : Nat → Bool := fun j => if i = j then true else ls j
theorem StepG.congr {ρ ρ' : Operand → Value} {w : World} {φ : Value → World → Prop} (hs : ∀ cs b, o.op ≠ .select cs b) (h : ∀ x ∈ o.op.operands, ρ x = ρ' x) (k : StepG P ρ o w φ) : StepG P ρ' o w φ := by
 unfold StepG at *
 rwa [← execOp_congr o hs h]
theorem opJ_wpOp {i : Nat} {K : Act → World → Prop} {w : World} {E : Env} {φ : Value → World → Prop} (hi : ops[i]? = some o) (hs : ∀ cs b, o.op ≠ .select cs b)
  (hwt : wantedE N ops E o = true) (hst : StepG P (ev N E) o w φ) (hsame : ∀ t ∈ o.looksAt ops, E t = e t) (k : ∀ v w', φ v w' → K (mk N (updO e o.dst v)) w') : wpOp P ops Q i K (mk N e) w := by
 have hw : wantedE N ops E o = wantedE N ops e o := by
  unfold wantedE
  cases hg : o.guard with
  | none => rfl
  | some g =>
   obtain ⟨j, want⟩ := g
   cases hj : (ops[j]?).bind (·.dst) with
   | none => simp only [hj]
   | some d => simp only [hj, hsame d (looks_guard hg hj)]
 unfold wpOp
 simp only [hi]
 rw [hw] at hwt
 rw [if_pos (by rw [wanted_mk]; exact hwt)]
 refine .inl ?_
 have hstep := StepG.congr (ρ' := ev N e) hs (fun x hx => by
  cases x with
  | tmp t =>
   show (bif Nat.blt t N then E t else undef) = (bif Nat.blt t N then e t else undef)
   rw [hsame t (looks_operand hx)]
  | const v => rfl
  | global g => rfl
  | func f => rfl) hst
 unfold Oper.wp
 rw [mk_eval]
 unfold StepG at hstep
 split at hstep
 ·rename_i hr
  rw [hr]
  show K ((mk N e).put o.dst _) _
  rw [mk_put]
  exact k _ _ hstep
 ·rename_i hr
  rw [hr]
  show K ((mk N e).put o.dst undef) _
  rw [mk_put]
  exact k _ _ hstep
 ·rename_i hr
  rw [hr]
  refine Calls.mono hstep ?_
  rintro y w'' ⟨v, rfl, _, hv⟩
  show K ((mk N e).put o.dst v) w''
  rw [mk_put]
  exact k _ _ hv
 ·exact hstep.elim

set_option maxHeartbeats 1000000 in
theorem any_blockJ {k : Nat} {pl : Nat → List Nat} (hok : blockOk ops k pl = true) {e : Env} {V : Nat → (Nat → X) → Value} {J : (Nat → Bool) → (Nat → X) → World → Prop}
  (hop : ∀ (i : Nat) (o : Oper) (ls : Nat → Bool) (β : Nat → X) (w : World), ops[i]? = some o → i < k → ls i = false → (∀ j ∈ pl i, ls j = true) → J ls β w → wantedE N ops (envAt e (ops.toList.take i) (vals pl V i (restr (i :: pl i) β))) o = true ∧
   StepG P (ev N (envAt e (ops.toList.take i) (vals pl V i (restr (i :: pl i) β)))) o w fun v w' => ∃ x, v = V i (setF (restr (i :: pl i) β) i x) ∧ J (setB ls i) (setF β i x) w')
  (htail : ∀ (ls : Nat → Bool) (β : Nat → X) (w : World), (∀ i, i < k → ls i = true) → J ls β w → wpList P ops Q (ops.toList.drop k) (mk N (envAt e (ops.toList.take k) (vals pl V k β))) w) :
  ∀ (fuel : Nat) (listed : Array Bool) (β : Nat → X) (e' : Env) (w : World), listed.size = ops.size → listedCount listed ops.size + fuel = ops.size → (∀ i, k ≤ i → listed.getD i false = false) →
   (∀ i, i < k → listed.getD i false = true → ∀ j ∈ pl i, listed.getD j false = true) →
   (∀ (i : Nat) (o : Oper) (d : Nat), i < k → listed.getD i false = true → ops[i]? = some o → o.dst = some d → e' d = V i (restr (i :: pl i) β)) →
   (∀ t, (∀ (i : Nat) (o : Oper), i < k → listed.getD i false = true → ops[i]? = some o → o.dst ≠ some t) → e' t = e t) →
   J (fun j => listed.getD j false) β w → wpAny P .any ops Q fuel listed (mk N e') w := by
 have hkn : k ≤ ops.size := by
  unfold blockOk at hok
  rw [Bool.and_eq_true] at hok
  exact Nat.le_of_ble_eq_true hok.1
 have huniq : ∀ (i j : Nat) (oi oj : Oper) (d : Nat), i < k → j < k → ops[i]? = some oi → ops[j]? = some oj → oi.dst = some d → oj.dst = some d → i = j := fun i j oi oj d hi hj hoi hoj hdi hdj => by
  have := ((bOk_first (bOk_of hok hoi) hi).dst j d hj (by simp [hoj, hdj])).1
  rcases this with h | h
  ·exact h.symm
  ·exact absurd hdi h
 have hvget : ∀ (n j : Nat) (β : Nat → X), j < n → (vals pl V n β)[j]? = some (V j (restr (j :: pl j) β)) := fun n j β hj => by
  unfold vals
  rw [List.getElem?_map, List.getElem?_range hj]
  rfl
 have hspec : ∀ i, i ≤ k → ∀ (β : Nat → X) (t : Nat), ((∀ (j : Nat) (oj : Oper), j < i → ops[j]? = some oj → oj.dst ≠ some t) → envAt e (ops.toList.take i) (vals pl V i β) t = e t) ∧
   (∀ (j : Nat) (oj : Oper), j < i → ops[j]? = some oj → oj.dst = some t → envAt e (ops.toList.take i) (vals pl V i β) t = V j (restr (j :: pl j) β)) := fun i hi β t => by
  have hget : ∀ (j : Nat) (oj : Oper), (ops.toList.take i)[j]? = some oj ↔ j < i ∧ ops[j]? = some oj := fun j oj => by
   rw [List.getElem?_take]
   by_cases hji : j < i
   ·simp [hji]
   ·simp [hji]
  have h := envAt_spec (ops.toList.take i) (vals pl V i β) e t (by simp [vals]; omega) (fun a b oa ob ha hb hda hdb => by
   obtain ⟨ha1, ha2⟩ := (hget a oa).1 ha
   obtain ⟨hb1, hb2⟩ := (hget b ob).1 hb
   exact huniq a b oa ob t (by omega) (by omega) ha2 hb2 hda hdb)
  exact ⟨fun hn => h.1 fun j oj hj => hn j oj ((hget j oj).1 hj).1 ((hget j oj).1 hj).2, fun j oj hji hoj hd => h.2 j oj _ ((hget j oj).2 ⟨hji, hoj⟩) hd (hvget i j β hji)⟩
 -- all of the first k are listed: the rest
 have finish : ∀ (fuel : Nat) (listed : Array Bool) (β : Nat → X) (e' : Env) (w : World), listed.size = ops.size → k + fuel = ops.size → (∀ i, k ≤ i → listed.getD i false = false) → (∀ i, i < k → listed.getD i false = true) →
   (∀ (i : Nat) (o : Oper) (d : Nat), i < k → listed.getD i false = true → ops[i]? = some o → o.dst = some d → e' d = V i (restr (i :: pl i) β)) →
   (∀ t, (∀ (i : Nat) (o : Oper), i < k → listed.getD i false = true → ops[i]? = some o → o.dst ≠ some t) → e' t = e t) →
   J (fun j => listed.getD j false) β w → wpAny P .any ops Q fuel listed (mk N e') w := by
  intro fuel listed β e' w hsz hf hrest hall hval hold s
  have he : e' = envAt e (ops.toList.take k) (vals pl V k β) := by
   funext t
   have hs := hspec k (Nat.le_refl _) β t
   by_cases hex : ∃ (j : Nat) (oj : Oper), j < k ∧ ops[j]? = some oj ∧ oj.dst = some t
   ·obtain ⟨j, oj, hj, hoj, hd⟩ := hex
    rw [hval j oj t hj (hall j hj) hoj hd, hs.2 j oj hj hoj hd]
   ·rw [hold t fun i oi hi _ hoi hd => hex ⟨i, oi, hi, hoi, hd⟩, hs.1 fun j oj hj hoj hd => hex ⟨j, oj, hj, hoj, hd⟩]
  have hw := htail _ β w (fun i hi => hall i hi) s
  rw [← he] at hw
  refine any_rest' hok fuel k listed _ w (Nat.le_refl _) hf hsz (fun i hi => ?_) hw
  have hi' : i < listed.size := by omega
  by_cases hik : i < k
  ·have h1 := hall i hik
   simp only [Array.getD_eq_getD_getElem?, hi', getElem?_pos, Option.getD_some] at h1 ⊢
   rw [h1]; simp [hik]
  ·have h1 := hrest i (by omega)
   simp only [Array.getD_eq_getD_getElem?, hi', getElem?_pos, Option.getD_some] at h1 ⊢
   rw [h1]; simp [hik]
 have hsplit : ∀ (listed : Array Bool) (n : Nat), (∀ i, k ≤ i → listed.getD i false = false) → (∀ i, i < k → listed.getD i false = true) → listedCount listed n = min n k := by
  intro listed n h1 h2
  induction n with
  | zero => simp [listedCount]
  | succ n ihn =>
   rw [count_succ, ihn]
   by_cases hnk : n < k
   ·rw [h2 n hnk]; simp; omega
   ·rw [h1 n (by omega)]; simp; omega
 intro fuel
 induction fuel with
 | zero =>
  intro listed β e' w hsz hcnt hrest hcl hval hold s
  have hall := count_all ops.size (by omega : listedCount listed ops.size = ops.size)
  by_cases hk : k < ops.size
  ·have h1 := hall k hk
   rw [hrest k (Nat.le_refl _)] at h1
   cases h1
  ·exact finish 0 listed β e' w hsz (by omega) hrest (fun i hi => hall i (by omega)) hval hold s
 | succ fuel ih =>
  intro listed β e' w hsz hcnt hrest hcl hval hold s
  by_cases hfirst : ∃ i, i < k ∧ listed.getD i false = false
  ·have hleast : ∃ i, (i < k ∧ listed.getD i false = false) ∧ ∀ j, j < i → j < k → listed.getD j false = true := by
    obtain ⟨n, hn, hmin⟩ := exists_least hfirst
    refine ⟨n, hn, fun j hj hjk => ?_⟩
    cases hb : listed.getD j false with
    | true => rfl
    | false => have := hmin j ⟨hjk, hb⟩; omega
   obtain ⟨i0, ⟨hi0, hun0⟩, hmin⟩ := hleast
   have hi0n : i0 < ops.size := by omega
   have hready0 : i0 ∈ Region.ready .any ops listed := by
    rw [mem_ready]
    refine ⟨?_, _, Array.getElem?_eq_getElem hi0n, fun x hx hb => ?_⟩
    ·have : i0 < listed.size := by omega
     simpa [this] using hun0
    ·have := bOk_edge (bOk_of hok (Array.getElem?_eq_getElem hi0n)) x hx hb
     exact hmin x.on this (by omega)
   refine ⟨fun h0 => (by rw [h0] at hready0; cases hready0), fun i hi => ?_⟩
   obtain ⟨hun, oi, hoi, hall⟩ := mem_ready.1 hi
   have hilt := (Array.getElem?_eq_some_iff.1 hoi).1
   have hilt' : i < listed.size := by omega
   have hun' : listed.getD i false = false := by simpa [hilt'] using hun
   have hik : i < k := by
    rcases Nat.lt_or_ge i k with h | h
    ·exact h
    ·rcases bOk_rest (bOk_of hok hoi) (by omega) with ⟨_, h1⟩ | ⟨h1, h2⟩
     ·rcases h1 i0 hi0 with h2 | ⟨j', hj', h2, h3⟩
      ·have := bindsOn_listed h2 hall
       rw [hun0] at this
       cases this
      ·have := hcl j' hj' (bindsOn_listed h2 hall) i0 h3
       rw [hun0] at this
       cases this
     ·have := bindsOn_listed h2 hall
      rw [hrest (i - 1) (by omega)] at this
      cases this
   have hB := bOk_first (bOk_of hok hoi) hik
   have hpl : ∀ j ∈ pl i, listed.getD j false = true := fun j hj => by
    rcases (hB.pred j hj).2 with h | ⟨j', h, hjj⟩
    ·exact bindsOn_listed h hall
    ·have hj' : j' < k := by
      unfold bindsOn at h
      obtain ⟨x, hx, hb⟩ := Array.any_eq_true'.1 h
      simp only [Bool.and_eq_true, beq_iff_eq] at hb
      have := (hB.edge x hx hb.1).1
      omega
     exact hcl j' hj' (bindsOn_listed h hall) j hjj
   have hplt : ∀ j ∈ pl i, j < i := fun j hj => (hB.pred j hj).1
   have hrr : ∀ j ∈ pl i, restr (j :: pl j) (restr (i :: pl i) β) = restr (j :: pl j) β := fun j hj => restr_restr β fun m hm => by
    rcases List.mem_cons.1 hm with rfl | hm
    ·exact List.mem_cons_of_mem _ hj
    ·exact List.mem_cons_of_mem _ (pl_trans hok i hik j hj m hm)
   have hsame : ∀ t ∈ oi.looksAt ops, envAt e (ops.toList.take i) (vals pl V i (restr (i :: pl i) β)) t = e' t := fun t ht => by
    have hs := hspec i (by omega) (restr (i :: pl i) β) t
    by_cases hex : ∃ (j : Nat) (oj : Oper), j < k ∧ ops[j]? = some oj ∧ oj.dst = some t
    ·obtain ⟨j, oj, hj, hoj, hdj⟩ := hex
     have hji := (hB.dst j t hj (by simp [hoj, hdj])).2 ht
     rw [hs.2 j oj (hplt j hji) hoj hdj, hval j oj t hj (hpl j hji) hoj hdj, hrr j hji]
    ·rw [hs.1 fun j oj hj hoj hd => hex ⟨j, oj, by omega, hoj, hd⟩, hold t fun j oj hj _ hoj hd => hex ⟨j, oj, hj, hoj, hd⟩]
   have hst := hop i oi (fun j => listed.getD j false) β w hoi hik hun' hpl s
   refine opJ_wpOp (e := e') hoi (bOk_select (bOk_of hok hoi)) hst.1 hst.2 hsame fun v w' hxx => ?_
   obtain ⟨x, rfl, hm⟩ := hxx
   have hset : ∀ j, (listed.setIfInBounds i true).getD j false = if i = j then true else listed.getD j false := fun j => by
    by_cases hij : i = j
    ·subst hij; simp [hilt']
    ·rw [getD_set_ne false hij, if_neg hij]
   have hri : restr (i :: pl i) (setF β i x) = setF (restr (i :: pl i) β) i x := restr_set List.mem_cons_self
   have hrj : ∀ j, j < k → listed.getD j false = true → restr (j :: pl j) (setF β i x) = restr (j :: pl j) β := fun j hj hl => restr_set_not fun hm => by
    rcases List.mem_cons.1 hm with rfl | hm
    ·rw [hun'] at hl; cases hl
    ·have := hcl j hj hl i hm
     rw [hun'] at this
     cases this
   refine ih _ (setF β i x) _ w' (by simpa using hsz) ?_ (fun j hj => ?_) (fun j hj hl m hm => ?_) (fun j oj d hj hl hoj hdj => ?_) (fun t ht => ?_) ?_
   ·rw [count_set hilt' hun', if_pos hilt]; omega
   ·rw [hset, if_neg (by omega)]; exact hrest j hj
   ·rw [hset] at hl ⊢
    by_cases hij : i = j
    ·subst hij
     split
     ·rfl
     ·exact hpl m hm
    ·rw [if_neg hij] at hl
     split
     ·rfl
     ·exact hcl j hj hl m hm
   ·rw [hset] at hl
    by_cases hij : i = j
    ·subst hij
     rw [hoi] at hoj
     injection hoj with hoj
     subst hoj
     rw [hdj, hri]
     show upd e' d _ d = _
     rw [upd_apply, if_pos rfl]
    ·rw [if_neg hij] at hl
     have := hval j oj d hj hl hoj hdj
     rw [hrj j hj hl]
     cases hdi : oi.dst with
     | none => exact this
     | some d' =>
      show upd e' d' _ d = _
      rw [upd_apply, if_neg]
      ·exact this
      ·intro heq
       subst heq
       exact hij (huniq i j oi oj d hik hj hoi hoj hdi hdj)
   ·have h1 : e' t = e t := hold t fun j oj hj hl hoj => ht j oj hj (by rw [hset, hl]; split <;> rfl) hoj
    have h2 := ht i oi hik (by rw [hset, if_pos rfl]) hoi
    cases hdi : oi.dst with
    | none => exact h1
    | some d' =>
     show upd e' d' _ t = e t
     rw [upd_apply, if_neg]
     ·exact h1
     ·intro heq
      exact h2 (by rw [hdi, heq])
   ·have hls : (fun j => (listed.setIfInBounds i true).getD j false) = setB (fun j => listed.getD j false) i := funext fun j => hset j
    rw [hls]
    exact hm
  ·have hlist : ∀ i, i < k → listed.getD i false = true := fun i hi => by
    cases hb : listed.getD i false with
    | true => rfl
    | false => exact absurd ⟨i, hi, hb⟩ hfirst
   have hcount : listedCount listed ops.size = k := by rw [hsplit listed _ hrest hlist]; omega
   exact finish (fuel + 1) listed β e' w hsz (by omega) hrest hlist hval hold s

/-- A REGION THAT DRAWS: the first k operations in whatever order, under an invariant J of what is held; then the rest. -/
theorem gc_blockJ {id : Nat} {l : List Oper} (X : Type) [Inhabited X] (k : Nat) (pl : Nat → List Nat) (V : Nat → (Nat → X) → Value) (J : (Nat → Bool) → (Nat → X) → World → Prop) (hm : P.follows .mixedOrders = true) (hok : blockOk l.toArray k pl = true)
  (h0 : ∀ w, St w0 L w → J (fun _ => false) (fun _ => default) w)
  (hop : ∀ (i : Nat) (o : Oper) (ls : Nat → Bool) (β : Nat → X) (w : World), l[i]? = some o → i < k → ls i = false → (∀ j ∈ pl i, ls j = true) → J ls β w → wantedE N l.toArray (envAt e (l.take i) (vals pl V i (restr (i :: pl i) β))) o = true ∧
   StepG P (ev N (envAt e (l.take i) (vals pl V i (restr (i :: pl i) β)))) o w fun v w' => ∃ x, v = V i (setF (restr (i :: pl i) β) i x) ∧ J (setB ls i) (setF β i x) w')
  (htail : ∀ (ls : Nat → Bool) (β : Nat → X) (w : World), (∀ i, i < k → ls i = true) → J ls β w → wpList P l.toArray Q (l.drop k) (mk N (envAt e (l.take k) (vals pl V k β))) w) : GC P Q N w0 L (.region id l.toArray true) e := ⟨fun w s => by
 refine wp_region_any hm (any_blockJ (X := X) (V := V) (J := J) (k := k) (pl := pl) (e := e) hok (fun i o ls β w hi => hop i o ls β w (by simpa using hi)) htail l.toArray.size _ (fun _ => default) e _ (by simp) ?_ ?_ ?_ ?_ (fun _ _ => rfl) ?_)
 ·have : listedCount (Array.replicate l.toArray.size false) l.toArray.size = 0 := by
   unfold listedCount
   rw [List.length_eq_zero_iff, List.filter_eq_nil_iff]
   intro i _
   by_cases hi : i < l.length <;> simp [hi]
  omega
 ·intro i _
  by_cases hi : i < l.length <;> simp [hi]
 ·intro i _ hl'
  by_cases hi : i < l.length <;> simp [hi] at hl'
 ·intro i o d _ hl'
  by_cases hi : i < l.length <;> simp [hi] at hl'
 ·have hf : (fun j => (Array.replicate l.toArray.size false).getD j false) = fun _ => false := by
   funext j
   by_cases hi : j < l.length <;> simp [hi]
  rw [hf]
  exact h0 _ (s.ext (Ext.drawn w _))⟩
theorem stepG_bslice1 {t el sz : Nat} {z v : Value} [CSlice P t el sz] [CZero P el z] {d : Nat} {q : Operand} {ty : TypeId} {pos : String} {af : Array Edge} {g : Option (Nat × Bool)} (hq : ev N e q = v)
  (hv : v.cells.size = sz) (hsz : Nat.ble sz 1000 = true) (hpos : Nat.blt 0 sz = true) {w : World} (s : St w0 L w) :
  StepG P (ev N e) ⟨some d, .buildSlice t 1 #[(0, q)], ty, pos, af, g⟩ w fun u w' => ∃ b, u = .slice (some ⟨b, 0, none⟩) 1 1 ∧ St w0 (Box b el v.cells :: L) w' := by
 have ht := CSlice.h (P := P) (t := t) (el := el) (sz := sz)
 have hz := CZero.h (P := P) (t := el) (z := z)
 unfold sliceSz at ht
 split at ht
 ·rename_i el' hu
  obtain ⟨i, hinfo, heq⟩ := Option.map_eq_some_iff.1 ht
  injection heq with e1 e2
  subst e1 e2
  obtain ⟨i', hi', hzi⟩ := Option.bind_eq_some_iff.1 hz
  rw [hinfo] at hi'
  injection hi' with hi'
  subst hi'
  have hle := Nat.le_of_ble_eq_true hsz
  have hp : 0 < i.size := by rw [Nat.blt_eq] at hpos; exact hpos
  have hr := run_buildSlice (P := P) w t el' 1 #[(0, v)] v.cells i z hu hinfo hzi (by omega) (by omega) (fill_one (by simp) hv)
  have hrun2 : (execOp (ev N e) ⟨some d, .buildSlice t 1 #[(0, q)], ty, pos, af, g⟩).run P w = .ok (.value (.slice (some ⟨w.heap.size, 0, none⟩) 1 1)) (w.alloc (.cells v.cells el')) := by
   unfold execOp
   simp [hq, hr]
  unfold StepG
  rw [hrun2]
  exact ⟨w.heap.size, rfl, s.box el' _⟩
 ·cases ht
theorem detG {E : Env} {c : Value} {φ : Value → World → Prop} {w : World} (hd : Det P ops N w0 L o E c) (hw : wantedE N ops E o = true) (s : St w0 L w) (k : ∀ w', Ext w w' → φ c w') : wantedE N ops E o = true ∧ StepG P (ev N E) o w φ := by
 refine ⟨hw, ?_⟩
 rcases hd with ⟨_, h⟩ | ⟨h, _⟩
 ·have h1 := h w s
  unfold Step at h1
  unfold StepG
  split at h1
  ·rename_i v w' hr
   rw [hr]
   show φ v w'
   rw [h1.2]
   exact k _ h1.1
  ·rename_i w' hr
   rw [hr]
   show φ undef w'
   rw [h1.2]
   exact k _ h1.1
  ·rename_i hr
   rw [hr]
   exact h1.2.mono fun v w' hx hv => by rw [hv]; exact k _ (h1.1.trans hx)
  ·exact h1.elim
 ·rw [hw] at h; cases h
theorem stepG_append {t el sz : Nat} {z : Value} {by_ : Nat} {x y : Operand} {L' : List Res} [CSlice P t el sz] [CZero P el z] [CBytes P el by_] {n c m c' : Nat} {A B : Option Addr} {d : Nat} {ty : TypeId} {pos : String} {af : Array Edge} {g : Option (Nat × Bool)} {xs news : List Value}
  (hx : ev N e x = .slice A n c) (hy : ev N e y = .slice B m c')
  (hp : Pick L (Own A n c el sz xs) L') (hl : news.length = m * sz) (hB : ∀ w, St w0 L w → 0 < m → ∃ ad, B = some ad ∧ ∀ j u, news[j]? = some u → w.cell? (ad.add j) = some u) (h1 : ∀ u ∈ news, u.oneCell' = true)
  (h63 : n + m ≤ maxLen) (hbytes : (n + m) * by_ ≤ 140737488355328) (hsz : 0 < sz) (hzs : z.cells.size = sz) {w : World} (s : St w0 L w) :
  StepG P (ev N e) ⟨some d, .call { callee := .builtin .append, args := #[x, y], argTypes := #[t, t] }, ty, pos, af, g⟩ w fun u w' => ∃ A' c'', u = .slice A' (n + m) c'' ∧ St w0 (Own A' (n + m) c'' el sz (xs ++ news) :: L') w' := by
 have ht := CSlice.h (P := P) (t := t) (el := el) (sz := sz)
 have hz := CZero.h (P := P) (t := el) (z := z)
 have hby := CBytes.h (P := P) (t := el) (n := by_)
 unfold sliceSz at ht
 split at ht
 ·rename_i el' hu
  obtain ⟨i, hinfo, heq⟩ := Option.map_eq_some_iff.1 ht
  injection heq with e1 e2
  subst e1 e2
  obtain ⟨i', hi', hzi⟩ := Option.bind_eq_some_iff.1 hz
  rw [hinfo] at hi'
  injection hi' with hi'
  subst hi'
  unfold bytesB at hby
  rw [hinfo] at hby
  have hby' : i.bytes = by_ := by simpa using hby
  subst hby'
  have s1 := s.pick hp
  have hown : w.ownsRow 0 el' i.size (.slice A n c) n xs := s1.head
  have hrun : ∃ v' w', (Builtin.append_ #[t, t] ty #[.slice A n c, .slice B m c']).run P w = .ok v' w' ∧ w'.ownsRow 0 el' i.size v' (n + m) (xs ++ news) ∧ w.grownBy w' (Value.slice A n c).ownBlock ∧
    (v'.ownBlock = (Value.slice A n c).ownBlock ∨ v'.ownBlock = some w.heap.size) := by
   rcases Nat.eq_zero_or_pos m with h0 | h0
   ·subst h0
    have hn : news = [] := List.eq_nil_of_length_eq_zero (by simpa using hl)
    subst hn
    refine ⟨.slice A n c, w, ?_, by simpa using hown, ⟨rfl, rfl, rfl, Nat.le_refl _, fun _ _ _ => rfl⟩, .inl rfl⟩
    rcases hown.2 with ⟨hv, rfl⟩ | ⟨g', cap, cur, hv, _, _, hnc, _⟩
    ·injection hv with ha hn hc
     subst ha hc
     cases B <;> simp [Builtin.append_, run_underlying hu, sizeOf, typeInfo, hinfo, Builtin.lenOf, Builtin.firstCells, loadCells, loadCellsFrom]
    ·injection hv with ha hn hc
     subst ha hc
     cases B <;> simp [Builtin.append_, run_underlying hu, sizeOf, typeInfo, hinfo, Builtin.lenOf, Builtin.firstCells, hnc, storeCells, loadCells, loadCellsFrom]
   ·obtain ⟨ad, rfl, hcells⟩ := hB w s h0
    obtain ⟨v', w', hr, h2, h3, _, h5⟩ := run_append_own_at (P := P) w 0 t ty el' i z i.size i.bytes hu hinfo hzi rfl rfl hzs hsz (.slice A n c) n xs hown ad m c' news hl hcells h1 h63 hbytes (Nat.zero_le _)
    exact ⟨v', w', hr, h2, h3, h5⟩
  obtain ⟨v', w', hr, h2, h3, h4⟩ := hrun
  obtain ⟨A', c'', rfl⟩ : ∃ A' c'', v' = .slice A' (n + m) c'' := by
   rcases h2.2 with ⟨hv, h0⟩ | ⟨g', cap, cur, hv, _⟩
   ·exact ⟨none, 0, by rw [hv, h0]⟩
   ·exact ⟨_, _, hv⟩
  have hrun2 : (execOp (ev N e) ⟨some d, .call { callee := .builtin .append, args := #[x, y], argTypes := #[t, t] }, ty, pos, af, g⟩).run P w = .ok (.value (.slice A' (n + m) c'')) w' := by
   unfold execOp
   simp [hx, hy, resolve, invoke, builtin, hr]
  unfold StepG
  rw [hrun2]
  refine ⟨A', c'', rfl, s1.turn (r' := Own A' (n + m) c'' el' i.size (xs ++ news)) h3.size h3.os h3.tape h3.output (fun b hb hnb => h3.block b hb fun he => hnb he.symm) h2 fun b hb => ?_⟩
  have hb' : (Value.slice A' (n + m) c'').ownBlock = some b := hb
  rcases h4 with h4 | h4
  ·exact .inl (h4.symm.trans hb')
  ·rw [h4] at hb'
   injection hb' with hb'
   subst hb'
   exact .inr ⟨Nat.le_refl _, (h2.lt _ h4).2⟩
 ·cases ht
theorem StepG.mono {ρ : Operand → Value} {w : World} {φ ψ : Value → World → Prop} (h : StepG P ρ o w φ) (k : ∀ v w', φ v w' → ψ v w') : StepG P ρ o w ψ := by
 unfold StepG at *
 split at h
 ·exact k _ _ h
 ·exact k _ _ h
 ·exact Ok.mono h fun v w' _ hv => k v w' hv
 ·exact h.elim
end
def isq : Nat → Nat
 | 0 => 0
 | n + 1 => if (isq n + 1) * (isq n + 1) ≤ n + 1 then isq n + 1 else isq n
theorem isq_spec : ∀ n, isq n * isq n ≤ n ∧ n < (isq n + 1) * (isq n + 1)
 | 0 => by decide
 | n + 1 => by
  obtain ⟨h1, h2⟩ := isq_spec n
  have e0 : isq (n + 1) = if (isq n + 1) * (isq n + 1) ≤ n + 1 then isq n + 1 else isq n := rfl
  rw [e0]
  split
  ·rename_i h
   refine ⟨h, ?_⟩
   have : (isq n + 1) * (isq n + 1) ≤ (isq n + 1 + 1) * (isq n + 1) := Nat.mul_le_mul_right _ (by omega)
   have e : (isq n + 1 + 1) * (isq n + 1 + 1) = (isq n + 1 + 1) * (isq n + 1) + (isq n + 1 + 1) := Nat.mul_succ _ _
   omega
  ·rename_i h
   exact ⟨by omega, by omega⟩
theorem isq_le {n s : Nat} (h : n < (s + 1) * (s + 1)) : isq n ≤ s := by
 have h1 := (isq_spec n).1
 refine Nat.le_of_not_lt fun hc => ?_
 have := Nat.mul_le_mul (show s + 1 ≤ isq n from hc) (show s + 1 ≤ isq n from hc)
 omega
theorem le_isq {n s : Nat} (h : s * s ≤ n) : s ≤ isq n := by
 have h1 := (isq_spec n).2
 refine Nat.le_of_not_lt fun hc => ?_
 have := Nat.mul_le_mul (show isq n + 1 ≤ s from hc) (show isq n + 1 ≤ s from hc)
 omega
theorem nt_ge {n x s : Nat} (hx : 0 < x) (hs : s * s ≤ n) : s ≤ (x + n / x) / 2 := by
 suffices h : 2 * s ≤ x + n / x by omega
 by_cases h : 2 * s ≤ x
 ·exact Nat.le_trans h (Nat.le_add_right _ _)
 ·have hd : 2 * s - x ≤ n / x := by
   rw [Nat.le_div_iff_mul_le hx]
   refine Nat.le_trans ?_ hs
   by_cases hxs : x ≤ s
   ·obtain ⟨t, rfl⟩ : ∃ t, s = x + t := ⟨s - x, by omega⟩
    rw [show 2 * (x + t) - x = x + 2 * t by omega]
    simp only [Nat.add_mul, Nat.mul_add, Nat.mul_assoc, Nat.mul_comm t x]
    omega
   ·obtain ⟨t, rfl⟩ : ∃ t, x = s + t := ⟨x - s, by omega⟩
    obtain ⟨u, rfl⟩ : ∃ u, s = t + u := ⟨s - t, by omega⟩
    rw [show 2 * (t + u) - (t + u + t) = u by omega]
    simp only [Nat.add_mul, Nat.mul_add, Nat.mul_comm u t]
    omega
  omega
theorem nt_lt {n x s : Nat} (hs : n < (s + 1) * (s + 1)) (h : s < x) : (x + n / x) / 2 < x := by
 have h1 : (s + 1) * (s + 1) ≤ x * x := Nat.mul_le_mul h h
 have h2 : n / x < x := (Nat.div_lt_iff_lt_mul (by omega)).2 (by omega)
 omega
theorem nt_step {n x : Nat} (hx : 0 < x) (h : isq n ≤ x) : isq n ≤ (x + n / x) / 2 ∧ (x ≤ (x + n / x) / 2 → x = isq n) := by
 refine ⟨nt_ge hx (isq_spec n).1, fun h1 => ?_⟩
 refine Nat.le_antisymm (Nat.le_of_not_lt fun hc => ?_) h
 have := nt_lt (isq_spec n).2 hc
 omega
instance : CSize Tryz.prog 0 1 := ⟨by kernel_rfl⟩
instance : CNotAgg Tryz.prog 0 := ⟨by kernel_rfl⟩
instance : CZero Tryz.prog 0 (.tuple #[]) := ⟨by kernel_rfl⟩
instance : CBytes Tryz.prog 0 0 := ⟨by kernel_rfl⟩
instance : CSize Tryz.prog 1 1 := ⟨by kernel_rfl⟩
instance : CNotAgg Tryz.prog 1 := ⟨by kernel_rfl⟩
instance : CBytes Tryz.prog 1 8 := ⟨by kernel_rfl⟩
instance : CSize Tryz.prog 2 1 := ⟨by kernel_rfl⟩
instance : CNotAgg Tryz.prog 2 := ⟨by kernel_rfl⟩
instance : CZero Tryz.prog 2 (.int .i64 0) := ⟨by kernel_rfl⟩
instance : CBytes Tryz.prog 2 8 := ⟨by kernel_rfl⟩
instance : CInt Tryz.prog 2 .i64 := ⟨by kernel_rfl⟩
instance : CSize Tryz.prog 3 1 := ⟨by kernel_rfl⟩
instance : CNotAgg Tryz.prog 3 := ⟨by kernel_rfl⟩
instance : CZero Tryz.prog 3 (.int .i64 0) := ⟨by kernel_rfl⟩
instance : CBytes Tryz.prog 3 8 := ⟨by kernel_rfl⟩
instance : CInt Tryz.prog 3 .i64 := ⟨by kernel_rfl⟩
instance : CSize Tryz.prog 4 1 := ⟨by kernel_rfl⟩
instance : CNotAgg Tryz.prog 4 := ⟨by kernel_rfl⟩
instance : CZero Tryz.prog 4 (.bool false) := ⟨by kernel_rfl⟩
instance : CBytes Tryz.prog 4 1 := ⟨by kernel_rfl⟩
instance : CSize Tryz.prog 5 1 := ⟨by kernel_rfl⟩
instance : CNotAgg Tryz.prog 5 := ⟨by kernel_rfl⟩
instance : CZero Tryz.prog 5 (.int .u8 0) := ⟨by kernel_rfl⟩
instance : CBytes Tryz.prog 5 1 := ⟨by kernel_rfl⟩
instance : CInt Tryz.prog 5 .u8 := ⟨by kernel_rfl⟩
instance : CSize Tryz.prog 6 1 := ⟨by kernel_rfl⟩
instance : CNotAgg Tryz.prog 6 := ⟨by kernel_rfl⟩
instance : CZero Tryz.prog 6 (.int .u8 0) := ⟨by kernel_rfl⟩
instance : CBytes Tryz.prog 6 1 := ⟨by kernel_rfl⟩
instance : CInt Tryz.prog 6 .u8 := ⟨by kernel_rfl⟩
instance : CAgg Tryz.prog 7 4 := ⟨by kernel_rfl⟩
instance : CSize Tryz.prog 7 4 := ⟨by kernel_rfl⟩
instance : CZero Tryz.prog 7 (.agg #[.int .i64 0, .int .i64 0, .bool false, .int .u8 0]) := ⟨by kernel_rfl⟩
instance : CBytes Tryz.prog 7 24 := ⟨by kernel_rfl⟩
instance : CPlaces Tryz.prog 7 [(0, 1), (1, 1), (2, 1), (3, 1)] := ⟨by kernel_rfl⟩
instance : CField Tryz.prog 7 0 0 := ⟨by kernel_rfl⟩
instance : CField Tryz.prog 7 1 1 := ⟨by kernel_rfl⟩
instance : CField Tryz.prog 7 2 2 := ⟨by kernel_rfl⟩
instance : CField Tryz.prog 7 3 3 := ⟨by kernel_rfl⟩
instance : CAgg Tryz.prog 8 4 := ⟨by kernel_rfl⟩
instance : CSize Tryz.prog 8 4 := ⟨by kernel_rfl⟩
instance : CZero Tryz.prog 8 (.agg #[.int .i64 0, .int .i64 0, .bool false, .int .u8 0]) := ⟨by kernel_rfl⟩
instance : CBytes Tryz.prog 8 24 := ⟨by kernel_rfl⟩
instance : CPlaces Tryz.prog 8 [(0, 1), (1, 1), (2, 1), (3, 1)] := ⟨by kernel_rfl⟩
instance : CField Tryz.prog 8 0 0 := ⟨by kernel_rfl⟩
instance : CField Tryz.prog 8 1 1 := ⟨by kernel_rfl⟩
instance : CField Tryz.prog 8 2 2 := ⟨by kernel_rfl⟩
instance : CField Tryz.prog 8 3 3 := ⟨by kernel_rfl⟩
instance : CSize Tryz.prog 9 1 := ⟨by kernel_rfl⟩
instance : CNotAgg Tryz.prog 9 := ⟨by kernel_rfl⟩
instance : CIsStr Tryz.prog 9 := ⟨by kernel_rfl⟩
instance : CZero Tryz.prog 9 (.string ⟨#[]⟩) := ⟨by kernel_rfl⟩
instance : CBytes Tryz.prog 9 16 := ⟨by kernel_rfl⟩
instance : CSize Tryz.prog 16 1 := ⟨by kernel_rfl⟩
instance : CNotAgg Tryz.prog 16 := ⟨by kernel_rfl⟩
instance : CZero Tryz.prog 16 (.pointer none) := ⟨by kernel_rfl⟩
instance : CBytes Tryz.prog 16 8 := ⟨by kernel_rfl⟩
instance : CSlice Tryz.prog 22 9 1 := ⟨by kernel_rfl⟩
instance : CSize Tryz.prog 22 1 := ⟨by kernel_rfl⟩
instance : CNotAgg Tryz.prog 22 := ⟨by kernel_rfl⟩
instance : CIsSlice Tryz.prog 22 := ⟨by kernel_rfl⟩
instance : CZero Tryz.prog 22 (.slice none 0 0) := ⟨by kernel_rfl⟩
instance : CBytes Tryz.prog 22 24 := ⟨by kernel_rfl⟩
instance : CSlice Tryz.prog 23 3 1 := ⟨by kernel_rfl⟩
instance : CSize Tryz.prog 23 1 := ⟨by kernel_rfl⟩
instance : CNotAgg Tryz.prog 23 := ⟨by kernel_rfl⟩
instance : CIsSlice Tryz.prog 23 := ⟨by kernel_rfl⟩
instance : CZero Tryz.prog 23 (.slice none 0 0) := ⟨by kernel_rfl⟩
instance : CBytes Tryz.prog 23 24 := ⟨by kernel_rfl⟩
instance : CSlice Tryz.prog 24 64 7 := ⟨by kernel_rfl⟩
instance : CSize Tryz.prog 24 1 := ⟨by kernel_rfl⟩
instance : CNotAgg Tryz.prog 24 := ⟨by kernel_rfl⟩
instance : CIsSlice Tryz.prog 24 := ⟨by kernel_rfl⟩
instance : CZero Tryz.prog 24 (.slice none 0 0) := ⟨by kernel_rfl⟩
instance : CBytes Tryz.prog 24 24 := ⟨by kernel_rfl⟩
instance : CSlice Tryz.prog 25 118 3 := ⟨by kernel_rfl⟩
instance : CSize Tryz.prog 25 1 := ⟨by kernel_rfl⟩
instance : CNotAgg Tryz.prog 25 := ⟨by kernel_rfl⟩
instance : CIsSlice Tryz.prog 25 := ⟨by kernel_rfl⟩
instance : CZero Tryz.prog 25 (.slice none 0 0) := ⟨by kernel_rfl⟩
instance : CBytes Tryz.prog 25 24 := ⟨by kernel_rfl⟩
instance : CSlice Tryz.prog 26 150 6 := ⟨by kernel_rfl⟩
instance : CSize Tryz.prog 26 1 := ⟨by kernel_rfl⟩
instance : CNotAgg Tryz.prog 26 := ⟨by kernel_rfl⟩
instance : CIsSlice Tryz.prog 26 := ⟨by kernel_rfl⟩
instance : CZero Tryz.prog 26 (.slice none 0 0) := ⟨by kernel_rfl⟩
instance : CBytes Tryz.prog 26 24 := ⟨by kernel_rfl⟩
instance : CSlice Tryz.prog 27 59 5 := ⟨by kernel_rfl⟩
instance : CSize Tryz.prog 27 1 := ⟨by kernel_rfl⟩
instance : CNotAgg Tryz.prog 27 := ⟨by kernel_rfl⟩
instance : CIsSlice Tryz.prog 27 := ⟨by kernel_rfl⟩
instance : CZero Tryz.prog 27 (.slice none 0 0) := ⟨by kernel_rfl⟩
instance : CBytes Tryz.prog 27 24 := ⟨by kernel_rfl⟩
instance : CAgg Tryz.prog 29 7 := ⟨by kernel_rfl⟩
instance : CSize Tryz.prog 29 7 := ⟨by kernel_rfl⟩
instance : CZero Tryz.prog 29 (.agg #[.string ⟨#[]⟩, .slice none 0 0, .slice none 0 0, .slice none 0 0, .slice none 0 0, .slice none 0 0, .slice none 0 0]) := ⟨by kernel_rfl⟩
instance : CBytes Tryz.prog 29 160 := ⟨by kernel_rfl⟩
instance : CPlaces Tryz.prog 29 [(0, 1), (1, 1), (2, 1), (3, 1), (4, 1), (5, 1), (6, 1)] := ⟨by kernel_rfl⟩
instance : CField Tryz.prog 29 0 0 := ⟨by kernel_rfl⟩
instance : CField Tryz.prog 29 1 1 := ⟨by kernel_rfl⟩
instance : CField Tryz.prog 29 2 2 := ⟨by kernel_rfl⟩
instance : CField Tryz.prog 29 3 3 := ⟨by kernel_rfl⟩
instance : CField Tryz.prog 29 4 4 := ⟨by kernel_rfl⟩
instance : CField Tryz.prog 29 5 5 := ⟨by kernel_rfl⟩
instance : CField Tryz.prog 29 6 6 := ⟨by kernel_rfl⟩
instance : CSlice Tryz.prog 30 57 6 := ⟨by kernel_rfl⟩
instance : CSize Tryz.prog 30 1 := ⟨by kernel_rfl⟩
instance : CNotAgg Tryz.prog 30 := ⟨by kernel_rfl⟩
instance : CIsSlice Tryz.prog 30 := ⟨by kernel_rfl⟩
instance : CZero Tryz.prog 30 (.slice none 0 0) := ⟨by kernel_rfl⟩
instance : CBytes Tryz.prog 30 24 := ⟨by kernel_rfl⟩
instance : CSlice Tryz.prog 31 69 3 := ⟨by kernel_rfl⟩
instance : CSize Tryz.prog 31 1 := ⟨by kernel_rfl⟩
instance : CNotAgg Tryz.prog 31 := ⟨by kernel_rfl⟩
instance : CIsSlice Tryz.prog 31 := ⟨by kernel_rfl⟩
instance : CZero Tryz.prog 31 (.slice none 0 0) := ⟨by kernel_rfl⟩
instance : CBytes Tryz.prog 31 24 := ⟨by kernel_rfl⟩
instance : CAgg Tryz.prog 33 10 := ⟨by kernel_rfl⟩
instance : CSize Tryz.prog 33 10 := ⟨by kernel_rfl⟩
instance : CZero Tryz.prog 33 (.agg #[.string ⟨#[]⟩, .slice none 0 0, .slice none 0 0, .slice none 0 0, .slice none 0 0, .slice none 0 0, .slice none 0 0, .int .i64 0, .slice none 0 0, .slice none 0 0]) := ⟨by kernel_rfl⟩
instance : CBytes Tryz.prog 33 216 := ⟨by kernel_rfl⟩
instance : CPlaces Tryz.prog 33 [(0, 7), (7, 1), (8, 1), (9, 1)] := ⟨by kernel_rfl⟩
instance : CField Tryz.prog 33 0 0 := ⟨by kernel_rfl⟩
instance : CField Tryz.prog 33 1 7 := ⟨by kernel_rfl⟩
instance : CField Tryz.prog 33 2 8 := ⟨by kernel_rfl⟩
instance : CField Tryz.prog 33 3 9 := ⟨by kernel_rfl⟩
instance : CSlice Tryz.prog 36 23 1 := ⟨by kernel_rfl⟩
instance : CSize Tryz.prog 36 1 := ⟨by kernel_rfl⟩
instance : CNotAgg Tryz.prog 36 := ⟨by kernel_rfl⟩
instance : CIsSlice Tryz.prog 36 := ⟨by kernel_rfl⟩
instance : CZero Tryz.prog 36 (.slice none 0 0) := ⟨by kernel_rfl⟩
instance : CBytes Tryz.prog 36 24 := ⟨by kernel_rfl⟩
instance : CSize Tryz.prog 37 1 := ⟨by kernel_rfl⟩
instance : CNotAgg Tryz.prog 37 := ⟨by kernel_rfl⟩
instance : CZero Tryz.prog 37 (.int .i64 0) := ⟨by kernel_rfl⟩
instance : CBytes Tryz.prog 37 8 := ⟨by kernel_rfl⟩
instance : CInt Tryz.prog 37 .i64 := ⟨by kernel_rfl⟩
instance : CSize Tryz.prog 38 1 := ⟨by kernel_rfl⟩
instance : CNotAgg Tryz.prog 38 := ⟨by kernel_rfl⟩
instance : CZero Tryz.prog 38 (.tuple #[.slice none 0 0, .int .i64 0]) := ⟨by kernel_rfl⟩
instance : CBytes Tryz.prog 38 0 := ⟨by kernel_rfl⟩
instance : CSlice Tryz.prog 40 71 5 := ⟨by kernel_rfl⟩
instance : CSize Tryz.prog 40 1 := ⟨by kernel_rfl⟩
instance : CNotAgg Tryz.prog 40 := ⟨by kernel_rfl⟩
instance : CIsSlice Tryz.prog 40 := ⟨by kernel_rfl⟩
instance : CZero Tryz.prog 40 (.slice none 0 0) := ⟨by kernel_rfl⟩
instance : CBytes Tryz.prog 40 24 := ⟨by kernel_rfl⟩
instance : CSize Tryz.prog 41 1 := ⟨by kernel_rfl⟩
instance : CNotAgg Tryz.prog 41 := ⟨by kernel_rfl⟩
instance : CZero Tryz.prog 41 (.tuple #[.slice none 0 0, .int .i64 0]) := ⟨by kernel_rfl⟩
instance : CBytes Tryz.prog 41 0 := ⟨by kernel_rfl⟩
instance : CAgg Tryz.prog 44 2 := ⟨by kernel_rfl⟩
instance : CSize Tryz.prog 44 2 := ⟨by kernel_rfl⟩
instance : CZero Tryz.prog 44 (.agg #[.string ⟨#[]⟩, .slice none 0 0]) := ⟨by kernel_rfl⟩
instance : CBytes Tryz.prog 44 40 := ⟨by kernel_rfl⟩
instance : CPlaces Tryz.prog 44 [(0, 1), (1, 1)] := ⟨by kernel_rfl⟩
instance : CField Tryz.prog 44 0 0 := ⟨by kernel_rfl⟩
instance : CField Tryz.prog 44 1 1 := ⟨by kernel_rfl⟩
instance : CSlice Tryz.prog 45 44 2 := ⟨by kernel_rfl⟩
instance : CSize Tryz.prog 45 1 := ⟨by kernel_rfl⟩
instance : CNotAgg Tryz.prog 45 := ⟨by kernel_rfl⟩
instance : CIsSlice Tryz.prog 45 := ⟨by kernel_rfl⟩
instance : CZero Tryz.prog 45 (.slice none 0 0) := ⟨by kernel_rfl⟩
instance : CBytes Tryz.prog 45 24 := ⟨by kernel_rfl⟩
instance : CSlice Tryz.prog 49 52 4 := ⟨by kernel_rfl⟩
instance : CSize Tryz.prog 49 1 := ⟨by kernel_rfl⟩
instance : CNotAgg Tryz.prog 49 := ⟨by kernel_rfl⟩
instance : CIsSlice Tryz.prog 49 := ⟨by kernel_rfl⟩
instance : CZero Tryz.prog 49 (.slice none 0 0) := ⟨by kernel_rfl⟩
instance : CBytes Tryz.prog 49 24 := ⟨by kernel_rfl⟩
instance : CAgg Tryz.prog 52 4 := ⟨by kernel_rfl⟩
instance : CSize Tryz.prog 52 4 := ⟨by kernel_rfl⟩
instance : CZero Tryz.prog 52 (.agg #[.int .i64 0, .int .i64 0, .int .i64 0, .int .i64 0]) := ⟨by kernel_rfl⟩
instance : CBytes Tryz.prog 52 32 := ⟨by kernel_rfl⟩
instance : CPlaces Tryz.prog 52 [(0, 1), (1, 1), (2, 1), (3, 1)] := ⟨by kernel_rfl⟩
instance : CField Tryz.prog 52 0 0 := ⟨by kernel_rfl⟩
instance : CField Tryz.prog 52 1 1 := ⟨by kernel_rfl⟩
instance : CField Tryz.prog 52 2 2 := ⟨by kernel_rfl⟩
instance : CField Tryz.prog 52 3 3 := ⟨by kernel_rfl⟩
instance : CSize Tryz.prog 53 1 := ⟨by kernel_rfl⟩
instance : CNotAgg Tryz.prog 53 := ⟨by kernel_rfl⟩
instance : CZero Tryz.prog 53 (.tuple #[.slice none 0 0, .int .i64 0]) := ⟨by kernel_rfl⟩
instance : CBytes Tryz.prog 53 0 := ⟨by kernel_rfl⟩
instance : CAgg Tryz.prog 57 6 := ⟨by kernel_rfl⟩
instance : CSize Tryz.prog 57 6 := ⟨by kernel_rfl⟩
instance : CZero Tryz.prog 57 (.agg #[.int .i64 0, .int .i64 0, .int .i64 0, .int .i64 0, .int .i64 0, .int .i64 0]) := ⟨by kernel_rfl⟩
instance : CBytes Tryz.prog 57 48 := ⟨by kernel_rfl⟩
instance : CPlaces Tryz.prog 57 [(0, 1), (1, 1), (2, 1), (3, 1), (4, 1), (5, 1)] := ⟨by kernel_rfl⟩
instance : CField Tryz.prog 57 0 0 := ⟨by kernel_rfl⟩
instance : CField Tryz.prog 57 1 1 := ⟨by kernel_rfl⟩
instance : CField Tryz.prog 57 2 2 := ⟨by kernel_rfl⟩
instance : CField Tryz.prog 57 3 3 := ⟨by kernel_rfl⟩
instance : CField Tryz.prog 57 4 4 := ⟨by kernel_rfl⟩
instance : CField Tryz.prog 57 5 5 := ⟨by kernel_rfl⟩
instance : CAgg Tryz.prog 59 5 := ⟨by kernel_rfl⟩
instance : CSize Tryz.prog 59 5 := ⟨by kernel_rfl⟩
instance : CZero Tryz.prog 59 (.agg #[.string ⟨#[]⟩, .int .i64 0, .int .i64 0, .slice none 0 0, .slice none 0 0]) := ⟨by kernel_rfl⟩
instance : CBytes Tryz.prog 59 80 := ⟨by kernel_rfl⟩
instance : CPlaces Tryz.prog 59 [(0, 1), (1, 1), (2, 1), (3, 1), (4, 1)] := ⟨by kernel_rfl⟩
instance : CField Tryz.prog 59 0 0 := ⟨by kernel_rfl⟩
instance : CField Tryz.prog 59 1 1 := ⟨by kernel_rfl⟩
instance : CField Tryz.prog 59 2 2 := ⟨by kernel_rfl⟩
instance : CField Tryz.prog 59 3 3 := ⟨by kernel_rfl⟩
instance : CField Tryz.prog 59 4 4 := ⟨by kernel_rfl⟩
instance : CSlice Tryz.prog 60 116 2 := ⟨by kernel_rfl⟩
instance : CSize Tryz.prog 60 1 := ⟨by kernel_rfl⟩
instance : CNotAgg Tryz.prog 60 := ⟨by kernel_rfl⟩
instance : CIsSlice Tryz.prog 60 := ⟨by kernel_rfl⟩
instance : CZero Tryz.prog 60 (.slice none 0 0) := ⟨by kernel_rfl⟩
instance : CBytes Tryz.prog 60 24 := ⟨by kernel_rfl⟩
instance : CSlice Tryz.prog 61 220 2 := ⟨by kernel_rfl⟩
instance : CSize Tryz.prog 61 1 := ⟨by kernel_rfl⟩
instance : CNotAgg Tryz.prog 61 := ⟨by kernel_rfl⟩
instance : CIsSlice Tryz.prog 61 := ⟨by kernel_rfl⟩
instance : CZero Tryz.prog 61 (.slice none 0 0) := ⟨by kernel_rfl⟩
instance : CBytes Tryz.prog 61 24 := ⟨by kernel_rfl⟩
instance : CSlice Tryz.prog 62 114 2 := ⟨by kernel_rfl⟩
instance : CSize Tryz.prog 62 1 := ⟨by kernel_rfl⟩
instance : CNotAgg Tryz.prog 62 := ⟨by kernel_rfl⟩
instance : CIsSlice Tryz.prog 62 := ⟨by kernel_rfl⟩
instance : CZero Tryz.prog 62 (.slice none 0 0) := ⟨by kernel_rfl⟩
instance : CBytes Tryz.prog 62 24 := ⟨by kernel_rfl⟩
instance : CAgg Tryz.prog 64 7 := ⟨by kernel_rfl⟩
instance : CSize Tryz.prog 64 7 := ⟨by kernel_rfl⟩
instance : CZero Tryz.prog 64 (.agg #[.string ⟨#[]⟩, .slice none 0 0, .int .i64 0, .slice none 0 0, .slice none 0 0, .slice none 0 0, .bool false]) := ⟨by kernel_rfl⟩
instance : CBytes Tryz.prog 64 128 := ⟨by kernel_rfl⟩
instance : CPlaces Tryz.prog 64 [(0, 1), (1, 1), (2, 1), (3, 1), (4, 1), (5, 1), (6, 1)] := ⟨by kernel_rfl⟩
instance : CField Tryz.prog 64 0 0 := ⟨by kernel_rfl⟩
instance : CField Tryz.prog 64 1 1 := ⟨by kernel_rfl⟩
instance : CField Tryz.prog 64 2 2 := ⟨by kernel_rfl⟩
instance : CField Tryz.prog 64 3 3 := ⟨by kernel_rfl⟩
instance : CField Tryz.prog 64 4 4 := ⟨by kernel_rfl⟩
instance : CField Tryz.prog 64 5 5 := ⟨by kernel_rfl⟩
instance : CField Tryz.prog 64 6 6 := ⟨by kernel_rfl⟩
instance : CAgg Tryz.prog 66 10 := ⟨by kernel_rfl⟩
instance : CSize Tryz.prog 66 10 := ⟨by kernel_rfl⟩
instance : CZero Tryz.prog 66 (.agg #[.string ⟨#[]⟩, .slice none 0 0, .slice none 0 0, .slice none 0 0, .slice none 0 0, .slice none 0 0, .slice none 0 0, .slice none 0 0, .slice none 0 0, .slice none 0 0]) := ⟨by kernel_rfl⟩
instance : CBytes Tryz.prog 66 232 := ⟨by kernel_rfl⟩
instance : CPlaces Tryz.prog 66 [(0, 7), (7, 1), (8, 1), (9, 1)] := ⟨by kernel_rfl⟩
instance : CField Tryz.prog 66 0 0 := ⟨by kernel_rfl⟩
instance : CField Tryz.prog 66 1 7 := ⟨by kernel_rfl⟩
instance : CField Tryz.prog 66 2 8 := ⟨by kernel_rfl⟩
instance : CField Tryz.prog 66 3 9 := ⟨by kernel_rfl⟩
instance : CAgg Tryz.prog 69 3 := ⟨by kernel_rfl⟩
instance : CSize Tryz.prog 69 3 := ⟨by kernel_rfl⟩
instance : CZero Tryz.prog 69 (.agg #[.int .i64 0, .int .i64 0, .int .i64 0]) := ⟨by kernel_rfl⟩
instance : CBytes Tryz.prog 69 24 := ⟨by kernel_rfl⟩
instance : CPlaces Tryz.prog 69 [(0, 1), (1, 1), (2, 1)] := ⟨by kernel_rfl⟩
instance : CField Tryz.prog 69 0 0 := ⟨by kernel_rfl⟩
instance : CField Tryz.prog 69 1 1 := ⟨by kernel_rfl⟩
instance : CField Tryz.prog 69 2 2 := ⟨by kernel_rfl⟩
instance : CAgg Tryz.prog 71 5 := ⟨by kernel_rfl⟩
instance : CSize Tryz.prog 71 5 := ⟨by kernel_rfl⟩
instance : CZero Tryz.prog 71 (.agg #[.int .i64 0, .int .i64 0, .int .i64 0, .int .i64 0, .int .i64 0]) := ⟨by kernel_rfl⟩
instance : CBytes Tryz.prog 71 40 := ⟨by kernel_rfl⟩
instance : CPlaces Tryz.prog 71 [(0, 1), (1, 1), (2, 1), (3, 1), (4, 1)] := ⟨by kernel_rfl⟩
instance : CField Tryz.prog 71 0 0 := ⟨by kernel_rfl⟩
instance : CField Tryz.prog 71 1 1 := ⟨by kernel_rfl⟩
instance : CField Tryz.prog 71 2 2 := ⟨by kernel_rfl⟩
instance : CField Tryz.prog 71 3 3 := ⟨by kernel_rfl⟩
instance : CField Tryz.prog 71 4 4 := ⟨by kernel_rfl⟩
instance : CSize Tryz.prog 72 1 := ⟨by kernel_rfl⟩
instance : CNotAgg Tryz.prog 72 := ⟨by kernel_rfl⟩
instance : CZero Tryz.prog 72 (.tuple #[.int .i64 0, .int .i64 0]) := ⟨by kernel_rfl⟩
instance : CBytes Tryz.prog 72 0 := ⟨by kernel_rfl⟩
instance : CSize Tryz.prog 74 1 := ⟨by kernel_rfl⟩
instance : CNotAgg Tryz.prog 74 := ⟨by kernel_rfl⟩
instance : CZero Tryz.prog 74 (.tuple #[.int .i64 0, .bool false]) := ⟨by kernel_rfl⟩
instance : CBytes Tryz.prog 74 0 := ⟨by kernel_rfl⟩
instance : CSize Tryz.prog 81 1 := ⟨by kernel_rfl⟩
instance : CNotAgg Tryz.prog 81 := ⟨by kernel_rfl⟩
instance : CBytes Tryz.prog 81 8 := ⟨by kernel_rfl⟩
instance : CSize Tryz.prog 82 1 := ⟨by kernel_rfl⟩
instance : CNotAgg Tryz.prog 82 := ⟨by kernel_rfl⟩
instance : CZero Tryz.prog 82 (.pointer none) := ⟨by kernel_rfl⟩
instance : CBytes Tryz.prog 82 8 := ⟨by kernel_rfl⟩
instance : CAgg Tryz.prog 86 4 := ⟨by kernel_rfl⟩
instance : CSize Tryz.prog 86 4 := ⟨by kernel_rfl⟩
instance : CZero Tryz.prog 86 (.agg #[.slice none 0 0, .slice none 0 0, .slice none 0 0, .slice none 0 0]) := ⟨by kernel_rfl⟩
instance : CBytes Tryz.prog 86 96 := ⟨by kernel_rfl⟩
instance : CPlaces Tryz.prog 86 [(0, 1), (1, 1), (2, 1), (3, 1)] := ⟨by kernel_rfl⟩
instance : CField Tryz.prog 86 0 0 := ⟨by kernel_rfl⟩
instance : CField Tryz.prog 86 1 1 := ⟨by kernel_rfl⟩
instance : CField Tryz.prog 86 2 2 := ⟨by kernel_rfl⟩
instance : CField Tryz.prog 86 3 3 := ⟨by kernel_rfl⟩
instance : CSize Tryz.prog 87 1 := ⟨by kernel_rfl⟩
instance : CNotAgg Tryz.prog 87 := ⟨by kernel_rfl⟩
instance : CZero Tryz.prog 87 (.tuple #[.int .i64 0, .int .i64 0, .int .i64 0, .bool false]) := ⟨by kernel_rfl⟩
instance : CBytes Tryz.prog 87 0 := ⟨by kernel_rfl⟩
instance : CSize Tryz.prog 91 1 := ⟨by kernel_rfl⟩
instance : CNotAgg Tryz.prog 91 := ⟨by kernel_rfl⟩
instance : CZero Tryz.prog 91 (.int .u64 0) := ⟨by kernel_rfl⟩
instance : CBytes Tryz.prog 91 8 := ⟨by kernel_rfl⟩
instance : CInt Tryz.prog 91 .u64 := ⟨by kernel_rfl⟩
instance : CSlice Tryz.prog 94 141 1 := ⟨by kernel_rfl⟩
instance : CSize Tryz.prog 94 1 := ⟨by kernel_rfl⟩
instance : CNotAgg Tryz.prog 94 := ⟨by kernel_rfl⟩
instance : CIsSlice Tryz.prog 94 := ⟨by kernel_rfl⟩
instance : CZero Tryz.prog 94 (.slice none 0 0) := ⟨by kernel_rfl⟩
instance : CBytes Tryz.prog 94 24 := ⟨by kernel_rfl⟩
instance : CAgg Tryz.prog 96 2 := ⟨by kernel_rfl⟩
instance : CSize Tryz.prog 96 2 := ⟨by kernel_rfl⟩
instance : CZero Tryz.prog 96 (.agg #[.bool false, .slice none 0 0]) := ⟨by kernel_rfl⟩
instance : CBytes Tryz.prog 96 32 := ⟨by kernel_rfl⟩
instance : CPlaces Tryz.prog 96 [(0, 1), (1, 1)] := ⟨by kernel_rfl⟩
instance : CField Tryz.prog 96 0 0 := ⟨by kernel_rfl⟩
instance : CField Tryz.prog 96 1 1 := ⟨by kernel_rfl⟩
instance : CAgg Tryz.prog 98 3 := ⟨by kernel_rfl⟩
instance : CSize Tryz.prog 98 3 := ⟨by kernel_rfl⟩
instance : CZero Tryz.prog 98 (.agg #[.bool false, .slice none 0 0, .slice none 0 0]) := ⟨by kernel_rfl⟩
instance : CBytes Tryz.prog 98 56 := ⟨by kernel_rfl⟩
instance : CPlaces Tryz.prog 98 [(0, 2), (2, 1)] := ⟨by kernel_rfl⟩
instance : CField Tryz.prog 98 0 0 := ⟨by kernel_rfl⟩
instance : CField Tryz.prog 98 1 2 := ⟨by kernel_rfl⟩
instance : CSlice Tryz.prog 99 101 6 := ⟨by kernel_rfl⟩
instance : CSize Tryz.prog 99 1 := ⟨by kernel_rfl⟩
instance : CNotAgg Tryz.prog 99 := ⟨by kernel_rfl⟩
instance : CIsSlice Tryz.prog 99 := ⟨by kernel_rfl⟩
instance : CZero Tryz.prog 99 (.slice none 0 0) := ⟨by kernel_rfl⟩
instance : CBytes Tryz.prog 99 24 := ⟨by kernel_rfl⟩
instance : CAgg Tryz.prog 101 6 := ⟨by kernel_rfl⟩
instance : CSize Tryz.prog 101 6 := ⟨by kernel_rfl⟩
instance : CZero Tryz.prog 101 (.agg #[.int .i64 0, .bool false, .slice none 0 0, .slice none 0 0, .string ⟨#[]⟩, .slice none 0 0]) := ⟨by kernel_rfl⟩
instance : CBytes Tryz.prog 101 104 := ⟨by kernel_rfl⟩
instance : CPlaces Tryz.prog 101 [(0, 1), (1, 3), (4, 1), (5, 1)] := ⟨by kernel_rfl⟩
instance : CField Tryz.prog 101 0 0 := ⟨by kernel_rfl⟩
instance : CField Tryz.prog 101 1 1 := ⟨by kernel_rfl⟩
instance : CField Tryz.prog 101 2 4 := ⟨by kernel_rfl⟩
instance : CField Tryz.prog 101 3 5 := ⟨by kernel_rfl⟩
instance : CAgg Tryz.prog 102 8 := ⟨by kernel_rfl⟩
instance : CArr Tryz.prog 102 8 1 := ⟨by kernel_rfl⟩
instance : CSize Tryz.prog 102 8 := ⟨by kernel_rfl⟩
instance : CZero Tryz.prog 102 (.agg #[.bool false, .bool false, .bool false, .bool false, .bool false, .bool false, .bool false, .bool false]) := ⟨by kernel_rfl⟩
instance : CBytes Tryz.prog 102 8 := ⟨by kernel_rfl⟩
instance : CSize Tryz.prog 104 1 := ⟨by kernel_rfl⟩
instance : CNotAgg Tryz.prog 104 := ⟨by kernel_rfl⟩
instance : CZero Tryz.prog 104 (.map none) := ⟨by kernel_rfl⟩
instance : CBytes Tryz.prog 104 8 := ⟨by kernel_rfl⟩
instance : CMap Tryz.prog 104 3 3 := ⟨by kernel_rfl⟩
instance : CSize Tryz.prog 105 1 := ⟨by kernel_rfl⟩
instance : CNotAgg Tryz.prog 105 := ⟨by kernel_rfl⟩
instance : CZero Tryz.prog 105 (.map none) := ⟨by kernel_rfl⟩
instance : CBytes Tryz.prog 105 8 := ⟨by kernel_rfl⟩
instance : CMap Tryz.prog 105 3 108 := ⟨by kernel_rfl⟩
instance : CSize Tryz.prog 106 1 := ⟨by kernel_rfl⟩
instance : CNotAgg Tryz.prog 106 := ⟨by kernel_rfl⟩
instance : CZero Tryz.prog 106 (.tuple #[.slice none 0 0, .map none, .int .i64 0]) := ⟨by kernel_rfl⟩
instance : CBytes Tryz.prog 106 0 := ⟨by kernel_rfl⟩
instance : CSize Tryz.prog 108 1 := ⟨by kernel_rfl⟩
instance : CNotAgg Tryz.prog 108 := ⟨by kernel_rfl⟩
instance : CZero Tryz.prog 108 (.pointer none) := ⟨by kernel_rfl⟩
instance : CBytes Tryz.prog 108 8 := ⟨by kernel_rfl⟩
instance : CSize Tryz.prog 109 1 := ⟨by kernel_rfl⟩
instance : CNotAgg Tryz.prog 109 := ⟨by kernel_rfl⟩
instance : CZero Tryz.prog 109 (.tuple #[.pointer none, .bool false]) := ⟨by kernel_rfl⟩
instance : CBytes Tryz.prog 109 0 := ⟨by kernel_rfl⟩
instance : CAgg Tryz.prog 110 16 := ⟨by kernel_rfl⟩
instance : CArr Tryz.prog 110 16 1 := ⟨by kernel_rfl⟩
instance : CSize Tryz.prog 110 16 := ⟨by kernel_rfl⟩
instance : CZero Tryz.prog 110 (.agg #[.bool false, .bool false, .bool false, .bool false, .bool false, .bool false, .bool false, .bool false, .bool false, .bool false, .bool false, .bool false, .bool false, .bool false, .bool false, .bool false]) := ⟨by kernel_rfl⟩
instance : CBytes Tryz.prog 110 16 := ⟨by kernel_rfl⟩
instance : CAgg Tryz.prog 112 17 := ⟨by kernel_rfl⟩
instance : CSize Tryz.prog 112 17 := ⟨by kernel_rfl⟩
instance : CZero Tryz.prog 112 (.agg #[.bool false, .bool false, .bool false, .bool false, .bool false, .bool false, .bool false, .bool false, .bool false, .bool false, .bool false, .bool false, .bool false, .bool false, .bool false, .bool false, .int .i64 0]) := ⟨by kernel_rfl⟩
instance : CBytes Tryz.prog 112 24 := ⟨by kernel_rfl⟩
instance : CPlaces Tryz.prog 112 [(0, 16), (16, 1)] := ⟨by kernel_rfl⟩
instance : CField Tryz.prog 112 0 0 := ⟨by kernel_rfl⟩
instance : CField Tryz.prog 112 1 16 := ⟨by kernel_rfl⟩
instance : CAgg Tryz.prog 114 2 := ⟨by kernel_rfl⟩
instance : CSize Tryz.prog 114 2 := ⟨by kernel_rfl⟩
instance : CZero Tryz.prog 114 (.agg #[.int .i64 0, .int .i64 0]) := ⟨by kernel_rfl⟩
instance : CBytes Tryz.prog 114 16 := ⟨by kernel_rfl⟩
instance : CPlaces Tryz.prog 114 [(0, 1), (1, 1)] := ⟨by kernel_rfl⟩
instance : CField Tryz.prog 114 0 0 := ⟨by kernel_rfl⟩
instance : CField Tryz.prog 114 1 1 := ⟨by kernel_rfl⟩
instance : CAgg Tryz.prog 116 2 := ⟨by kernel_rfl⟩
instance : CSize Tryz.prog 116 2 := ⟨by kernel_rfl⟩
instance : CZero Tryz.prog 116 (.agg #[.string ⟨#[]⟩, .slice none 0 0]) := ⟨by kernel_rfl⟩
instance : CBytes Tryz.prog 116 40 := ⟨by kernel_rfl⟩
instance : CPlaces Tryz.prog 116 [(0, 1), (1, 1)] := ⟨by kernel_rfl⟩
instance : CField Tryz.prog 116 0 0 := ⟨by kernel_rfl⟩
instance : CField Tryz.prog 116 1 1 := ⟨by kernel_rfl⟩
instance : CAgg Tryz.prog 118 3 := ⟨by kernel_rfl⟩
instance : CSize Tryz.prog 118 3 := ⟨by kernel_rfl⟩
instance : CZero Tryz.prog 118 (.agg #[.int .i64 0, .int .i64 0, .bool false]) := ⟨by kernel_rfl⟩
instance : CBytes Tryz.prog 118 24 := ⟨by kernel_rfl⟩
instance : CPlaces Tryz.prog 118 [(0, 1), (1, 1), (2, 1)] := ⟨by kernel_rfl⟩
instance : CField Tryz.prog 118 0 0 := ⟨by kernel_rfl⟩
instance : CField Tryz.prog 118 1 1 := ⟨by kernel_rfl⟩
instance : CField Tryz.prog 118 2 2 := ⟨by kernel_rfl⟩
instance : CSize Tryz.prog 126 1 := ⟨by kernel_rfl⟩
instance : CNotAgg Tryz.prog 126 := ⟨by kernel_rfl⟩
instance : CBytes Tryz.prog 126 16 := ⟨by kernel_rfl⟩
instance : CSlice Tryz.prog 130 4 1 := ⟨by kernel_rfl⟩
instance : CSize Tryz.prog 130 1 := ⟨by kernel_rfl⟩
instance : CNotAgg Tryz.prog 130 := ⟨by kernel_rfl⟩
instance : CIsSlice Tryz.prog 130 := ⟨by kernel_rfl⟩
instance : CZero Tryz.prog 130 (.slice none 0 0) := ⟨by kernel_rfl⟩
instance : CBytes Tryz.prog 130 24 := ⟨by kernel_rfl⟩
instance : CSize Tryz.prog 134 1 := ⟨by kernel_rfl⟩
instance : CNotAgg Tryz.prog 134 := ⟨by kernel_rfl⟩
instance : CZero Tryz.prog 134 (.int .i64 0) := ⟨by kernel_rfl⟩
instance : CBytes Tryz.prog 134 8 := ⟨by kernel_rfl⟩
instance : CInt Tryz.prog 134 .i64 := ⟨by kernel_rfl⟩
instance : CSize Tryz.prog 135 1 := ⟨by kernel_rfl⟩
instance : CNotAgg Tryz.prog 135 := ⟨by kernel_rfl⟩
instance : CZero Tryz.prog 135 (.tuple #[.int .i64 0, .int .i64 0]) := ⟨by kernel_rfl⟩
instance : CBytes Tryz.prog 135 0 := ⟨by kernel_rfl⟩
instance : CSize Tryz.prog 141 1 := ⟨by kernel_rfl⟩
instance : CNotAgg Tryz.prog 141 := ⟨by kernel_rfl⟩
instance : CZero Tryz.prog 141 (.int .u32 0) := ⟨by kernel_rfl⟩
instance : CBytes Tryz.prog 141 4 := ⟨by kernel_rfl⟩
instance : CInt Tryz.prog 141 .u32 := ⟨by kernel_rfl⟩
instance : CSize Tryz.prog 143 1 := ⟨by kernel_rfl⟩
instance : CNotAgg Tryz.prog 143 := ⟨by kernel_rfl⟩
instance : CZero Tryz.prog 143 (.int .u64 0) := ⟨by kernel_rfl⟩
instance : CBytes Tryz.prog 143 8 := ⟨by kernel_rfl⟩
instance : CInt Tryz.prog 143 .u64 := ⟨by kernel_rfl⟩
instance : CSlice Tryz.prog 144 147 2 := ⟨by kernel_rfl⟩
instance : CSize Tryz.prog 144 1 := ⟨by kernel_rfl⟩
instance : CNotAgg Tryz.prog 144 := ⟨by kernel_rfl⟩
instance : CIsSlice Tryz.prog 144 := ⟨by kernel_rfl⟩
instance : CZero Tryz.prog 144 (.slice none 0 0) := ⟨by kernel_rfl⟩
instance : CBytes Tryz.prog 144 24 := ⟨by kernel_rfl⟩
instance : CAgg Tryz.prog 147 2 := ⟨by kernel_rfl⟩
instance : CSize Tryz.prog 147 2 := ⟨by kernel_rfl⟩
instance : CZero Tryz.prog 147 (.agg #[.int .i64 0, .int .i64 0]) := ⟨by kernel_rfl⟩
instance : CBytes Tryz.prog 147 16 := ⟨by kernel_rfl⟩
instance : CPlaces Tryz.prog 147 [(0, 1), (1, 1)] := ⟨by kernel_rfl⟩
instance : CField Tryz.prog 147 0 0 := ⟨by kernel_rfl⟩
instance : CField Tryz.prog 147 1 1 := ⟨by kernel_rfl⟩
instance : CAgg Tryz.prog 150 6 := ⟨by kernel_rfl⟩
instance : CSize Tryz.prog 150 6 := ⟨by kernel_rfl⟩
instance : CZero Tryz.prog 150 (.agg #[.int .i64 0, .int .i64 0, .int .i64 0, .int .i64 0, .bool false, .int .i64 0]) := ⟨by kernel_rfl⟩
instance : CBytes Tryz.prog 150 48 := ⟨by kernel_rfl⟩
instance : CPlaces Tryz.prog 150 [(0, 1), (1, 1), (2, 1), (3, 1), (4, 1), (5, 1)] := ⟨by kernel_rfl⟩
instance : CField Tryz.prog 150 0 0 := ⟨by kernel_rfl⟩
instance : CField Tryz.prog 150 1 1 := ⟨by kernel_rfl⟩
instance : CField Tryz.prog 150 2 2 := ⟨by kernel_rfl⟩
instance : CField Tryz.prog 150 3 3 := ⟨by kernel_rfl⟩
instance : CField Tryz.prog 150 4 4 := ⟨by kernel_rfl⟩
instance : CField Tryz.prog 150 5 5 := ⟨by kernel_rfl⟩
instance : CSize Tryz.prog 153 1 := ⟨by kernel_rfl⟩
instance : CNotAgg Tryz.prog 153 := ⟨by kernel_rfl⟩
instance : CZero Tryz.prog 153 (.tuple #[.slice none 0 0, .bool false]) := ⟨by kernel_rfl⟩
instance : CBytes Tryz.prog 153 0 := ⟨by kernel_rfl⟩
instance : CSize Tryz.prog 164 1 := ⟨by kernel_rfl⟩
instance : CNotAgg Tryz.prog 164 := ⟨by kernel_rfl⟩
instance : CBytes Tryz.prog 164 8 := ⟨by kernel_rfl⟩
instance : CSize Tryz.prog 167 1 := ⟨by kernel_rfl⟩
instance : CNotAgg Tryz.prog 167 := ⟨by kernel_rfl⟩
instance : CZero Tryz.prog 167 (.map none) := ⟨by kernel_rfl⟩
instance : CBytes Tryz.prog 167 8 := ⟨by kernel_rfl⟩
instance : CMap Tryz.prog 167 9 4 := ⟨by kernel_rfl⟩
instance : CSize Tryz.prog 168 1 := ⟨by kernel_rfl⟩
instance : CNotAgg Tryz.prog 168 := ⟨by kernel_rfl⟩
instance : CZero Tryz.prog 168 (.tuple #[.slice none 0 0, .int .i64 0]) := ⟨by kernel_rfl⟩
instance : CBytes Tryz.prog 168 0 := ⟨by kernel_rfl⟩
instance : CSize Tryz.prog 172 1 := ⟨by kernel_rfl⟩
instance : CNotAgg Tryz.prog 172 := ⟨by kernel_rfl⟩
instance : CZero Tryz.prog 172 (.map none) := ⟨by kernel_rfl⟩
instance : CBytes Tryz.prog 172 8 := ⟨by kernel_rfl⟩
instance : CMap Tryz.prog 172 3 173 := ⟨by kernel_rfl⟩
instance : CSize Tryz.prog 173 1 := ⟨by kernel_rfl⟩
instance : CNotAgg Tryz.prog 173 := ⟨by kernel_rfl⟩
instance : CZero Tryz.prog 173 (.map none) := ⟨by kernel_rfl⟩
instance : CBytes Tryz.prog 173 8 := ⟨by kernel_rfl⟩
instance : CMap Tryz.prog 173 3 4 := ⟨by kernel_rfl⟩
instance : CSize Tryz.prog 174 1 := ⟨by kernel_rfl⟩
instance : CNotAgg Tryz.prog 174 := ⟨by kernel_rfl⟩
instance : CZero Tryz.prog 174 (.tuple #[.map none, .bool false]) := ⟨by kernel_rfl⟩
instance : CBytes Tryz.prog 174 0 := ⟨by kernel_rfl⟩
instance : CSize Tryz.prog 175 1 := ⟨by kernel_rfl⟩
instance : CNotAgg Tryz.prog 175 := ⟨by kernel_rfl⟩
instance : CZero Tryz.prog 175 (.tuple #[.int .i64 0, .int .i64 0]) := ⟨by kernel_rfl⟩
instance : CBytes Tryz.prog 175 0 := ⟨by kernel_rfl⟩
instance : CSlice Tryz.prog 183 213 5 := ⟨by kernel_rfl⟩
instance : CSize Tryz.prog 183 1 := ⟨by kernel_rfl⟩
instance : CNotAgg Tryz.prog 183 := ⟨by kernel_rfl⟩
instance : CIsSlice Tryz.prog 183 := ⟨by kernel_rfl⟩
instance : CZero Tryz.prog 183 (.slice none 0 0) := ⟨by kernel_rfl⟩
instance : CBytes Tryz.prog 183 24 := ⟨by kernel_rfl⟩
instance : CAgg Tryz.prog 185 3 := ⟨by kernel_rfl⟩
instance : CSize Tryz.prog 185 3 := ⟨by kernel_rfl⟩
instance : CZero Tryz.prog 185 (.agg #[.slice none 0 0, .int .i64 0, .slice none 0 0]) := ⟨by kernel_rfl⟩
instance : CBytes Tryz.prog 185 56 := ⟨by kernel_rfl⟩
instance : CPlaces Tryz.prog 185 [(0, 1), (1, 1), (2, 1)] := ⟨by kernel_rfl⟩
instance : CField Tryz.prog 185 0 0 := ⟨by kernel_rfl⟩
instance : CField Tryz.prog 185 1 1 := ⟨by kernel_rfl⟩
instance : CField Tryz.prog 185 2 2 := ⟨by kernel_rfl⟩
instance : CSize Tryz.prog 189 1 := ⟨by kernel_rfl⟩
instance : CNotAgg Tryz.prog 189 := ⟨by kernel_rfl⟩
instance : CBytes Tryz.prog 189 8 := ⟨by kernel_rfl⟩
instance : CAgg Tryz.prog 191 2 := ⟨by kernel_rfl⟩
instance : CSize Tryz.prog 191 2 := ⟨by kernel_rfl⟩
instance : CZero Tryz.prog 191 (.agg #[.slice none 0 0, .int .i64 0]) := ⟨by kernel_rfl⟩
instance : CBytes Tryz.prog 191 32 := ⟨by kernel_rfl⟩
instance : CPlaces Tryz.prog 191 [(0, 1), (1, 1)] := ⟨by kernel_rfl⟩
instance : CField Tryz.prog 191 0 0 := ⟨by kernel_rfl⟩
instance : CField Tryz.prog 191 1 1 := ⟨by kernel_rfl⟩
instance : CSize Tryz.prog 193 1 := ⟨by kernel_rfl⟩
instance : CNotAgg Tryz.prog 193 := ⟨by kernel_rfl⟩
instance : CZero Tryz.prog 193 (.tuple #[.slice none 0 0, .slice none 0 0, .int .i64 0]) := ⟨by kernel_rfl⟩
instance : CBytes Tryz.prog 193 0 := ⟨by kernel_rfl⟩
instance : CSlice Tryz.prog 211 98 3 := ⟨by kernel_rfl⟩
instance : CSize Tryz.prog 211 1 := ⟨by kernel_rfl⟩
instance : CNotAgg Tryz.prog 211 := ⟨by kernel_rfl⟩
instance : CIsSlice Tryz.prog 211 := ⟨by kernel_rfl⟩
instance : CZero Tryz.prog 211 (.slice none 0 0) := ⟨by kernel_rfl⟩
instance : CBytes Tryz.prog 211 24 := ⟨by kernel_rfl⟩
instance : CAgg Tryz.prog 213 5 := ⟨by kernel_rfl⟩
instance : CSize Tryz.prog 213 5 := ⟨by kernel_rfl⟩
instance : CZero Tryz.prog 213 (.agg #[.string ⟨#[]⟩, .bool false, .slice none 0 0, .slice none 0 0, .slice none 0 0]) := ⟨by kernel_rfl⟩
instance : CBytes Tryz.prog 213 96 := ⟨by kernel_rfl⟩
instance : CPlaces Tryz.prog 213 [(0, 1), (1, 3), (4, 1)] := ⟨by kernel_rfl⟩
instance : CField Tryz.prog 213 0 0 := ⟨by kernel_rfl⟩
instance : CField Tryz.prog 213 1 1 := ⟨by kernel_rfl⟩
instance : CField Tryz.prog 213 2 4 := ⟨by kernel_rfl⟩
instance : CAgg Tryz.prog 220 2 := ⟨by kernel_rfl⟩
instance : CSize Tryz.prog 220 2 := ⟨by kernel_rfl⟩
instance : CZero Tryz.prog 220 (.agg #[.int .i64 0, .int .i64 0]) := ⟨by kernel_rfl⟩
instance : CBytes Tryz.prog 220 16 := ⟨by kernel_rfl⟩
instance : CPlaces Tryz.prog 220 [(0, 1), (1, 1)] := ⟨by kernel_rfl⟩
instance : CField Tryz.prog 220 0 0 := ⟨by kernel_rfl⟩
instance : CField Tryz.prog 220 1 1 := ⟨by kernel_rfl⟩
instance : CSize Tryz.prog 237 1 := ⟨by kernel_rfl⟩
instance : CNotAgg Tryz.prog 237 := ⟨by kernel_rfl⟩
instance : CBytes Tryz.prog 237 8 := ⟨by kernel_rfl⟩
instance : CSize Tryz.prog 240 1 := ⟨by kernel_rfl⟩
instance : CNotAgg Tryz.prog 240 := ⟨by kernel_rfl⟩
instance : CZero Tryz.prog 240 (.tuple #[.int .u64 0, .int .u64 0]) := ⟨by kernel_rfl⟩
instance : CBytes Tryz.prog 240 0 := ⟨by kernel_rfl⟩
instance : CSize Tryz.prog 253 1 := ⟨by kernel_rfl⟩
instance : CNotAgg Tryz.prog 253 := ⟨by kernel_rfl⟩
instance : CBytes Tryz.prog 253 16 := ⟨by kernel_rfl⟩
instance : CCall Tryz.prog 3 := ⟨by kernel_rfl⟩
instance : CCall Tryz.prog 4 := ⟨by kernel_rfl⟩
instance : CCall Tryz.prog 5 := ⟨by kernel_rfl⟩
instance : CCall Tryz.prog 6 := ⟨by kernel_rfl⟩
instance : CCall Tryz.prog 7 := ⟨by kernel_rfl⟩
instance : CCall Tryz.prog 8 := ⟨by kernel_rfl⟩
instance : CCall Tryz.prog 9 := ⟨by kernel_rfl⟩
instance : CCall Tryz.prog 10 := ⟨by kernel_rfl⟩
instance : CCall Tryz.prog 11 := ⟨by kernel_rfl⟩
instance : CCall Tryz.prog 12 := ⟨by kernel_rfl⟩
instance : CCall Tryz.prog 13 := ⟨by kernel_rfl⟩
instance : CCall Tryz.prog 14 := ⟨by kernel_rfl⟩
instance : CCall Tryz.prog 15 := ⟨by kernel_rfl⟩
instance : CCall Tryz.prog 16 := ⟨by kernel_rfl⟩
instance : CCall Tryz.prog 17 := ⟨by kernel_rfl⟩
instance : CCall Tryz.prog 18 := ⟨by kernel_rfl⟩
instance : CCall Tryz.prog 19 := ⟨by kernel_rfl⟩
instance : CCall Tryz.prog 20 := ⟨by kernel_rfl⟩
instance : CCall Tryz.prog 21 := ⟨by kernel_rfl⟩
instance : CCall Tryz.prog 22 := ⟨by kernel_rfl⟩
instance : CCall Tryz.prog 23 := ⟨by kernel_rfl⟩
instance : CCall Tryz.prog 24 := ⟨by kernel_rfl⟩
instance : CCall Tryz.prog 25 := ⟨by kernel_rfl⟩
instance : CCall Tryz.prog 26 := ⟨by kernel_rfl⟩
instance : CCall Tryz.prog 27 := ⟨by kernel_rfl⟩
instance : CCall Tryz.prog 28 := ⟨by kernel_rfl⟩
instance : CCall Tryz.prog 29 := ⟨by kernel_rfl⟩
instance : CCall Tryz.prog 30 := ⟨by kernel_rfl⟩
instance : CCall Tryz.prog 31 := ⟨by kernel_rfl⟩
instance : CCall Tryz.prog 32 := ⟨by kernel_rfl⟩
instance : CCall Tryz.prog 33 := ⟨by kernel_rfl⟩
instance : CCall Tryz.prog 34 := ⟨by kernel_rfl⟩
instance : CCall Tryz.prog 35 := ⟨by kernel_rfl⟩
instance : CCall Tryz.prog 36 := ⟨by kernel_rfl⟩
instance : CCall Tryz.prog 37 := ⟨by kernel_rfl⟩
instance : CCall Tryz.prog 38 := ⟨by kernel_rfl⟩
instance : CCall Tryz.prog 39 := ⟨by kernel_rfl⟩
instance : CCall Tryz.prog 40 := ⟨by kernel_rfl⟩
instance : CCall Tryz.prog 41 := ⟨by kernel_rfl⟩
instance : CCall Tryz.prog 42 := ⟨by kernel_rfl⟩
instance : CCall Tryz.prog 43 := ⟨by kernel_rfl⟩
instance : CCall Tryz.prog 44 := ⟨by kernel_rfl⟩
instance : CCall Tryz.prog 45 := ⟨by kernel_rfl⟩
instance : CCall Tryz.prog 46 := ⟨by kernel_rfl⟩
instance : CCall Tryz.prog 47 := ⟨by kernel_rfl⟩
instance : CCall Tryz.prog 48 := ⟨by kernel_rfl⟩
instance : CCall Tryz.prog 49 := ⟨by kernel_rfl⟩
instance : CCall Tryz.prog 50 := ⟨by kernel_rfl⟩
instance : CCall Tryz.prog 51 := ⟨by kernel_rfl⟩
instance : CCall Tryz.prog 52 := ⟨by kernel_rfl⟩
instance : CCall Tryz.prog 53 := ⟨by kernel_rfl⟩
instance : CCall Tryz.prog 54 := ⟨by kernel_rfl⟩
instance : CCall Tryz.prog 55 := ⟨by kernel_rfl⟩
instance : CCall Tryz.prog 56 := ⟨by kernel_rfl⟩
instance : CCall Tryz.prog 57 := ⟨by kernel_rfl⟩
instance : CCall Tryz.prog 58 := ⟨by kernel_rfl⟩
instance : CCall Tryz.prog 59 := ⟨by kernel_rfl⟩
instance : CCall Tryz.prog 60 := ⟨by kernel_rfl⟩
instance : CCall Tryz.prog 66 := ⟨by kernel_rfl⟩
instance : CCall Tryz.prog 67 := ⟨by kernel_rfl⟩
instance : CCall Tryz.prog 68 := ⟨by kernel_rfl⟩
instance : CCall Tryz.prog 69 := ⟨by kernel_rfl⟩
instance : CCall Tryz.prog 70 := ⟨by kernel_rfl⟩
instance : CCall Tryz.prog 71 := ⟨by kernel_rfl⟩
instance : CCall Tryz.prog 72 := ⟨by kernel_rfl⟩
instance : CCall Tryz.prog 73 := ⟨by kernel_rfl⟩
instance : CCall Tryz.prog 74 := ⟨by kernel_rfl⟩
instance : CCall Tryz.prog 75 := ⟨by kernel_rfl⟩
instance : CCall Tryz.prog 76 := ⟨by kernel_rfl⟩
instance : CCall Tryz.prog 77 := ⟨by kernel_rfl⟩
instance : CCall Tryz.prog 78 := ⟨by kernel_rfl⟩
instance : CCall Tryz.prog 79 := ⟨by kernel_rfl⟩
instance : CCall Tryz.prog 81 := ⟨by kernel_rfl⟩
instance : CCall Tryz.prog 82 := ⟨by kernel_rfl⟩
instance : CCall Tryz.prog 83 := ⟨by kernel_rfl⟩
instance : CCall Tryz.prog 84 := ⟨by kernel_rfl⟩
instance : CCall Tryz.prog 85 := ⟨by kernel_rfl⟩
instance : CCall Tryz.prog 86 := ⟨by kernel_rfl⟩
instance : CCall Tryz.prog 87 := ⟨by kernel_rfl⟩
instance : CCall Tryz.prog 88 := ⟨by kernel_rfl⟩
instance : CCall Tryz.prog 89 := ⟨by kernel_rfl⟩
instance : CCall Tryz.prog 92 := ⟨by kernel_rfl⟩
instance : CCall Tryz.prog 93 := ⟨by kernel_rfl⟩
instance : CCall Tryz.prog 95 := ⟨by kernel_rfl⟩
instance : CCall Tryz.prog 96 := ⟨by kernel_rfl⟩
instance : CCall Tryz.prog 97 := ⟨by kernel_rfl⟩
instance : CCall Tryz.prog 98 := ⟨by kernel_rfl⟩
instance : CCall Tryz.prog 99 := ⟨by kernel_rfl⟩
instance : CCall Tryz.prog 100 := ⟨by kernel_rfl⟩
instance : CCall Tryz.prog 101 := ⟨by kernel_rfl⟩
instance : CCall Tryz.prog 102 := ⟨by kernel_rfl⟩
instance : CCall Tryz.prog 103 := ⟨by kernel_rfl⟩
instance : CCall Tryz.prog 104 := ⟨by kernel_rfl⟩
instance : CCall Tryz.prog 105 := ⟨by kernel_rfl⟩
instance : CCall Tryz.prog 106 := ⟨by kernel_rfl⟩
instance : CCall Tryz.prog 107 := ⟨by kernel_rfl⟩
instance : CCall Tryz.prog 108 := ⟨by kernel_rfl⟩
instance : CCall Tryz.prog 109 := ⟨by kernel_rfl⟩
instance : CCall Tryz.prog 110 := ⟨by kernel_rfl⟩
instance : CCall Tryz.prog 111 := ⟨by kernel_rfl⟩
instance : CCall Tryz.prog 112 := ⟨by kernel_rfl⟩
instance : CCall Tryz.prog 113 := ⟨by kernel_rfl⟩
instance : CCall Tryz.prog 114 := ⟨by kernel_rfl⟩
instance : CCall Tryz.prog 115 := ⟨by kernel_rfl⟩
instance : CCall Tryz.prog 116 := ⟨by kernel_rfl⟩
instance : CCall Tryz.prog 117 := ⟨by kernel_rfl⟩
instance : CCall Tryz.prog 118 := ⟨by kernel_rfl⟩
instance : CCall Tryz.prog 121 := ⟨by kernel_rfl⟩
instance : CCall Tryz.prog 122 := ⟨by kernel_rfl⟩
instance : CCall Tryz.prog 123 := ⟨by kernel_rfl⟩
instance : CCall Tryz.prog 124 := ⟨by kernel_rfl⟩
instance : CCall Tryz.prog 125 := ⟨by kernel_rfl⟩
instance : CCall Tryz.prog 126 := ⟨by kernel_rfl⟩
instance : CCall Tryz.prog 130 := ⟨by kernel_rfl⟩
instance : CCall Tryz.prog 133 := ⟨by kernel_rfl⟩
instance : CCall Tryz.prog 134 := ⟨by kernel_rfl⟩
instance : CCall Tryz.prog 135 := ⟨by kernel_rfl⟩
instance : CCall Tryz.prog 136 := ⟨by kernel_rfl⟩
instance : CCall Tryz.prog 137 := ⟨by kernel_rfl⟩
instance : CCall Tryz.prog 138 := ⟨by kernel_rfl⟩
instance : CCall Tryz.prog 139 := ⟨by kernel_rfl⟩
instance : CCall Tryz.prog 143 := ⟨by kernel_rfl⟩
instance : CCall Tryz.prog 145 := ⟨by kernel_rfl⟩
instance : CCall Tryz.prog 146 := ⟨by kernel_rfl⟩
instance : CCall Tryz.prog 147 := ⟨by kernel_rfl⟩
instance : CCall Tryz.prog 148 := ⟨by kernel_rfl⟩
instance : CCall Tryz.prog 149 := ⟨by kernel_rfl⟩
instance : CCall Tryz.prog 150 := ⟨by kernel_rfl⟩
instance : CCall Tryz.prog 156 := ⟨by kernel_rfl⟩
instance : CCall Tryz.prog 157 := ⟨by kernel_rfl⟩
instance : CCall Tryz.prog 158 := ⟨by kernel_rfl⟩
instance : CCall Tryz.prog 159 := ⟨by kernel_rfl⟩
instance : CCall Tryz.prog 175 := ⟨by kernel_rfl⟩
instance : CInts Tryz.prog 52 4 := ⟨by kernel_rfl⟩
instance : CInts Tryz.prog 57 6 := ⟨by kernel_rfl⟩
instance : CInts Tryz.prog 69 3 := ⟨by kernel_rfl⟩
instance : CInts Tryz.prog 71 5 := ⟨by kernel_rfl⟩
instance : CInts Tryz.prog 114 2 := ⟨by kernel_rfl⟩
instance : CInts Tryz.prog 147 2 := ⟨by kernel_rfl⟩
instance : CInts Tryz.prog 220 2 := ⟨by kernel_rfl⟩
def len8tab : ByteArray := ⟨#[0, 1, 2, 2, 3, 3, 3, 3, 4, 4, 4, 4, 4, 4, 4, 4, 5, 5, 5, 5, 5, 5, 5, 5, 5, 5, 5, 5, 5, 5, 5, 5, 6, 6, 6, 6, 6, 6, 6, 6, 6, 6, 6, 6, 6, 6, 6, 6, 6, 6, 6, 6, 6, 6, 6, 6, 6, 6, 6, 6, 6, 6, 6, 6, 7, 7, 7, 7, 7, 7, 7, 7, 7, 7, 7, 7, 7, 7, 7, 7, 7, 7, 7, 7, 7, 7, 7, 7, 7, 7, 7, 7, 7, 7, 7, 7, 7, 7, 7, 7, 7, 7, 7, 7, 7, 7, 7, 7, 7, 7, 7, 7, 7, 7, 7, 7, 7, 7, 7, 7, 7, 7, 7, 7, 7, 7, 7, 7, 8, 8, 8, 8, 8, 8, 8, 8, 8, 8, 8, 8, 8, 8, 8, 8, 8, 8, 8, 8, 8, 8, 8, 8, 8, 8, 8, 8, 8, 8, 8, 8, 8, 8, 8, 8, 8, 8, 8, 8, 8, 8, 8, 8, 8, 8, 8, 8, 8, 8, 8, 8, 8, 8, 8, 8, 8, 8, 8, 8, 8, 8, 8, 8, 8, 8, 8, 8, 8, 8, 8, 8, 8, 8, 8, 8, 8, 8, 8, 8, 8, 8, 8, 8, 8, 8, 8, 8, 8, 8, 8, 8, 8, 8, 8, 8, 8, 8, 8, 8, 8, 8, 8, 8, 8, 8, 8, 8, 8, 8, 8, 8, 8, 8, 8, 8, 8, 8, 8, 8, 8, 8, 8, 8, 8, 8, 8, 8]⟩
def l8 (z : Nat) : Nat := (bAt len8tab z).toNat
def l16 (z : Nat) : Nat := if 256 ≤ z then l8 (z / 256) + 8 else l8 z
def l32 (z : Nat) : Nat := if 65536 ≤ z then l16 (z / 65536) + 16 else l16 z
def l64 (z : Nat) : Nat := if 4294967296 ≤ z then l32 (z / 4294967296) + 32 else l32 z
theorem l8_all : ((List.range 256).all fun z => decide (z < 2 ^ l8 z) && decide (l8 z ≤ 8)) = true := by kernel_rfl
theorem l8_lt {z : Nat} (h : z < 256) : z < 2 ^ l8 z ∧ l8 z ≤ 8 := by
 have := List.all_eq_true.1 l8_all z (List.mem_range.2 h)
 simpa using this
theorem up_lt {z k a b : Nat} (hb : b = 2 ^ a) (h : z / b < 2 ^ k) : z < 2 ^ (k + a) := by
 have hp : 0 < b := by rw [hb]; exact Nat.two_pow_pos a
 rw [Nat.pow_add, ← hb]
 exact (Nat.div_lt_iff_lt_mul hp).1 h
theorem l16_lt {z : Nat} (h : z < 65536) : z < 2 ^ l16 z ∧ l16 z ≤ 16 := by
 unfold l16
 split
 ·have := l8_lt (z := z / 256) (by omega)
  exact ⟨up_lt (by decide) this.1, by omega⟩
 ·have := l8_lt (z := z) (by omega)
  exact ⟨this.1, by omega⟩
theorem l32_lt {z : Nat} (h : z < 4294967296) : z < 2 ^ l32 z ∧ l32 z ≤ 32 := by
 unfold l32
 split
 ·have := l16_lt (z := z / 65536) (by omega)
  exact ⟨up_lt (by decide) this.1, by omega⟩
 ·have := l16_lt (z := z) (by omega)
  exact ⟨this.1, by omega⟩
theorem l64_lt {z : Nat} (h : z < 18446744073709551616) : z < 2 ^ l64 z ∧ l64 z ≤ 64 := by
 unfold l64
 split
 ·have := l32_lt (z := z / 4294967296) (by omega)
  exact ⟨up_lt (by decide) this.1, by omega⟩
 ·have := l32_lt (z := z) (by omega)
  exact ⟨this.1, by omega⟩
theorem l8_val {z : Nat} : (l8 z : Int) = bAt len8tab z := by
 unfold l8
 have := (bAt_range len8tab z).1
 omega
theorem fdiv_nat (z b : Nat) : ((z : Int).fdiv (b : Int)) = ((z / b : Nat) : Int) := by
 rw [Int.fdiv_eq_ediv_of_nonneg _ (by omega)]
 rfl
theorem wrap_u8 {z : Nat} (h : z < 256) : IntKind.u8.wrap (z : Int) = z := by
 have : IntKind.u8.wrap (z : Int) = (z : Int) % 256 := rfl
 rw [this]
 omega
theorem wrap_i8 {z : Nat} : IntKind.i64.wrap (bAt len8tab z) = (l8 z : Int) := by
 have h := bAt_range len8tab z
 rw [← l8_val, IntKind.wrap_i64]
 have := l8_val (z := z)
 omega
theorem l8_le (z : Nat) : l8 z ≤ 255 := by
 have h := bAt_range len8tab z
 have := l8_val (z := z)
 omega
theorem tab_size : len8tab.size = 256 := by kernel_rfl
theorem len64_ok (w : World) (x : Nat) (hx : x < 18446744073709551616) : Ok Tryz.prog 52 [.int .u64 (x : Int)].toArray w fun r _ => r = .int .i64 (l64 x : Int) := by
 have b1 := l8_le x
 have b2 := l8_le (x / 256)
 have b3 := l8_le (x / 65536)
 have b4 := l8_le (x / 65536 / 256)
 have b5 := l8_le (x / 4294967296)
 have b6 := l8_le (x / 4294967296 / 256)
 have b7 := l8_le (x / 4294967296 / 65536)
 have b8 := l8_le (x / 4294967296 / 65536 / 256)
 refine ok_enter Tryz.func52 rfl Tryz.ntmps52 rfl ?_
 focus (refine gV ?_; refine gM ?_; refine gO ?_; refine gQ ?_; refine gV ?_; refine gM ?_; refine gC ?_; refine gO ?_; refine gc_if_dec rfl (fun _ => ?_) (fun _ => ?_); refine gV ?_; refine gM ?_; apply gw_d; exact det_shr rfl rfl rfl rfl (by decide) (fdiv_nat _ 4294967296); refine gM ?_; refine gO ?_; refine gG ?_; refine gM ?_; refine gO ?_; refine gQ ?_; refine gV ?_; refine gM ?_; refine gC ?_; refine gO ?_; refine gc_if_dec rfl (fun _ => ?_) (fun _ => ?_); refine gV ?_; refine gM ?_; apply gw_d; exact det_shr rfl rfl rfl rfl (by decide) (fdiv_nat _ 65536); refine gM ?_; refine gO ?_; refine gG ?_; refine gM ?_; refine gA ?_; refine gM ?_; refine gO ?_; refine gQ ?_; refine gV ?_; refine gM ?_; refine gC ?_; refine gO ?_; refine gc_if_dec rfl (fun _ => ?_) (fun _ => ?_); refine gV ?_; refine gM ?_; apply gw_d; exact det_shr rfl rfl rfl rfl (by decide) (fdiv_nat _ 256); refine gM ?_; refine gO ?_; refine gG ?_; refine gM ?_; refine gA ?_; refine gM ?_; refine gN ?_; (iterate 2 refine gM ?_); apply gw_d; exact det_conv rfl rfl rfl (wrap_u8 (by omega)); apply gw_d; exact w_sidx (s := len8tab) rfl rfl rfl rfl rfl (by rw [tab_size]; omega); apply gw_d; exact det_conv rfl rfl rfl wrap_i8; refine gA ?_; refine gM ?_; refine gO ?_; refine gR ?_; rotate_left; refine gK ?_; refine gX ?_; refine gV ?_; (iterate 2 refine gM ?_); apply gw_d; exact det_conv rfl rfl rfl (wrap_u8 (by omega)); apply gw_d; exact w_sidx (s := len8tab) rfl rfl rfl rfl rfl (by rw [tab_size]; omega); apply gw_d; exact det_conv rfl rfl rfl wrap_i8; refine gA ?_; refine gM ?_; refine gO ?_; refine gR ?_; rotate_left; refine gK ?_; refine gX ?_; refine gQ ?_; refine gV ?_; refine gM ?_; refine gC ?_; refine gO ?_; refine gc_if_dec rfl (fun _ => ?_) (fun _ => ?_); refine gV ?_; refine gM ?_; apply gw_d; exact det_shr rfl rfl rfl rfl (by decide) (fdiv_nat _ 256); refine gM ?_; refine gO ?_; refine gG ?_; refine gM ?_; refine gA ?_; refine gM ?_; refine gN ?_; (iterate 2 refine gM ?_); apply gw_d; exact det_conv rfl rfl rfl (wrap_u8 (by omega)); apply gw_d; exact w_sidx (s := len8tab) rfl rfl rfl rfl rfl (by rw [tab_size]; omega); apply gw_d; exact det_conv rfl rfl rfl wrap_i8; refine gA ?_; refine gM ?_; refine gO ?_; refine gR ?_; rotate_left; refine gK ?_; refine gX ?_; refine gV ?_; (iterate 2 refine gM ?_); apply gw_d; exact det_conv rfl rfl rfl (wrap_u8 (by omega)); apply gw_d; exact w_sidx (s := len8tab) rfl rfl rfl rfl rfl (by rw [tab_size]; omega); apply gw_d; exact det_conv rfl rfl rfl wrap_i8; refine gA ?_; refine gM ?_; refine gO ?_; refine gR ?_; rotate_left; refine gK ?_; refine gX ?_; refine gQ ?_; refine gV ?_; refine gM ?_; refine gC ?_; refine gO ?_; refine gc_if_dec rfl (fun _ => ?_) (fun _ => ?_); refine gV ?_; refine gM ?_; apply gw_d; exact det_shr rfl rfl rfl rfl (by decide) (fdiv_nat _ 65536); refine gM ?_; refine gO ?_; refine gG ?_; refine gM ?_; refine gA ?_; refine gM ?_; refine gO ?_; refine gQ ?_; refine gV ?_; refine gM ?_; refine gC ?_; refine gO ?_; refine gc_if_dec rfl (fun _ => ?_) (fun _ => ?_); refine gV ?_; refine gM ?_; apply gw_d; exact det_shr rfl rfl rfl rfl (by decide) (fdiv_nat _ 256); refine gM ?_; refine gO ?_; refine gG ?_; refine gM ?_; refine gA ?_; refine gM ?_; refine gN ?_; (iterate 2 refine gM ?_); apply gw_d; exact det_conv rfl rfl rfl (wrap_u8 (by omega)); apply gw_d; exact w_sidx (s := len8tab) rfl rfl rfl rfl rfl (by rw [tab_size]; omega); apply gw_d; exact det_conv rfl rfl rfl wrap_i8; refine gA ?_; refine gM ?_; refine gO ?_; refine gR ?_; rotate_left; refine gK ?_; refine gX ?_; refine gV ?_; (iterate 2 refine gM ?_); apply gw_d; exact det_conv rfl rfl rfl (wrap_u8 (by omega)); apply gw_d; exact w_sidx (s := len8tab) rfl rfl rfl rfl rfl (by rw [tab_size]; omega); apply gw_d; exact det_conv rfl rfl rfl wrap_i8; refine gA ?_; refine gM ?_; refine gO ?_; refine gR ?_; rotate_left; refine gK ?_; refine gX ?_; refine gQ ?_; refine gV ?_; refine gM ?_; refine gC ?_; refine gO ?_; refine gc_if_dec rfl (fun _ => ?_) (fun _ => ?_); refine gV ?_; refine gM ?_; apply gw_d; exact det_shr rfl rfl rfl rfl (by decide) (fdiv_nat _ 256); refine gM ?_; refine gO ?_; refine gG ?_; refine gM ?_; refine gA ?_; refine gM ?_; refine gN ?_; (iterate 2 refine gM ?_); apply gw_d; exact det_conv rfl rfl rfl (wrap_u8 (by omega)); apply gw_d; exact w_sidx (s := len8tab) rfl rfl rfl rfl rfl (by rw [tab_size]; omega); apply gw_d; exact det_conv rfl rfl rfl wrap_i8; refine gA ?_; refine gM ?_; refine gO ?_; refine gR ?_; rotate_left; refine gK ?_; refine gX ?_; refine gV ?_; (iterate 2 refine gM ?_); apply gw_d; exact det_conv rfl rfl rfl (wrap_u8 (by omega)); apply gw_d; exact w_sidx (s := len8tab) rfl rfl rfl rfl rfl (by rw [tab_size]; omega); apply gw_d; exact det_conv rfl rfl rfl wrap_i8; refine gA ?_; refine gM ?_; refine gO ?_; refine gR ?_; rotate_left)
 (set_option pp.maxSteps 60 in set_option pp.deepTerms false in trace_state)
 all_goals (refine gi1 (fun _ _ => ?_); congr 1; unfold l64 l32 l16; split <;> split <;> split <;> omega)
theorem len_ok (w : World) (x : Nat) (hx : x < 18446744073709551616) : Ok Tryz.prog 36 [.int .u64 (x : Int)].toArray w fun r _ => r = .int .i64 (l64 x : Int) := by
 refine ok_enter Tryz.func36 rfl Tryz.ntmps36 rfl ?_
 (refine gV ?_; refine gM ?_; refine gO ?_; refine gQ ?_)
 refine gc_if_false rfl ?_
 (refine gK ?_; refine gX ?_; refine gV ?_; refine gM ?_; apply gw_d; exact w_call rfl rfl (fun w _ => len64_ok w x hx) rfl; refine gM ?_; refine gO ?_; refine gR ?_)
 refine gi1 (fun _ _ => ?_)
 rfl
theorem u64w (i : Int) : IntKind.u64.wrap i = i % 18446744073709551616 := rfl
section
variable {P : Program} {ops : Array Oper} {N : Nat} {w0 : World} {L : List Res} {e : Env} {o : Oper} {t : TypeId} {x y : Operand}
theorem det_mulU {i j : Nat} {yt : TypeId} (hop : o.op = .binOp .mul t x y yt) (hw : wantedE N ops e o = true) (hx : ev N e x = .int .u64 (i : Int)) (hy : ev N e y = .int .u64 (j : Int)) : Det P ops N w0 L o e (.int .u64 ((i * j % 18446744073709551616 : Nat) : Int)) :=
 det_eq (det_ar_wrap (r := IntKind.u64.wrap ((i : Int) * (j : Int))) hop hw hx hy rfl) (by rw [u64w, Int.natCast_emod, Int.natCast_mul]; rfl)
theorem det_addU {i j : Nat} {yt : TypeId} (hop : o.op = .binOp .add t x y yt) (hw : wantedE N ops e o = true) (hx : ev N e x = .int .u64 (i : Int)) (hy : ev N e y = .int .u64 (j : Int)) : Det P ops N w0 L o e (.int .u64 (((i + j) % 18446744073709551616 : Nat) : Int)) :=
 det_eq (det_ar_wrap (r := IntKind.u64.wrap ((i : Int) + (j : Int))) hop hw hx hy rfl) (by rw [u64w, Int.natCast_emod, Int.natCast_add]; rfl)
theorem det_subU {i j : Nat} {yt : TypeId} (hj : j ≤ 18446744073709551616) (hop : o.op = .binOp .sub t x y yt) (hw : wantedE N ops e o = true) (hx : ev N e x = .int .u64 (i : Int)) (hy : ev N e y = .int .u64 (j : Int)) : Det P ops N w0 L o e (.int .u64 (((i + (18446744073709551616 - j)) % 18446744073709551616 : Nat) : Int)) :=
 det_eq (det_ar_wrap (r := IntKind.u64.wrap ((i : Int) - (j : Int))) hop hw hx hy rfl) (by
  rw [u64w]
  congr 1
  omega)
theorem run_bits {b : BinOp} {k : IntKind} {i j : Int} {yt : TypeId} {v : Value} {w : World} (hb : b = .and ∨ b = .or) (hop : o.op = .binOp b t x y yt) (hx : ev N e x = .int k i) (hy : ev N e y = .int k j) (hr : (Op.intBits b k i j).run P w = .ok v w) : (execOp (ev N e) o).run P w = .ok (.value v) w := by
 unfold execOp
 rcases hb with rfl | rfl <;> simp [hop, hx, hy, eqGuard, binOp, hr]
theorem det_andM {i : Nat} {yt : TypeId} (hi : i < 18446744073709551616) (hop : o.op = .binOp .and t x y yt) (hw : wantedE N ops e o = true) (hx : ev N e x = .int .u64 (i : Int)) (hy : ev N e y = .int .u64 4294967295) : Det P ops N w0 L o e (.int .u64 ((i % 4294967296 : Nat) : Int)) :=
 det_pure hw fun w => run_bits (.inl rfl) hop hx hy (by
  have h1 : (BitVec.ofInt IntKind.u64.bits (i : Int) &&& BitVec.ofInt IntKind.u64.bits 4294967295).toNat = i % 4294967296 := by
   show (BitVec.ofInt 64 (i : Int) &&& BitVec.ofInt 64 4294967295).toNat = i % 4294967296
   rw [BitVec.toNat_and, BitVec.toNat_ofInt, BitVec.toNat_ofInt]
   have e1 : ((i : Int) % ((2 ^ 64 : Nat) : Int)).toNat = i := by
    have : ((2 ^ 64 : Nat) : Int) = 18446744073709551616 := rfl
    rw [this]
    omega
   have e2 : ((4294967295 : Int) % ((2 ^ 64 : Nat) : Int)).toNat = 2 ^ 32 - 1 := rfl
   rw [e1, e2, Nat.and_two_pow_sub_one_eq_mod]
  simp only [Op.intBits, h1]
  have h2 : IntKind.u64.wrap ((i % 4294967296 : Nat) : Int) = ((i % 4294967296 : Nat) : Int) := by
   rw [u64w]
   omega
  rw [h2]
  rfl)
def orW (i j : Nat) : Nat := (BitVec.ofInt 64 (i : Int) ||| BitVec.ofInt 64 (j : Int)).toNat
theorem orW_lt (i j : Nat) : orW i j < 18446744073709551616 := (BitVec.ofInt 64 (i : Int) ||| BitVec.ofInt 64 (j : Int)).isLt
theorem det_orU {i j : Nat} {yt : TypeId} (hop : o.op = .binOp .or t x y yt) (hw : wantedE N ops e o = true) (hx : ev N e x = .int .u64 (i : Int)) (hy : ev N e y = .int .u64 (j : Int)) : Det P ops N w0 L o e (.int .u64 ((orW i j : Nat) : Int)) :=
 det_pure hw fun w => run_bits (.inr rfl) hop hx hy (by
  have h1 : (BitVec.ofInt IntKind.u64.bits (i : Int) ||| BitVec.ofInt IntKind.u64.bits (j : Int)).toNat = orW i j := rfl
  simp only [Op.intBits, h1]
  have h2 : IntKind.u64.wrap ((orW i j : Nat) : Int) = ((orW i j : Nat) : Int) := by
   have := orW_lt i j
   rw [u64w]
   omega
  rw [h2]
  rfl)
end
theorem mul64_law {x y : Nat} : x * y = (x / 4294967296) * (y / 4294967296) * 18446744073709551616 + (x / 4294967296) * (y % 4294967296) * 4294967296 + (x % 4294967296) * (y / 4294967296) * 4294967296 + (x % 4294967296) * (y % 4294967296) := by
 have hx : x = x / 4294967296 * 4294967296 + x % 4294967296 := by omega
 have hy : y = y / 4294967296 * 4294967296 + y % 4294967296 := by omega
 generalize x / 4294967296 = a at *
 generalize x % 4294967296 = b at *
 generalize y / 4294967296 = c at *
 generalize y % 4294967296 = d at *
 subst hx hy
 simp only [Nat.add_mul, Nat.mul_add]
 have e1 : a * 4294967296 * (c * 4294967296) = a * c * 18446744073709551616 := by
  rw [Nat.mul_mul_mul_comm]
 have e2 : a * 4294967296 * d = a * d * 4294967296 := Nat.mul_right_comm _ _ _
 have e3 : b * (c * 4294967296) = b * c * 4294967296 := (Nat.mul_assoc _ _ _).symm
 omega
theorem mul64_ok (w : World) (x y : Nat) (hx : x ≤ 1099511627776) (hy : y ≤ 1099511627776) : Ok Tryz.prog 138 [.int .u64 (x : Int), .int .u64 (y : Int)].toArray w fun r _ => r = .tuple #[.int .u64 ((x * y / 18446744073709551616 : Nat) : Int), .int .u64 ((x * y % 18446744073709551616 : Nat) : Int)] := by
 have hlaw := mul64_law (x := x) (y := y)
 have a1 : x / 4294967296 ≤ 256 := by omega
 have a2 : y / 4294967296 ≤ 256 := by omega
 have a3 : x % 4294967296 ≤ 4294967295 := by omega
 have a4 : y % 4294967296 ≤ 4294967295 := by omega
 have m1 : (x / 4294967296) * (y / 4294967296) ≤ 256 * 256 := Nat.mul_le_mul a1 a2
 have m2 : (x / 4294967296) * (y % 4294967296) ≤ 256 * 4294967295 := Nat.mul_le_mul a1 a4
 have m3 : (x % 4294967296) * (y / 4294967296) ≤ 4294967295 * 256 := Nat.mul_le_mul a3 a2
 have m4 : (x % 4294967296) * (y % 4294967296) ≤ 4294967295 * 4294967295 := Nat.mul_le_mul a3 a4
 generalize hA : (x / 4294967296) * (y / 4294967296) = A at *
 generalize hB : (x / 4294967296) * (y % 4294967296) = B at *
 generalize hC : (x % 4294967296) * (y / 4294967296) = C at *
 generalize hD : (x % 4294967296) * (y % 4294967296) = D at *
 refine ok_enter Tryz.func138 rfl Tryz.ntmps138 rfl ?_
 (refine gV ?_; (iterate 2 refine gM ?_); refine gN ?_; refine gM ?_; apply gw_d; exact det_andM (by omega) rfl rfl rfl rfl; refine gM ?_; refine gN ?_; refine gM ?_; apply gw_d; exact det_shr rfl rfl rfl rfl (by decide) (fdiv_nat _ 4294967296); refine gM ?_; refine gN ?_; refine gM ?_; apply gw_d; exact det_andM (by omega) rfl rfl rfl rfl; refine gM ?_; refine gN ?_; refine gM ?_; apply gw_d; exact det_shr rfl rfl rfl rfl (by decide) (fdiv_nat _ 4294967296); refine gM ?_; refine gN ?_; (iterate 2 refine gM ?_); apply gw_d; exact det_mulU rfl rfl rfl rfl; refine gM ?_; refine gN ?_; (iterate 2 refine gM ?_); apply gw_d; exact det_mulU rfl rfl rfl rfl; refine gM ?_; apply gw_d; exact det_shr rfl rfl rfl rfl (by decide) (fdiv_nat _ 4294967296); apply gw_d; exact det_addU rfl rfl rfl rfl; refine gM ?_; refine gN ?_; refine gM ?_; apply gw_d; exact det_andM (by omega) rfl rfl rfl rfl; refine gM ?_; refine gN ?_; refine gM ?_; apply gw_d; exact det_shr rfl rfl rfl rfl (by decide) (fdiv_nat _ 4294967296); refine gM ?_; refine gN ?_; (iterate 3 refine gM ?_); apply gw_d; exact det_mulU rfl rfl rfl rfl; apply gw_d; exact det_addU rfl rfl rfl rfl; refine gM ?_; refine gN ?_; (iterate 2 refine gM ?_); apply gw_d; exact det_mulU rfl rfl rfl rfl; refine gM ?_; apply gw_d; exact det_addU rfl rfl rfl rfl; refine gM ?_; apply gw_d; exact det_shr rfl rfl rfl rfl (by decide) (fdiv_nat _ 4294967296); apply gw_d; exact det_addU rfl rfl rfl rfl; refine gM ?_; refine gN ?_; (iterate 2 refine gM ?_); apply gw_d; exact det_mulU rfl rfl rfl rfl; refine gM ?_; refine gO ?_; refine gR ?_)
 (set_option pp.maxSteps 60 in set_option pp.deepTerms false in trace_state)
 refine gx_ret2 (u := .int _ _) (v := .int _ _) rfl rfl rfl (fun _ _ => ?_)
 rw [hA, hB, hC, hD]
 have hlo : x * y % 18446744073709551616 = x * y % 18446744073709551616 := rfl
 have hhi : ((A % 18446744073709551616 + (B % 18446744073709551616 + D % 18446744073709551616 / 4294967296) % 18446744073709551616 / 4294967296) % 18446744073709551616 + ((B % 18446744073709551616 + D % 18446744073709551616 / 4294967296) % 18446744073709551616 % 4294967296 + C % 18446744073709551616) % 18446744073709551616 / 4294967296) % 18446744073709551616 = x * y / 18446744073709551616 := by
  rw [hlaw]
  omega
 rw [hhi]
section
variable {P : Program} {ops : Array Oper} {N : Nat} {w0 : World} {L : List Res} {e : Env} {o : Oper} {t : TypeId} {x y : Operand}
theorem pow_cast (k : Nat) : (2 : Int) ^ k = ((2 ^ k : Nat) : Int) := by
 rw [Int.natCast_pow]
 rfl
theorem det_quoU {i j : Nat} {yt : TypeId} (hi : i < 18446744073709551616) (hj : 0 < j) (hop : o.op = .binOp .quo t x y yt) (hw : wantedE N ops e o = true) (hx : ev N e x = .int .u64 (i : Int)) (hy : ev N e y = .int .u64 (j : Int)) : Det P ops N w0 L o e (.int .u64 ((i / j : Nat) : Int)) :=
 det_pure hw fun _ => by
  have h0 : ¬ (j : Int) = 0 := by omega
  have h1 : (i : Int).tdiv (j : Int) = ((i / j : Nat) : Int) := by rw [Int.tdiv_eq_ediv_of_nonneg (by omega)]; rfl
  have h2 : i / j ≤ i := Nat.div_le_self _ _
  have h : IntKind.u64.wrap ((i / j : Nat) : Int) = ((i / j : Nat) : Int) := by rw [u64w]; exact Int.emod_eq_of_lt (Int.natCast_nonneg _) (by have : ((i / j : Nat) : Int) ≤ (i : Int) := Int.ofNat_le.2 h2; omega)
  have h0' : ¬ j = 0 := by omega
  unfold execOp
  simp only [hop, hx, hy, eqGuard, binOp, Op.intDiv, h1]
  simp [h0']
  exact h
theorem rhat_lt {u d : Nat} (_hu : u < 18446744073709551616) (hd : 0 < d) : (u + (18446744073709551616 - u / d * d % 18446744073709551616)) % 18446744073709551616 < d := by
 have h1 : u / d * d ≤ u := Nat.div_mul_le_self _ _
 have h2 : u < u / d * d + d := by
  have := Nat.lt_div_mul_add (a := u) hd
  omega
 omega
theorem det_remU {i j : Nat} {yt : TypeId} (hj : 0 < j) (hop : o.op = .binOp .rem t x y yt) (hw : wantedE N ops e o = true) (hx : ev N e x = .int .u64 (i : Int)) (hy : ev N e y = .int .u64 (j : Int)) : Det P ops N w0 L o e (.int .u64 ((i % j : Nat) : Int)) :=
 det_pure hw fun _ => by
  have h1 : (i : Int).tmod (j : Int) = ((i % j : Nat) : Int) := by rw [Int.tmod_eq_emod_of_nonneg (by omega)]; rfl
  have h0' : ¬ j = 0 := by omega
  unfold execOp
  simp only [hop, hx, hy, eqGuard, binOp, Op.intDiv, h1]
  simp [h0']
theorem det_shlU {i s : Nat} {yt : TypeId} (hop : o.op = .binOp .shl t x y yt) (hw : wantedE N ops e o = true) (hx : ev N e x = .int .u64 (i : Int)) (hy : ev N e y = .int .u64 (s : Int)) : Det P ops N w0 L o e (.int .u64 ((i * 2 ^ (min s 64) % 18446744073709551616 : Nat) : Int)) :=
 det_pure hw fun w => by
  have h0 : ¬ (s : Int) < 0 := by omega
  have h1 : IntKind.u64.wrap ((i : Int) * 2 ^ (min s 64)) = ((i * 2 ^ (min s 64) % 18446744073709551616 : Nat) : Int) := by
   rw [u64w, pow_cast, Int.natCast_emod, Int.natCast_mul]
   rfl
  have h2 : IntKind.u64.bits = 64 := rfl
  unfold execOp
  simp only [hop, hx, hy, binOp, Op.shift, eqGuard, if_neg h0, h2, Int.toNat_natCast, h1]
  rfl
theorem det_shrU {i s : Nat} {yt : TypeId} (hop : o.op = .binOp .shr t x y yt) (hw : wantedE N ops e o = true) (hx : ev N e x = .int .u64 (i : Int)) (hy : ev N e y = .int .u64 (s : Int)) : Det P ops N w0 L o e (.int .u64 ((i / 2 ^ (min s 64) : Nat) : Int)) :=
 det_pure hw fun w => by
  have h0 : ¬ (s : Int) < 0 := by omega
  have h1 : ((i : Int).fdiv (2 ^ (min s 64))) = ((i / 2 ^ (min s 64) : Nat) : Int) := by rw [pow_cast]; exact fdiv_nat _ _
  have h2 : IntKind.u64.bits = 64 := rfl
  unfold execOp
  simp only [hop, hx, hy, binOp, Op.shift, eqGuard, if_neg h0, h2, Int.toNat_natCast, h1]
  rfl
end
theorem l8_low_all : ((List.range 256).all fun z => Nat.beq z 0 || decide (2 ^ l8 z ≤ 2 * z)) = true := by kernel_rfl
theorem l8_low {z : Nat} (h : z < 256) (h0 : 0 < z) : 2 ^ l8 z ≤ 2 * z := by
 have := List.all_eq_true.1 l8_low_all z (List.mem_range.2 h)
 rw [Bool.or_eq_true] at this
 rcases this with h1 | h1
 ·have := Nat.eq_of_beq_eq_true h1; omega
 ·exact of_decide_eq_true h1
theorem up_low {z k a b : Nat} (hb : b = 2 ^ a) (h : 2 ^ k ≤ 2 * (z / b)) : 2 ^ (k + a) ≤ 2 * z := by
 rw [Nat.pow_add, ← hb]
 have h1 := Nat.mul_le_mul_right b h
 have h2 : z / b * b ≤ z := Nat.div_mul_le_self _ _
 have h3 : 2 * (z / b) * b = 2 * (z / b * b) := Nat.mul_assoc _ _ _
 omega
theorem l64_low {z : Nat} (h : z < 18446744073709551616) (h0 : 0 < z) : 2 ^ l64 z ≤ 2 * z := by
 have s16 : ∀ z, z < 65536 → 0 < z → 2 ^ l16 z ≤ 2 * z := fun z h h0 => by
  unfold l16
  split
  ·exact up_low (by decide) (l8_low (by omega) (by omega))
  ·exact l8_low (by omega) h0
 have s32 : ∀ z, z < 4294967296 → 0 < z → 2 ^ l32 z ≤ 2 * z := fun z h h0 => by
  unfold l32
  split
  ·exact up_low (by decide) (s16 _ (by omega) (by omega))
  ·exact s16 _ (by omega) h0
 unfold l64
 split
 ·exact up_low (by decide) (s32 _ (by omega) (by omega))
 ·exact s32 _ (by omega) h0
theorem lz64_ok (w : World) (x : Nat) (hx : x < 18446744073709551616) : Ok Tryz.prog 150 [.int .u64 (x : Int)].toArray w fun r _ => r = .int .i64 ((64 - l64 x : Nat) : Int) := by
 have hl := (l64_lt hx).2
 refine ok_enter Tryz.func150 rfl Tryz.ntmps150 rfl ?_
 (refine gV ?_; refine gM ?_; refine gN ?_; refine gM ?_; apply gw_d; exact w_call rfl rfl (fun w _ => len64_ok w x hx) rfl; refine gA ?_; refine gM ?_; refine gO ?_; refine gR ?_)
 refine gi1 (fun _ _ => ?_)
 congr 1
 omega
/-- The divisor, moved up. -/
theorem norm_y {y : Nat} (h : y < 18446744073709551616) (h0 : 0 < y) : y * 2 ^ (64 - l64 y) < 18446744073709551616 ∧ 9223372036854775808 ≤ y * 2 ^ (64 - l64 y) := by
 obtain ⟨h1, h2⟩ := l64_lt h
 have h3 := l64_low h h0
 have hp : 2 ^ l64 y * 2 ^ (64 - l64 y) = 18446744073709551616 := by
  rw [← Nat.pow_add, show l64 y + (64 - l64 y) = 64 by omega]
 have hpos : 0 < 2 ^ (64 - l64 y) := Nat.two_pow_pos _
 have a := Nat.mul_lt_mul_of_pos_right h1 hpos
 have b := Nat.mul_le_mul_right (2 ^ (64 - l64 y)) h3
 have c : 2 * y * 2 ^ (64 - l64 y) = 2 * (y * 2 ^ (64 - l64 y)) := Nat.mul_assoc _ _ _
 omega
theorem div64_ok (w : World) (hi lo y : Nat) (hlo : lo < 18446744073709551616) (hy : y < 18446744073709551616) (h : hi < y) : OkM Tryz.prog 139 [.int .u64 (hi : Int), .int .u64 (lo : Int), .int .u64 (y : Int)].toArray w (fun x : Nat × Nat => .tuple #[.int .u64 (x.1 : Int), .int .u64 (x.2 : Int)]) (fun _ => []) := by
 unfold OkM
 refine ok_enter Tryz.func139 rfl Tryz.ntmps139 rfl ?_
 (refine gV ?_; (iterate 2 refine gM ?_); refine gO ?_; refine gQ ?_; refine gV ?_; refine gM ?_; refine gC ?_; refine gO ?_)
 refine gc_if_dec rfl (fun h1 => by omega) (fun _ => ?_)
 (refine gK ?_; refine gX ?_; refine gQ ?_; refine gV ?_; (iterate 2 refine gM ?_); refine gC ?_; refine gO ?_)
 refine gc_if_dec rfl (fun h1 => by omega) (fun _ => ?_)
 (refine gK ?_; refine gX ?_; refine gQ ?_; refine gV ?_; refine gM ?_; refine gC ?_; refine gO ?_)
 refine gc_if_dec rfl (fun h1 => ?_) (fun h1 => ?_)
 ·(refine gQ ?_)
  refine gc_draw2 7 (by kernel_rfl) (by kernel_rfl) ?_
  ((iterate 2 refine dM ?_); apply gd_d; exact det_quoU hlo (by omega) rfl rfl rfl rfl; (iterate 2 refine dM ?_); apply gd_d; exact det_remU (by omega) rfl rfl rfl rfl; refine dM ?_; refine gd_nil ?_; refine gM ?_; refine gO ?_; refine gR ?_; refine gT ?_)
  exact gx_ret2 (u := .int _ _) (v := .int _ _) rfl rfl rfl (fun w' s => ⟨(lo / y, lo % y), rfl, trivial⟩)
 obtain ⟨n1, n2⟩ := norm_y hy (by omega)
 have hl := (l64_lt hy).2
 have hs : 64 - l64 y ≤ 64 := by omega
 have hsw : IntKind.u64.wrap ((64 - l64 y : Nat) : Int) = ((64 - l64 y : Nat) : Int) := by rw [u64w]; omega
 have hY : y * 2 ^ (min (64 - l64 y) 64) % 18446744073709551616 = y * 2 ^ (64 - l64 y) := by rw [Nat.min_eq_left hs]; omega
 generalize hsv : 64 - l64 y = s at *
 (refine gK ?_; refine gX ?_; refine gV ?_; refine gM ?_; apply gw_d; exact w_call rfl rfl (fun w _ => by have := lz64_ok w y hy; rw [hsv] at this; exact this) rfl; apply gw_d; exact det_conv rfl rfl rfl hsw; refine gM ?_; refine gN ?_; (iterate 2 refine gM ?_); apply gw_d; exact det_eq (det_shlU rfl rfl rfl rfl) (by rw [hY]); refine gM ?_; refine gN ?_; refine gM ?_)
 generalize y * 2 ^ s = Y at *
 have hd0 : 0 < Y / 4294967296 := by omega
 have hd1 : Y / 4294967296 < 4294967296 := by omega
 (apply gw_d; exact det_shr rfl rfl rfl rfl (by decide) (fdiv_nat _ 4294967296); refine gM ?_; refine gN ?_; refine gM ?_; apply gw_d; exact det_andM (by omega) rfl rfl rfl rfl; refine gM ?_; refine gN ?_; (iterate 2 refine gM ?_); apply gw_d; exact det_shlU rfl rfl rfl rfl; (iterate 2 refine gM ?_); apply gw_d; exact det_subU (by omega) rfl rfl rfl rfl; apply gw_d; exact det_shrU rfl rfl rfl rfl; apply gw_d; exact det_orU rfl rfl rfl rfl; refine gM ?_; refine gN ?_; (iterate 2 refine gM ?_); apply gw_d; exact det_shlU rfl rfl rfl rfl; refine gM ?_; refine gN ?_; refine gM ?_; apply gw_d; exact det_shr rfl rfl rfl rfl (by decide) (fdiv_nat _ 4294967296); refine gM ?_; refine gN ?_; refine gM ?_; apply gw_d; exact det_andM (by omega) rfl rfl rfl rfl; refine gM ?_; refine gN ?_; (iterate 2 refine gM ?_))
 generalize hu : orW (hi * 2 ^ min s 64 % 18446744073709551616) (lo / 2 ^ min ((64 + (18446744073709551616 - s)) % 18446744073709551616) 64) = U at *
 have hU : U < 18446744073709551616 := by rw [← hu]; exact orW_lt _ _
 generalize lo * 2 ^ min s 64 % 18446744073709551616 = T at *
 generalize Y / 4294967296 = D at *
 obtain ⟨M, hM⟩ : ∃ M : Nat, M = 4294967296 := ⟨_, rfl⟩
 have hdM : D < M := by omega
 generalize Y % 4294967296 = E0 at *
 (apply gw_d; exact det_quoU hU hd0 rfl rfl rfl rfl; refine gM ?_; refine gN ?_; (iterate 3 refine gM ?_); apply gw_d; exact det_mulU rfl rfl rfl rfl; apply gw_d; exact det_subU (by omega) rfl rfl rfl rfl; refine gM ?_; refine gO ?_; refine gQ ?_; refine gB ?_)
 have hR := rhat_lt hU hd0
 generalize U / D = Q at *
 generalize (U + (18446744073709551616 - Q * D % 18446744073709551616)) % 18446744073709551616 = R0 at *
 refine gc_loopK (σ := Nat × Nat) [67, 68, 69, 70, 71, 72, 73, 74, 75, 76, 77, 78, 79, 80, 15, 81, 82, 83, 16, 84, 85] (fun s => [(15, .int .u64 (s.1 : Int)), (16, .int .u64 (s.2 : Int))]) (fun s => s.2 < M) (fun s => M - s.2) (Q, R0) (by dsimp only; omega) ⟨rfl, rfl, trivial⟩ ?_
 rintro ⟨q, r⟩ base hr
 dsimp only at hr ⊢
 focus (refine gQ ?_; refine gV ?_; refine gM ?_; refine gC ?_; refine gM ?_; refine gD (fun _ => ?_) (fun _ => ?_); (iterate 8 refine gU ?_); refine gPp ?_; refine gO ?_; refine gc_if_true rfl ?_; refine gK ?_; refine gX ?_; refine gB ?_; refine gV ?_; refine gM ?_; apply gw_d; exact det_subU (j := 1) (by omega) rfl rfl rfl rfl; refine gM ?_; refine gN ?_; (iterate 2 refine gM ?_); apply gw_d; exact det_addU rfl rfl rfl rfl; refine gM ?_; refine gN ?_; refine gM ?_; refine gC ?_; refine gO ?_; refine gc_if_dec rfl (fun _ => ?_) (fun _ => ?_); refine gI ?_; refine gx_block_other rfl ?_; refine gZ ?_; refine gJ ?_; refine gX ?_; refine gV ?_; refine gM ?_; apply gw_d; exact det_mulU rfl rfl rfl rfl; refine gM ?_; apply gw_d; exact det_addU rfl rfl rfl rfl; (iterate 2 refine gM ?_); apply gw_d; exact det_mulU rfl rfl rfl rfl; rotate_left; refine gK ?_; refine gH ?_; rotate_left; (iterate 2 refine gM ?_); apply gw_d; exact det_mulU rfl rfl rfl rfl; refine gM ?_; apply gw_d; exact det_mulU rfl rfl rfl rfl; refine gM ?_; apply gw_d; exact det_addU rfl rfl rfl rfl; refine gC ?_; refine gPq ?_; refine gO ?_; refine gc_if_dec rfl (fun _ => ?_) (fun _ => ?_); refine gK ?_; refine gX ?_; refine gB ?_; refine gV ?_; refine gM ?_; apply gw_d; exact det_subU (j := 1) (by omega) rfl rfl rfl rfl; refine gM ?_; refine gN ?_; (iterate 2 refine gM ?_); apply gw_d; exact det_addU rfl rfl rfl rfl; refine gM ?_; refine gN ?_; refine gM ?_; refine gC ?_; refine gO ?_; refine gc_if_dec rfl (fun _ => ?_) (fun _ => ?_); refine gI ?_; refine gx_block_other rfl ?_; refine gZ ?_; refine gJ ?_; refine gX ?_; refine gV ?_; refine gM ?_; apply gw_d; exact det_mulU rfl rfl rfl rfl; refine gM ?_; apply gw_d; exact det_addU rfl rfl rfl rfl; (iterate 2 refine gM ?_); apply gw_d; exact det_mulU rfl rfl rfl rfl; rotate_left; refine gK ?_; refine gH ?_; rotate_left; refine gI ?_; (iterate 2 refine gZ ?_); refine gJ ?_; refine gX ?_; refine gV ?_; refine gM ?_; apply gw_d; exact det_mulU rfl rfl rfl rfl; refine gM ?_; apply gw_d; exact det_addU rfl rfl rfl rfl; (iterate 2 refine gM ?_); apply gw_d; exact det_mulU rfl rfl rfl rfl; rotate_left)
 ·(apply gw_d; exact det_subU (Nat.le_of_lt (Nat.mod_lt _ (by omega))) rfl rfl rfl rfl; refine gM ?_; refine gN ?_; (iterate 2 refine gM ?_); apply gw_d; exact det_quoU (Nat.mod_lt _ (by omega)) hd0 rfl rfl rfl rfl; refine gM ?_; refine gN ?_; (iterate 3 refine gM ?_); apply gw_d; exact det_mulU rfl rfl rfl rfl; apply gw_d; exact det_subU (Nat.le_of_lt (Nat.mod_lt _ (by omega))) rfl rfl rfl rfl; refine gM ?_; refine gO ?_; refine gQ ?_; refine gB ?_)
  refine gc_loopK (σ := Nat × Nat) [102, 103, 104, 105, 106, 107, 108, 109, 110, 111, 112, 113, 114, 115, 18, 116, 117, 118, 16, 119, 120] (fun s => [(18, .int .u64 (s.1 : Int)), (16, .int .u64 (s.2 : Int))]) (fun s => s.2 < M) (fun s => M - s.2) (_, _) (Nat.lt_trans (rhat_lt (Nat.mod_lt _ (by omega)) hd0) hdM) ⟨rfl, rfl, trivial⟩ ?_
  rintro ⟨q2, r2⟩ base2 hr2
  dsimp only at hr2 ⊢
  focus (refine gQ ?_; refine gV ?_; refine gM ?_; refine gC ?_; refine gM ?_; refine gD (fun _ => ?_) (fun _ => ?_); (iterate 8 refine gU ?_); refine gPp ?_; refine gO ?_; refine gc_if_true rfl ?_; refine gK ?_; refine gX ?_; refine gB ?_; refine gV ?_; refine gM ?_; apply gw_d; exact det_subU (j := 1) (by omega) rfl rfl rfl rfl; refine gM ?_; refine gN ?_; (iterate 2 refine gM ?_); apply gw_d; exact det_addU rfl rfl rfl rfl; refine gM ?_; refine gN ?_; refine gM ?_; refine gC ?_; refine gO ?_; refine gc_if_dec rfl (fun _ => ?_) (fun _ => ?_); refine gI ?_; refine gx_block_other rfl ?_; refine gZ ?_; refine gJ ?_; refine gX ?_; refine gV ?_; refine gM ?_; apply gw_d; exact det_mulU rfl rfl rfl rfl; refine gM ?_; apply gw_d; exact det_addU rfl rfl rfl rfl; refine gM ?_; apply gw_d; exact det_mulU rfl rfl rfl rfl; refine gM ?_; apply gw_d; exact det_addU rfl rfl rfl rfl; (iterate 2 refine gM ?_); apply gw_d; exact det_mulU rfl rfl rfl rfl; rotate_left; refine gK ?_; refine gH ?_; rotate_left; (iterate 2 refine gM ?_); apply gw_d; exact det_mulU rfl rfl rfl rfl; refine gM ?_; apply gw_d; exact det_mulU rfl rfl rfl rfl; refine gM ?_; apply gw_d; exact det_addU rfl rfl rfl rfl; refine gC ?_; refine gPq ?_; refine gO ?_; refine gc_if_dec rfl (fun _ => ?_) (fun _ => ?_); refine gK ?_; refine gX ?_; refine gB ?_; refine gV ?_; refine gM ?_; apply gw_d; exact det_subU (j := 1) (by omega) rfl rfl rfl rfl; refine gM ?_; refine gN ?_; (iterate 2 refine gM ?_); apply gw_d; exact det_addU rfl rfl rfl rfl; refine gM ?_; refine gN ?_; refine gM ?_; refine gC ?_; refine gO ?_; refine gc_if_dec rfl (fun _ => ?_) (fun _ => ?_); refine gI ?_; refine gx_block_other rfl ?_; refine gZ ?_; refine gJ ?_; refine gX ?_; refine gV ?_; refine gM ?_; apply gw_d; exact det_mulU rfl rfl rfl rfl; refine gM ?_; apply gw_d; exact det_addU rfl rfl rfl rfl; refine gM ?_; apply gw_d; exact det_mulU rfl rfl rfl rfl; refine gM ?_; apply gw_d; exact det_addU rfl rfl rfl rfl; (iterate 2 refine gM ?_); apply gw_d; exact det_mulU rfl rfl rfl rfl; rotate_left; refine gK ?_; refine gH ?_; rotate_left; refine gI ?_; (iterate 2 refine gZ ?_); refine gJ ?_; refine gX ?_; refine gV ?_; refine gM ?_; apply gw_d; exact det_mulU rfl rfl rfl rfl; refine gM ?_; apply gw_d; exact det_addU rfl rfl rfl rfl; refine gM ?_; apply gw_d; exact det_mulU rfl rfl rfl rfl; refine gM ?_; apply gw_d; exact det_addU rfl rfl rfl rfl; (iterate 2 refine gM ?_); apply gw_d; exact det_mulU rfl rfl rfl rfl; rotate_left)
  ·(apply gw_d; exact det_subU (Nat.le_of_lt (Nat.mod_lt _ (by omega))) rfl rfl rfl rfl; refine gM ?_; apply gw_d; exact det_shrU rfl rfl rfl rfl; (iterate 2 refine gM ?_); refine gO ?_; refine gR ?_)
   exact gx_ret2 (u := .int _ _) (v := .int _ _) rfl rfl rfl (fun w' s => ⟨(_, _), rfl, trivial⟩)
  ·have h1 : (r2 + D) % 18446744073709551616 < M := by omega
   have h2 : M - (r2 + D) % 18446744073709551616 < M - r2 := by omega
   exact gx_round (_, (r2 + D) % 18446744073709551616) h1 h2 (by repeat (first | with_reducible exact Keeps.refl | refine Keeps.upd rfl ?_ | refine Keeps.sets rfl ?_ | refine Keeps.havoc rfl ?_)) ⟨rfl, rfl, trivial⟩ (Sub.all _)
  ·(apply gw_d; exact det_subU (Nat.le_of_lt (Nat.mod_lt _ (by omega))) rfl rfl rfl rfl; refine gM ?_; apply gw_d; exact det_shrU rfl rfl rfl rfl; (iterate 2 refine gM ?_); refine gO ?_; refine gR ?_)
   exact gx_ret2 (u := .int _ _) (v := .int _ _) rfl rfl rfl (fun w' s => ⟨(_, _), rfl, trivial⟩)
  ·have h1 : (r2 + D) % 18446744073709551616 < M := by omega
   have h2 : M - (r2 + D) % 18446744073709551616 < M - r2 := by omega
   exact gx_round (_, (r2 + D) % 18446744073709551616) h1 h2 (by repeat (first | with_reducible exact Keeps.refl | refine Keeps.upd rfl ?_ | refine Keeps.sets rfl ?_ | refine Keeps.havoc rfl ?_)) ⟨rfl, rfl, trivial⟩ (Sub.all _)
  ·(apply gw_d; exact det_subU (Nat.le_of_lt (Nat.mod_lt _ (by omega))) rfl rfl rfl rfl; refine gM ?_; apply gw_d; exact det_shrU rfl rfl rfl rfl; (iterate 2 refine gM ?_); refine gO ?_; refine gR ?_)
   exact gx_ret2 (u := .int _ _) (v := .int _ _) rfl rfl rfl (fun w' s => ⟨(_, _), rfl, trivial⟩)
 ·have h1 : (r + D) % 18446744073709551616 < M := by omega
  have h2 : M - (r + D) % 18446744073709551616 < M - r := by omega
  exact gx_round (_, (r + D) % 18446744073709551616) h1 h2 (by repeat (first | with_reducible exact Keeps.refl | refine Keeps.upd rfl ?_ | refine Keeps.sets rfl ?_ | refine Keeps.havoc rfl ?_)) ⟨rfl, rfl, trivial⟩ (Sub.all _)
 ·(apply gw_d; exact det_subU (Nat.le_of_lt (Nat.mod_lt _ (by omega))) rfl rfl rfl rfl; refine gM ?_; refine gN ?_; (iterate 2 refine gM ?_); apply gw_d; exact det_quoU (Nat.mod_lt _ (by omega)) hd0 rfl rfl rfl rfl; refine gM ?_; refine gN ?_; (iterate 3 refine gM ?_); apply gw_d; exact det_mulU rfl rfl rfl rfl; apply gw_d; exact det_subU (Nat.le_of_lt (Nat.mod_lt _ (by omega))) rfl rfl rfl rfl; refine gM ?_; refine gO ?_; refine gQ ?_; refine gB ?_)
  refine gc_loopK (σ := Nat × Nat) [102, 103, 104, 105, 106, 107, 108, 109, 110, 111, 112, 113, 114, 115, 18, 116, 117, 118, 16, 119, 120] (fun s => [(18, .int .u64 (s.1 : Int)), (16, .int .u64 (s.2 : Int))]) (fun s => s.2 < M) (fun s => M - s.2) (_, _) (Nat.lt_trans (rhat_lt (Nat.mod_lt _ (by omega)) hd0) hdM) ⟨rfl, rfl, trivial⟩ ?_
  rintro ⟨q2, r2⟩ base2 hr2
  dsimp only at hr2 ⊢
  focus (refine gQ ?_; refine gV ?_; refine gM ?_; refine gC ?_; refine gM ?_; refine gD (fun _ => ?_) (fun _ => ?_); (iterate 8 refine gU ?_); refine gPp ?_; refine gO ?_; refine gc_if_true rfl ?_; refine gK ?_; refine gX ?_; refine gB ?_; refine gV ?_; refine gM ?_; apply gw_d; exact det_subU (j := 1) (by omega) rfl rfl rfl rfl; refine gM ?_; refine gN ?_; (iterate 2 refine gM ?_); apply gw_d; exact det_addU rfl rfl rfl rfl; refine gM ?_; refine gN ?_; refine gM ?_; refine gC ?_; refine gO ?_; refine gc_if_dec rfl (fun _ => ?_) (fun _ => ?_); refine gI ?_; refine gx_block_other rfl ?_; refine gZ ?_; refine gJ ?_; refine gX ?_; refine gV ?_; refine gM ?_; apply gw_d; exact det_mulU rfl rfl rfl rfl; refine gM ?_; apply gw_d; exact det_addU rfl rfl rfl rfl; refine gM ?_; apply gw_d; exact det_mulU rfl rfl rfl rfl; refine gM ?_; apply gw_d; exact det_addU rfl rfl rfl rfl; (iterate 2 refine gM ?_); apply gw_d; exact det_mulU rfl rfl rfl rfl; rotate_left; refine gK ?_; refine gH ?_; rotate_left; (iterate 2 refine gM ?_); apply gw_d; exact det_mulU rfl rfl rfl rfl; refine gM ?_; apply gw_d; exact det_mulU rfl rfl rfl rfl; refine gM ?_; apply gw_d; exact det_addU rfl rfl rfl rfl; refine gC ?_; refine gPq ?_; refine gO ?_; refine gc_if_dec rfl (fun _ => ?_) (fun _ => ?_); refine gK ?_; refine gX ?_; refine gB ?_; refine gV ?_; refine gM ?_; apply gw_d; exact det_subU (j := 1) (by omega) rfl rfl rfl rfl; refine gM ?_; refine gN ?_; (iterate 2 refine gM ?_); apply gw_d; exact det_addU rfl rfl rfl rfl; refine gM ?_; refine gN ?_; refine gM ?_; refine gC ?_; refine gO ?_; refine gc_if_dec rfl (fun _ => ?_) (fun _ => ?_); refine gI ?_; refine gx_block_other rfl ?_; refine gZ ?_; refine gJ ?_; refine gX ?_; refine gV ?_; refine gM ?_; apply gw_d; exact det_mulU rfl rfl rfl rfl; refine gM ?_; apply gw_d; exact det_addU rfl rfl rfl rfl; refine gM ?_; apply gw_d; exact det_mulU rfl rfl rfl rfl; refine gM ?_; apply gw_d; exact det_addU rfl rfl rfl rfl; (iterate 2 refine gM ?_); apply gw_d; exact det_mulU rfl rfl rfl rfl; rotate_left; refine gK ?_; refine gH ?_; rotate_left; refine gI ?_; (iterate 2 refine gZ ?_); refine gJ ?_; refine gX ?_; refine gV ?_; refine gM ?_; apply gw_d; exact det_mulU rfl rfl rfl rfl; refine gM ?_; apply gw_d; exact det_addU rfl rfl rfl rfl; refine gM ?_; apply gw_d; exact det_mulU rfl rfl rfl rfl; refine gM ?_; apply gw_d; exact det_addU rfl rfl rfl rfl; (iterate 2 refine gM ?_); apply gw_d; exact det_mulU rfl rfl rfl rfl; rotate_left)
  ·(apply gw_d; exact det_subU (Nat.le_of_lt (Nat.mod_lt _ (by omega))) rfl rfl rfl rfl; refine gM ?_; apply gw_d; exact det_shrU rfl rfl rfl rfl; (iterate 2 refine gM ?_); refine gO ?_; refine gR ?_)
   exact gx_ret2 (u := .int _ _) (v := .int _ _) rfl rfl rfl (fun w' s => ⟨(_, _), rfl, trivial⟩)
  ·have h1 : (r2 + D) % 18446744073709551616 < M := by omega
   have h2 : M - (r2 + D) % 18446744073709551616 < M - r2 := by omega
   exact gx_round (_, (r2 + D) % 18446744073709551616) h1 h2 (by repeat (first | with_reducible exact Keeps.refl | refine Keeps.upd rfl ?_ | refine Keeps.sets rfl ?_ | refine Keeps.havoc rfl ?_)) ⟨rfl, rfl, trivial⟩ (Sub.all _)
  ·(apply gw_d; exact det_subU (Nat.le_of_lt (Nat.mod_lt _ (by omega))) rfl rfl rfl rfl; refine gM ?_; apply gw_d; exact det_shrU rfl rfl rfl rfl; (iterate 2 refine gM ?_); refine gO ?_; refine gR ?_)
   exact gx_ret2 (u := .int _ _) (v := .int _ _) rfl rfl rfl (fun w' s => ⟨(_, _), rfl, trivial⟩)
  ·have h1 : (r2 + D) % 18446744073709551616 < M := by omega
   have h2 : M - (r2 + D) % 18446744073709551616 < M - r2 := by omega
   exact gx_round (_, (r2 + D) % 18446744073709551616) h1 h2 (by repeat (first | with_reducible exact Keeps.refl | refine Keeps.upd rfl ?_ | refine Keeps.sets rfl ?_ | refine Keeps.havoc rfl ?_)) ⟨rfl, rfl, trivial⟩ (Sub.all _)
  ·(apply gw_d; exact det_subU (Nat.le_of_lt (Nat.mod_lt _ (by omega))) rfl rfl rfl rfl; refine gM ?_; apply gw_d; exact det_shrU rfl rfl rfl rfl; (iterate 2 refine gM ?_); refine gO ?_; refine gR ?_)
   exact gx_ret2 (u := .int _ _) (v := .int _ _) rfl rfl rfl (fun w' s => ⟨(_, _), rfl, trivial⟩)
 ·have h1 : (r + D) % 18446744073709551616 < M := by omega
  have h2 : M - (r + D) % 18446744073709551616 < M - r := by omega
  exact gx_round (_, (r + D) % 18446744073709551616) h1 h2 (by repeat (first | with_reducible exact Keeps.refl | refine Keeps.upd rfl ?_ | refine Keeps.sets rfl ?_ | refine Keeps.havoc rfl ?_)) ⟨rfl, rfl, trivial⟩ (Sub.all _)
 ·(apply gw_d; exact det_subU (Nat.le_of_lt (Nat.mod_lt _ (by omega))) rfl rfl rfl rfl; refine gM ?_; refine gN ?_; (iterate 2 refine gM ?_); apply gw_d; exact det_quoU (Nat.mod_lt _ (by omega)) hd0 rfl rfl rfl rfl; refine gM ?_; refine gN ?_; (iterate 3 refine gM ?_); apply gw_d; exact det_mulU rfl rfl rfl rfl; apply gw_d; exact det_subU (Nat.le_of_lt (Nat.mod_lt _ (by omega))) rfl rfl rfl rfl; refine gM ?_; refine gO ?_; refine gQ ?_; refine gB ?_)
  refine gc_loopK (σ := Nat × Nat) [102, 103, 104, 105, 106, 107, 108, 109, 110, 111, 112, 113, 114, 115, 18, 116, 117, 118, 16, 119, 120] (fun s => [(18, .int .u64 (s.1 : Int)), (16, .int .u64 (s.2 : Int))]) (fun s => s.2 < M) (fun s => M - s.2) (_, _) (Nat.lt_trans (rhat_lt (Nat.mod_lt _ (by omega)) hd0) hdM) ⟨rfl, rfl, trivial⟩ ?_
  rintro ⟨q2, r2⟩ base2 hr2
  dsimp only at hr2 ⊢
  focus (refine gQ ?_; refine gV ?_; refine gM ?_; refine gC ?_; refine gM ?_; refine gD (fun _ => ?_) (fun _ => ?_); (iterate 8 refine gU ?_); refine gPp ?_; refine gO ?_; refine gc_if_true rfl ?_; refine gK ?_; refine gX ?_; refine gB ?_; refine gV ?_; refine gM ?_; apply gw_d; exact det_subU (j := 1) (by omega) rfl rfl rfl rfl; refine gM ?_; refine gN ?_; (iterate 2 refine gM ?_); apply gw_d; exact det_addU rfl rfl rfl rfl; refine gM ?_; refine gN ?_; refine gM ?_; refine gC ?_; refine gO ?_; refine gc_if_dec rfl (fun _ => ?_) (fun _ => ?_); refine gI ?_; refine gx_block_other rfl ?_; refine gZ ?_; refine gJ ?_; refine gX ?_; refine gV ?_; refine gM ?_; apply gw_d; exact det_mulU rfl rfl rfl rfl; refine gM ?_; apply gw_d; exact det_addU rfl rfl rfl rfl; refine gM ?_; apply gw_d; exact det_mulU rfl rfl rfl rfl; refine gM ?_; apply gw_d; exact det_addU rfl rfl rfl rfl; (iterate 2 refine gM ?_); apply gw_d; exact det_mulU rfl rfl rfl rfl; rotate_left; refine gK ?_; refine gH ?_; rotate_left; (iterate 2 refine gM ?_); apply gw_d; exact det_mulU rfl rfl rfl rfl; refine gM ?_; apply gw_d; exact det_mulU rfl rfl rfl rfl; refine gM ?_; apply gw_d; exact det_addU rfl rfl rfl rfl; refine gC ?_; refine gPq ?_; refine gO ?_; refine gc_if_dec rfl (fun _ => ?_) (fun _ => ?_); refine gK ?_; refine gX ?_; refine gB ?_; refine gV ?_; refine gM ?_; apply gw_d; exact det_subU (j := 1) (by omega) rfl rfl rfl rfl; refine gM ?_; refine gN ?_; (iterate 2 refine gM ?_); apply gw_d; exact det_addU rfl rfl rfl rfl; refine gM ?_; refine gN ?_; refine gM ?_; refine gC ?_; refine gO ?_; refine gc_if_dec rfl (fun _ => ?_) (fun _ => ?_); refine gI ?_; refine gx_block_other rfl ?_; refine gZ ?_; refine gJ ?_; refine gX ?_; refine gV ?_; refine gM ?_; apply gw_d; exact det_mulU rfl rfl rfl rfl; refine gM ?_; apply gw_d; exact det_addU rfl rfl rfl rfl; refine gM ?_; apply gw_d; exact det_mulU rfl rfl rfl rfl; refine gM ?_; apply gw_d; exact det_addU rfl rfl rfl rfl; (iterate 2 refine gM ?_); apply gw_d; exact det_mulU rfl rfl rfl rfl; rotate_left; refine gK ?_; refine gH ?_; rotate_left; refine gI ?_; (iterate 2 refine gZ ?_); refine gJ ?_; refine gX ?_; refine gV ?_; refine gM ?_; apply gw_d; exact det_mulU rfl rfl rfl rfl; refine gM ?_; apply gw_d; exact det_addU rfl rfl rfl rfl; refine gM ?_; apply gw_d; exact det_mulU rfl rfl rfl rfl; refine gM ?_; apply gw_d; exact det_addU rfl rfl rfl rfl; (iterate 2 refine gM ?_); apply gw_d; exact det_mulU rfl rfl rfl rfl; rotate_left)
  ·(apply gw_d; exact det_subU (Nat.le_of_lt (Nat.mod_lt _ (by omega))) rfl rfl rfl rfl; refine gM ?_; apply gw_d; exact det_shrU rfl rfl rfl rfl; (iterate 2 refine gM ?_); refine gO ?_; refine gR ?_)
   exact gx_ret2 (u := .int _ _) (v := .int _ _) rfl rfl rfl (fun w' s => ⟨(_, _), rfl, trivial⟩)
  ·have h1 : (r2 + D) % 18446744073709551616 < M := by omega
   have h2 : M - (r2 + D) % 18446744073709551616 < M - r2 := by omega
   exact gx_round (_, (r2 + D) % 18446744073709551616) h1 h2 (by repeat (first | with_reducible exact Keeps.refl | refine Keeps.upd rfl ?_ | refine Keeps.sets rfl ?_ | refine Keeps.havoc rfl ?_)) ⟨rfl, rfl, trivial⟩ (Sub.all _)
  ·(apply gw_d; exact det_subU (Nat.le_of_lt (Nat.mod_lt _ (by omega))) rfl rfl rfl rfl; refine gM ?_; apply gw_d; exact det_shrU rfl rfl rfl rfl; (iterate 2 refine gM ?_); refine gO ?_; refine gR ?_)
   exact gx_ret2 (u := .int _ _) (v := .int _ _) rfl rfl rfl (fun w' s => ⟨(_, _), rfl, trivial⟩)
  ·have h1 : (r2 + D) % 18446744073709551616 < M := by omega
   have h2 : M - (r2 + D) % 18446744073709551616 < M - r2 := by omega
   exact gx_round (_, (r2 + D) % 18446744073709551616) h1 h2 (by repeat (first | with_reducible exact Keeps.refl | refine Keeps.upd rfl ?_ | refine Keeps.sets rfl ?_ | refine Keeps.havoc rfl ?_)) ⟨rfl, rfl, trivial⟩ (Sub.all _)
  ·(apply gw_d; exact det_subU (Nat.le_of_lt (Nat.mod_lt _ (by omega))) rfl rfl rfl rfl; refine gM ?_; apply gw_d; exact det_shrU rfl rfl rfl rfl; (iterate 2 refine gM ?_); refine gO ?_; refine gR ?_)
   exact gx_ret2 (u := .int _ _) (v := .int _ _) rfl rfl rfl (fun w' s => ⟨(_, _), rfl, trivial⟩)
theorem partner_bad (w : World) (L a : Int) (_hL : 1 ≤ L ∧ L ≤ 1099511627776) (h : a < 0 ∨ a > L) : Ok Tryz.prog 118 [.int .i64 L, .int .i64 L, .bool false, .int .i64 a].toArray w fun r _ => r = .tuple #[.int .i64 0, .int .i64 3] := by
 refine ok_enter Tryz.func118 rfl Tryz.ntmps118 rfl ?_
 focus (refine gV ?_; (iterate 2 refine gM ?_); refine gO ?_; refine gQ ?_; refine gV ?_; refine gM ?_; refine gC ?_; refine gM ?_; refine gD (fun _ => ?_) (fun _ => ?_); (iterate 2 refine gU ?_); refine gPp ?_; refine gM ?_; (iterate 2 refine gU ?_); refine gPp ?_; refine gM ?_; (iterate 2 refine gU ?_); refine gPp ?_; refine gM ?_; (iterate 2 refine gU ?_); refine gPp ?_; refine gM ?_; (iterate 3 refine gU ?_); refine gPp ?_; refine gO ?_; refine gc_if_true rfl ?_; refine gV ?_; (iterate 2 refine gM ?_); refine gO ?_; refine gR ?_; refine gT ?_; rotate_left; refine gM ?_; refine gC ?_; refine gPq ?_; refine gM ?_; refine gD (fun _ => ?_) (fun _ => ?_); (iterate 2 refine gU ?_); refine gPp ?_; refine gM ?_; (iterate 2 refine gU ?_); refine gPp ?_; refine gM ?_; (iterate 2 refine gU ?_); refine gPp ?_; refine gM ?_; (iterate 3 refine gU ?_); refine gPp ?_; refine gO ?_; refine gc_if_true rfl ?_; refine gV ?_; (iterate 2 refine gM ?_); refine gO ?_; refine gR ?_; refine gT ?_; rotate_left; refine gM ?_; refine gC ?_; refine gPq ?_; refine gM ?_; refine gD (fun _ => ?_) (fun _ => ?_); (iterate 2 refine gU ?_); refine gPp ?_; refine gM ?_; (iterate 2 refine gU ?_); refine gPp ?_; refine gM ?_; (iterate 3 refine gU ?_); refine gPp ?_; refine gO ?_; refine gc_if_true rfl ?_; refine gV ?_; (iterate 2 refine gM ?_); refine gO ?_; refine gR ?_; refine gT ?_; rotate_left; refine gM ?_; refine gC ?_; refine gPq ?_; refine gM ?_; refine gD (fun _ => ?_) (fun _ => ?_); (iterate 2 refine gU ?_); refine gPp ?_; refine gM ?_; (iterate 3 refine gU ?_); refine gPp ?_; refine gO ?_; refine gc_if_true rfl ?_; refine gV ?_; (iterate 2 refine gM ?_); refine gO ?_; refine gR ?_; refine gT ?_; rotate_left; refine gM ?_; refine gC ?_; refine gPq ?_; refine gM ?_; refine gD (fun _ => ?_) (fun _ => ?_); (iterate 3 refine gU ?_); refine gPp ?_; refine gO ?_; refine gc_if_true rfl ?_; refine gV ?_; (iterate 2 refine gM ?_); refine gO ?_; refine gR ?_; refine gT ?_; rotate_left; (iterate 2 refine gM ?_); refine gC ?_; refine gPq ?_; refine gO ?_; refine gc_if_dec rfl (fun _ => ?_) (fun _ => ?_); refine gV ?_; (iterate 2 refine gM ?_); refine gO ?_; refine gR ?_; refine gT ?_; rotate_left; refine gK ?_; refine gX ?_; refine gV ?_; refine gM ?_; rotate_left)
 all_goals first | (refine gx_ret2 (u := .int _ _) (v := .int _ _) rfl rfl rfl (fun _ _ => ?_); rfl) | skip
 all_goals (exfalso; omega)
theorem partner_ok (w : World) (L a : Nat) (hL : 1 ≤ L ∧ L ≤ 1099511627776) (h : a ≤ L) : OkM Tryz.prog 118 [.int .i64 (L : Int), .int .i64 (L : Int), .bool false, .int .i64 (a : Int)].toArray w (fun x : Int => .tuple #[.int .i64 x, .int .i64 0]) (fun _ => []) := by
 have wL : IntKind.u64.wrap (L : Int) = (L : Int) := by rw [u64w]; omega
 have wa : IntKind.u64.wrap (a : Int) = (a : Int) := by rw [u64w]; omega
 have hhi : a * L / 18446744073709551616 < L := by
  rw [Nat.div_lt_iff_lt_mul (by omega)]
  have h1 : a * L ≤ L * L := Nat.mul_le_mul_right _ h
  have h2 : L * L < L * 18446744073709551616 := Nat.mul_lt_mul_of_pos_left (by omega) (by omega)
  omega
 have hM : ∀ (K : List Res) (w' : World), St w K w' → Ok Tryz.prog 138 [.int .u64 (a : Int), .int .u64 (L : Int)].toArray w' fun r _ => r = .tuple #[.int .u64 ((a * L / 18446744073709551616 : Nat) : Int), .int .u64 ((a * L % 18446744073709551616 : Nat) : Int)] := fun K w' _ => mul64_ok w' a L (by omega) (by omega)
 have hlo : a * L % 18446744073709551616 < 18446744073709551616 := Nat.mod_lt _ (by omega)
 generalize a * L / 18446744073709551616 = hi at *
 generalize a * L % 18446744073709551616 = lo at *
 unfold OkM
 refine ok_enter Tryz.func118 rfl Tryz.ntmps118 rfl ?_
 focus (refine gV ?_; (iterate 2 refine gM ?_); refine gO ?_; refine gQ ?_; refine gV ?_; refine gM ?_; refine gC ?_; refine gM ?_; refine gD (fun _ => ?_) (fun _ => ?_); (iterate 2 refine gU ?_); refine gPp ?_; refine gM ?_; (iterate 2 refine gU ?_); refine gPp ?_; refine gM ?_; (iterate 2 refine gU ?_); refine gPp ?_; refine gM ?_; (iterate 2 refine gU ?_); refine gPp ?_; refine gM ?_; (iterate 3 refine gU ?_); refine gPp ?_; refine gO ?_; refine gc_if_true rfl ?_; refine gV ?_; (iterate 2 refine gM ?_); refine gO ?_; refine gR ?_; refine gT ?_; rotate_left; refine gM ?_; refine gC ?_; refine gPq ?_; refine gM ?_; refine gD (fun _ => ?_) (fun _ => ?_); (iterate 2 refine gU ?_); refine gPp ?_; refine gM ?_; (iterate 2 refine gU ?_); refine gPp ?_; refine gM ?_; (iterate 2 refine gU ?_); refine gPp ?_; refine gM ?_; (iterate 3 refine gU ?_); refine gPp ?_; refine gO ?_; refine gc_if_true rfl ?_; refine gV ?_; (iterate 2 refine gM ?_); refine gO ?_; refine gR ?_; refine gT ?_; rotate_left; refine gM ?_; refine gC ?_; refine gPq ?_; (iterate 2 refine gM ?_); refine gC ?_; refine gPq ?_; refine gM ?_; refine gD (fun _ => ?_) (fun _ => ?_); (iterate 2 refine gU ?_); refine gPp ?_; refine gM ?_; (iterate 3 refine gU ?_); refine gPp ?_; refine gO ?_; refine gc_if_true rfl ?_; refine gV ?_; (iterate 2 refine gM ?_); refine gO ?_; refine gR ?_; refine gT ?_; rotate_left; refine gM ?_; refine gC ?_; refine gPq ?_; (iterate 3 refine gM ?_); refine gC ?_; refine gPq ?_; refine gO ?_; refine gc_if_dec rfl (fun _ => ?_) (fun _ => ?_); refine gV ?_; (iterate 2 refine gM ?_); refine gO ?_; refine gR ?_; refine gT ?_; rotate_left; refine gK ?_; refine gX ?_; refine gV ?_; refine gM ?_; apply gw_d; exact det_conv rfl rfl rfl wa; refine gM ?_; apply gw_d; exact det_conv rfl rfl rfl wL; apply gw_d; exact w_call rfl rfl (hM _) rfl; refine gM ?_; apply gw_d; exact det_extract rfl rfl rfl (by conv => (lhs; whnf)); apply gw_d; exact det_extract rfl rfl rfl (by conv => (lhs; whnf)); (iterate 2 refine gM ?_); refine gN ?_; (iterate 3 refine gM ?_); apply gw_d; exact det_conv rfl rfl rfl wL; rotate_left)
 all_goals first | (exfalso; omega) | skip
 refine gw_callm rfl (fun w s => div64_ok w hi lo L hlo (by omega) hhi) rfl (fun x => ?_)
 focus (refine gM ?_; apply gw_d; exact det_extract rfl rfl rfl (by conv => (lhs; whnf)); apply gw_d; exact det_extract rfl rfl rfl (by conv => (lhs; whnf)); (iterate 2 refine gM ?_); refine gO ?_; refine gQ ?_; refine gV ?_; refine gM ?_; apply gw_d; exact det_mulU (i := 2) rfl rfl rfl rfl; refine gM ?_; apply gw_d; exact det_conv rfl rfl rfl wL; refine gC ?_; refine gO ?_; refine gc_if_dec rfl (fun _ => ?_) (fun _ => ?_); refine gG ?_; refine gM ?_; apply gw_d; exact det_addU (j := 1) rfl rfl rfl rfl; refine gM ?_; refine gN ?_; refine gM ?_; apply gw_d; exact det_conv rfl rfl rfl rfl; refine gM ?_; refine gO ?_; refine gQ ?_; refine gV ?_; refine gM ?_; refine gO ?_; refine gc_if_false rfl ?_; refine gK ?_; refine gX ?_; refine gV ?_; (iterate 3 refine gM ?_); refine gO ?_; refine gR ?_; rotate_left; refine gK ?_; refine gX ?_; refine gV ?_; refine gM ?_; apply gw_d; exact det_conv rfl rfl rfl rfl; refine gM ?_; refine gO ?_; refine gQ ?_; refine gV ?_; refine gM ?_; refine gO ?_; refine gc_if_false rfl ?_; refine gK ?_; refine gX ?_; refine gV ?_; (iterate 3 refine gM ?_); refine gO ?_; refine gR ?_; rotate_left)
 all_goals exact gx_ret2 (u := .int _ _) (v := .int _ _) rfl rfl rfl (fun w' s => ⟨_, rfl, trivial⟩)
set_option profiler true
set_option profiler.threshold 2000

def Bd (x : Int) : Prop := -1048576 ≤ x ∧ x ≤ 1048576
theorem mul_bd {x y B C : Int} (h1 : -B ≤ x) (h2 : x ≤ B) (h3 : -C ≤ y) (h4 : y ≤ C) : -(B * C) ≤ x * y ∧ x * y ≤ B * C := by
 have hB : 0 ≤ B := by omega
 have hC : 0 ≤ C := by omega
 have a1 : 0 ≤ (B - x) * (C - y) := Int.mul_nonneg (by omega) (by omega)
 have a2 : 0 ≤ (B + x) * (C + y) := Int.mul_nonneg (by omega) (by omega)
 have a3 : 0 ≤ (B - x) * (C + y) := Int.mul_nonneg (by omega) (by omega)
 have a4 : 0 ≤ (B + x) * (C - y) := Int.mul_nonneg (by omega) (by omega)
 simp only [Int.sub_mul, Int.add_mul, Int.mul_sub, Int.mul_add] at a1 a2 a3 a4
 omega

def spot (x y : Int) : Value := .agg #[.int .i64 x, .int .i64 y]
def outB (x y : Int) : Bool := decide (x < -1048576) || decide (x > 1048576) || decide (y < -1048576) || decide (y > 1048576)
def crossI (ax ay bx by_ cx cy : Int) : Int := (bx - ax) * (cy - ay) - (by_ - ay) * (cx - ax)

theorem outside_ok (w : World) (x y : Int) : Ok Tryz.prog 135 [.agg #[.int .i64 x, .int .i64 y]].toArray w fun r _ => r = .bool (outB x y) := by
 refine ok_enter Tryz.func135 rfl Tryz.ntmps135 rfl ?_
 focus (refine gV ?_; refine gw_boxd (v := .agg _) rfl rfl (fun _ => ?_); refine gM ?_; refine gN ?_; refine gF ?_; refine gW .here ?_; refine gC ?_; refine gM ?_; refine gD (fun _ => ?_) (fun _ => ?_); (iterate 3 refine gU ?_); refine gPp ?_; refine gM ?_; (iterate 3 refine gU ?_); refine gPp ?_; refine gM ?_; (iterate 3 refine gU ?_); refine gPp ?_; refine gM ?_; refine gO ?_; refine gR ?_; rotate_left; refine gF ?_; refine gW .here ?_; refine gC ?_; refine gPq ?_; refine gM ?_; refine gD (fun _ => ?_) (fun _ => ?_); (iterate 3 refine gU ?_); refine gPp ?_; refine gM ?_; (iterate 3 refine gU ?_); refine gPp ?_; refine gM ?_; refine gO ?_; refine gR ?_; rotate_left; refine gF ?_; refine gW .here ?_; refine gC ?_; refine gPq ?_; refine gM ?_; refine gD (fun _ => ?_) (fun _ => ?_); (iterate 3 refine gU ?_); refine gPp ?_; refine gM ?_; refine gO ?_; refine gR ?_; rotate_left; refine gF ?_; refine gW .here ?_; refine gC ?_; refine gPq ?_; refine gM ?_; refine gO ?_; refine gR ?_; rotate_left)
 all_goals (refine gb1 (fun _ _ => ?_); simp [outB, *])

set_option maxHeartbeats 1000000 in
theorem cross_ok (w : World) (ax ay bx by_ cx cy : Int) (h1 : Bd ax) (h2 : Bd ay) (h3 : Bd bx) (h4 : Bd by_) (h5 : Bd cx) (h6 : Bd cy) :
  Ok Tryz.prog 157 [.agg #[.int .i64 ax, .int .i64 ay], .agg #[.int .i64 bx, .int .i64 by_], .agg #[.int .i64 cx, .int .i64 cy]].toArray w fun r _ => r = .int .i64 (crossI ax ay bx by_ cx cy) := by
 unfold Bd at *
 have m1 := mul_bd (x := bx - ax) (y := cy - ay) (B := 2097152) (C := 2097152) (by omega) (by omega) (by omega) (by omega)
 have m2 := mul_bd (x := by_ - ay) (y := cx - ax) (B := 2097152) (C := 2097152) (by omega) (by omega) (by omega) (by omega)
 refine ok_enter Tryz.func157 rfl Tryz.ntmps157 rfl ?_
 (refine gV ?_; refine gw_boxd (v := .agg _) rfl rfl (fun _ => ?_); refine gw_boxd (v := .agg _) rfl rfl (fun _ => ?_); refine gw_boxd (v := .agg _) rfl rfl (fun _ => ?_); refine gM ?_; refine gN ?_; refine gF ?_; refine gW (.there .here) ?_; refine gF ?_; refine gW (.there (.there .here)) ?_; refine gA ?_; refine gF ?_; refine gW .here ?_; refine gF ?_; refine gW (.there (.there .here)) ?_; refine gA ?_; refine gA ?_; refine gF ?_; refine gW (.there .here) ?_; refine gF ?_; refine gW (.there (.there .here)) ?_; refine gA ?_; refine gF ?_; refine gW .here ?_; refine gF ?_; refine gW (.there (.there .here)) ?_; refine gA ?_; refine gA ?_; refine gA ?_; refine gM ?_; refine gO ?_; refine gR ?_)
 refine gi1 (fun _ _ => ?_)
 simp only [crossI]
def onB (ax ay bx by_ px py : Int) : Bool := decide (crossI ax ay bx by_ px py = 0) && decide (min ax bx ≤ px) && decide (px ≤ max ax bx) && decide (min ay by_ ≤ py) && decide (py ≤ max ay by_)

set_option maxHeartbeats 400000 in
theorem on_ok (w : World) (ax ay bx by_ cx cy : Int) (h1 : Bd ax) (h2 : Bd ay) (h3 : Bd bx) (h4 : Bd by_) (h5 : Bd cx) (h6 : Bd cy) :
  Ok Tryz.prog 158 [.agg #[.int .i64 ax, .int .i64 ay], .agg #[.int .i64 bx, .int .i64 by_], .agg #[.int .i64 cx, .int .i64 cy]].toArray w fun r _ => r = .bool (onB ax ay bx by_ cx cy) := by
 refine ok_enter Tryz.func158 rfl Tryz.ntmps158 rfl ?_
 focus (refine gV ?_; refine gw_boxd (v := .agg _) rfl rfl (fun _ => ?_); refine gw_boxd (v := .agg _) rfl rfl (fun _ => ?_); refine gw_boxd (v := .agg _) rfl rfl (fun _ => ?_); refine gM ?_; refine gN ?_; apply gw_d; exact w_load_boxN rfl rfl rfl (.there (.there .here)) rfl; apply gw_d; exact w_load_boxN rfl rfl rfl (.there .here) rfl; apply gw_d; exact w_load_boxN rfl rfl rfl .here rfl; apply gw_d; exact w_call rfl rfl (fun w _ => cross_ok w _ _ _ _ _ _ h1 h2 h3 h4 h5 h6) rfl; refine gC ?_; refine gM ?_; refine gD (fun _ => ?_) (fun _ => ?_); refine gF ?_; refine gW (.there (.there .here)) ?_; refine gF ?_; refine gW (.there .here) ?_; apply gw_d; exact w_min rfl rfl rfl rfl; refine gF ?_; refine gW .here ?_; refine gC ?_; refine gPp ?_; refine gM ?_; refine gD (fun _ => ?_) (fun _ => ?_); refine gF ?_; refine gW .here ?_; refine gF ?_; refine gW (.there (.there .here)) ?_; refine gF ?_; refine gW (.there .here) ?_; apply gw_d; exact w_max rfl rfl rfl rfl; refine gC ?_; refine gPp ?_; refine gM ?_; refine gD (fun _ => ?_) (fun _ => ?_); refine gF ?_; refine gW (.there (.there .here)) ?_; refine gF ?_; refine gW (.there .here) ?_; apply gw_d; exact w_min rfl rfl rfl rfl; refine gF ?_; refine gW .here ?_; refine gC ?_; refine gPp ?_; refine gM ?_; refine gD (fun _ => ?_) (fun _ => ?_); refine gF ?_; refine gW .here ?_; refine gF ?_; refine gW (.there (.there .here)) ?_; refine gF ?_; refine gW (.there .here) ?_; apply gw_d; exact w_max rfl rfl rfl rfl; refine gC ?_; refine gPp ?_; refine gM ?_; refine gO ?_; refine gR ?_; rotate_left; (iterate 8 refine gU ?_); refine gPq ?_; refine gM ?_; refine gO ?_; refine gR ?_; rotate_left; (iterate 8 refine gU ?_); refine gPq ?_; refine gM ?_; (iterate 8 refine gU ?_); refine gPq ?_; refine gM ?_; refine gO ?_; refine gR ?_; rotate_left; (iterate 8 refine gU ?_); refine gPq ?_; refine gM ?_; (iterate 8 refine gU ?_); refine gPq ?_; refine gM ?_; (iterate 8 refine gU ?_); refine gPq ?_; refine gM ?_; refine gO ?_; refine gR ?_; rotate_left; (iterate 8 refine gU ?_); refine gPq ?_; refine gM ?_; (iterate 8 refine gU ?_); refine gPq ?_; refine gM ?_; (iterate 8 refine gU ?_); refine gPq ?_; refine gM ?_; (iterate 8 refine gU ?_); refine gPq ?_; refine gM ?_; refine gO ?_; refine gR ?_; rotate_left)
 all_goals (refine gb1 (fun _ _ => ?_); simp [onB, *])

theorem isNaN_ok (w : World) (x : Int) : Ok Tryz.prog 37 [.int .i64 x].toArray w fun r _ => r = .bool false := by
 refine ok_enter Tryz.func37 rfl Tryz.ntmps37 rfl ?_
 (refine gV ?_; refine gM ?_; refine gN ?_; (iterate 2 refine gM ?_); refine gC ?_; refine gM ?_; refine gO ?_; refine gR ?_)
 refine gb1 (fun _ _ => ?_)
 simp
def signI (x y : Int) : Int := if x < y then -1 else if x > y then 1 else 0
theorem compare_ok (w : World) (x y : Int) : Ok Tryz.prog 22 [.int .i64 x, .int .i64 y].toArray w fun r _ => r = .int .i64 (signI x y) := by
 refine ok_enter Tryz.func22 rfl Tryz.ntmps22 rfl ?_
 focus (refine gV ?_; refine gM ?_; refine gN ?_; refine gM ?_; apply gw_d; exact w_call rfl rfl (fun w _ => isNaN_ok w _) rfl; refine gM ?_; refine gN ?_; refine gM ?_; apply gw_d; exact w_call rfl rfl (fun w _ => isNaN_ok w _) rfl; refine gM ?_; refine gO ?_; refine gQ ?_; refine gV ?_; refine gM ?_; refine gO ?_; refine gc_if_false rfl ?_; refine gK ?_; refine gX ?_; refine gQ ?_; refine gV ?_; refine gM ?_; refine gO ?_; refine gc_if_false rfl ?_; refine gK ?_; refine gX ?_; refine gQ ?_; refine gV ?_; (iterate 2 refine gM ?_); refine gC ?_; refine gO ?_; refine gc_if_dec rfl (fun _ => ?_) (fun _ => ?_); refine gV ?_; refine gM ?_; refine gO ?_; refine gR ?_; refine gT ?_; rotate_left; refine gK ?_; refine gX ?_; refine gQ ?_; refine gV ?_; (iterate 2 refine gM ?_); refine gC ?_; refine gO ?_; refine gc_if_dec rfl (fun _ => ?_) (fun _ => ?_); refine gV ?_; refine gM ?_; refine gO ?_; refine gR ?_; refine gT ?_; rotate_left; refine gK ?_; refine gX ?_; refine gV ?_; refine gM ?_; refine gO ?_; refine gR ?_; rotate_left)
 all_goals (refine gi1 (fun _ _ => ?_); simp [signI, *])

def partB (ax ay bx by_ cx cy dx dy : Int) : Bool := decide (signI (crossI ax ay bx by_ cx cy) 0 * signI (crossI ax ay bx by_ dx dy) 0 < 0)
theorem sign_bd (x y : Int) : -1 ≤ signI x y ∧ signI x y ≤ 1 := by unfold signI; split <;> (try split) <;> omega

set_option maxHeartbeats 400000 in
theorem parted_ok (w : World) (ax ay bx by_ cx cy dx dy : Int) (h1 : Bd ax) (h2 : Bd ay) (h3 : Bd bx) (h4 : Bd by_) (h5 : Bd cx) (h6 : Bd cy) (h7 : Bd dx) (h8 : Bd dy) :
  Ok Tryz.prog 159 [.agg #[.int .i64 ax, .int .i64 ay], .agg #[.int .i64 bx, .int .i64 by_], .agg #[.int .i64 cx, .int .i64 cy], .agg #[.int .i64 dx, .int .i64 dy]].toArray w fun r _ => r = .bool (partB ax ay bx by_ cx cy dx dy) := by
 have s1 := sign_bd (crossI ax ay bx by_ cx cy) 0
 have s2 := sign_bd (crossI ax ay bx by_ dx dy) 0
 have m := mul_bd (B := 1) (C := 1) s1.1 s1.2 s2.1 s2.2
 refine ok_enter Tryz.func159 rfl Tryz.ntmps159 rfl ?_
 (refine gV ?_; refine gw_boxd (v := .agg _) rfl rfl (fun _ => ?_); refine gw_boxd (v := .agg _) rfl rfl (fun _ => ?_); refine gw_boxd (v := .agg _) rfl rfl (fun _ => ?_); refine gw_boxd (v := .agg _) rfl rfl (fun _ => ?_); refine gM ?_; refine gO ?_; refine gQ ?_)
 refine gc_draw 12 (by kernel_rfl) (by kernel_rfl) ?_
 (apply gd_d; exact w_load_boxN rfl rfl rfl (.there (.there (.there .here))) rfl; apply gd_d; exact w_load_boxN rfl rfl rfl (.there (.there .here)) rfl; apply gd_d; exact w_load_boxN rfl rfl rfl (.there .here) rfl; apply gd_d; exact w_call rfl rfl (fun w _ => cross_ok w _ _ _ _ _ _ h1 h2 h3 h4 h5 h6) rfl; apply gd_d; exact w_call rfl rfl (fun w _ => compare_ok w _ _) rfl; apply gd_d; exact w_load_boxN rfl rfl rfl (.there (.there (.there .here))) rfl; apply gd_d; exact w_load_boxN rfl rfl rfl (.there (.there .here)) rfl; apply gd_d; exact w_load_boxN rfl rfl rfl .here rfl; apply gd_d; exact w_call rfl rfl (fun w _ => cross_ok w _ _ _ _ _ _ h1 h2 h3 h4 h7 h8) rfl; apply gd_d; exact w_call rfl rfl (fun w _ => compare_ok w _ _) rfl; apply gd_d; exact det_ar rfl rfl rfl rfl rfl (by omega); apply gd_d; exact det_cmp rfl rfl rfl rfl rfl; refine gd_nil ?_; refine gM ?_; refine gO ?_; refine gR ?_)
 refine gb1 (fun _ _ => ?_)
 simp only [partB]

def foldB (ax ay bx by_ cx cy : Int) : Bool := decide (crossI ax ay bx by_ cx cy = 0) && decide ((ax - bx) * (cx - bx) + (ay - by_) * (cy - by_) > 0)
set_option maxHeartbeats 400000 in
theorem folded_ok (w : World) (ax ay bx by_ cx cy : Int) (h1 : Bd ax) (h2 : Bd ay) (h3 : Bd bx) (h4 : Bd by_) (h5 : Bd cx) (h6 : Bd cy) :
  Ok Tryz.prog 147 [.agg #[.int .i64 ax, .int .i64 ay], .agg #[.int .i64 bx, .int .i64 by_], .agg #[.int .i64 cx, .int .i64 cy]].toArray w fun r _ => r = .bool (foldB ax ay bx by_ cx cy) := by
 have b1 := h1; have b2 := h2; have b3 := h3; have b4 := h4; have b5 := h5; have b6 := h6
 unfold Bd at b1 b2 b3 b4 b5 b6
 have m1 := mul_bd (x := ax - bx) (y := cx - bx) (B := 2097152) (C := 2097152) (by omega) (by omega) (by omega) (by omega)
 have m2 := mul_bd (x := ay - by_) (y := cy - by_) (B := 2097152) (C := 2097152) (by omega) (by omega) (by omega) (by omega)
 refine ok_enter Tryz.func147 rfl Tryz.ntmps147 rfl ?_
 focus (refine gV ?_; refine gw_boxd (v := .agg _) rfl rfl (fun _ => ?_); refine gw_boxd (v := .agg _) rfl rfl (fun _ => ?_); refine gw_boxd (v := .agg _) rfl rfl (fun _ => ?_); refine gM ?_; refine gN ?_; apply gw_d; exact w_load_boxN rfl rfl rfl (.there (.there .here)) rfl; apply gw_d; exact w_load_boxN rfl rfl rfl (.there .here) rfl; apply gw_d; exact w_load_boxN rfl rfl rfl .here rfl; apply gw_d; exact w_call rfl rfl (fun w _ => cross_ok w _ _ _ _ _ _ h1 h2 h3 h4 h5 h6) rfl; refine gC ?_; refine gM ?_; refine gD (fun _ => ?_) (fun _ => ?_); refine gF ?_; refine gW (.there (.there .here)) ?_; refine gF ?_; refine gW (.there .here) ?_; refine gA ?_; refine gF ?_; refine gW .here ?_; refine gF ?_; refine gW (.there .here) ?_; refine gA ?_; refine gA ?_; refine gF ?_; refine gW (.there (.there .here)) ?_; refine gF ?_; refine gW (.there .here) ?_; refine gA ?_; refine gF ?_; refine gW .here ?_; refine gF ?_; refine gW (.there .here) ?_; refine gA ?_; refine gA ?_; refine gA ?_; refine gC ?_; refine gPp ?_; refine gM ?_; refine gO ?_; refine gR ?_; rotate_left; (iterate 24 refine gU ?_); refine gPq ?_; refine gM ?_; refine gO ?_; refine gR ?_; rotate_left)
 all_goals (refine gb1 (fun _ _ => ?_); simp [foldB, *])

def meetB (ax ay bx by_ cx cy dx dy : Int) : Bool := onB ax ay bx by_ cx cy || onB ax ay bx by_ dx dy || onB cx cy dx dy ax ay || onB cx cy dx dy bx by_ || (partB ax ay bx by_ cx cy dx dy && partB cx cy dx dy ax ay bx by_)
set_option maxHeartbeats 400000 in
theorem meet_ok (w : World) (ax ay bx by_ cx cy dx dy : Int) (h1 : Bd ax) (h2 : Bd ay) (h3 : Bd bx) (h4 : Bd by_) (h5 : Bd cx) (h6 : Bd cy) (h7 : Bd dx) (h8 : Bd dy) :
  Ok Tryz.prog 148 [.agg #[.int .i64 ax, .int .i64 ay], .agg #[.int .i64 bx, .int .i64 by_], .agg #[.int .i64 cx, .int .i64 cy], .agg #[.int .i64 dx, .int .i64 dy]].toArray w fun r _ => r = .bool (meetB ax ay bx by_ cx cy dx dy) := by
 refine ok_enter Tryz.func148 rfl Tryz.ntmps148 rfl ?_
 focus (refine gV ?_; refine gw_boxd (v := .agg _) rfl rfl (fun _ => ?_); refine gw_boxd (v := .agg _) rfl rfl (fun _ => ?_); refine gw_boxd (v := .agg _) rfl rfl (fun _ => ?_); refine gw_boxd (v := .agg _) rfl rfl (fun _ => ?_); refine gM ?_; refine gN ?_; apply gw_d; exact w_load_boxN rfl rfl rfl (.there (.there (.there .here))) rfl; apply gw_d; exact w_load_boxN rfl rfl rfl (.there (.there .here)) rfl; apply gw_d; exact w_load_boxN rfl rfl rfl (.there .here) rfl; apply gw_d; exact w_call rfl rfl (fun w _ => on_ok w _ _ _ _ _ _ (by assumption) (by assumption) (by assumption) (by assumption) (by assumption) (by assumption)) rfl; refine gM ?_; refine gw_guard rfl rfl (fun _ => ?_) (fun _ => ?_); (iterate 4 refine gU ?_); refine gPp ?_; refine gM ?_; (iterate 4 refine gU ?_); refine gPp ?_; refine gM ?_; (iterate 4 refine gU ?_); refine gPp ?_; refine gM ?_; (iterate 12 refine gU ?_); refine gPp ?_; refine gM ?_; refine gO ?_; refine gR ?_; rotate_left; apply gw_d; exact w_load_boxN rfl rfl rfl (.there (.there (.there .here))) rfl; apply gw_d; exact w_load_boxN rfl rfl rfl (.there (.there .here)) rfl; apply gw_d; exact w_load_boxN rfl rfl rfl .here rfl; apply gw_d; exact w_call rfl rfl (fun w _ => on_ok w _ _ _ _ _ _ (by assumption) (by assumption) (by assumption) (by assumption) (by assumption) (by assumption)) rfl; refine gPq ?_; refine gM ?_; refine gw_guard rfl rfl (fun _ => ?_) (fun _ => ?_); (iterate 4 refine gU ?_); refine gPp ?_; refine gM ?_; (iterate 4 refine gU ?_); refine gPp ?_; refine gM ?_; (iterate 12 refine gU ?_); refine gPp ?_; refine gM ?_; refine gO ?_; refine gR ?_; rotate_left; apply gw_d; exact w_load_boxN rfl rfl rfl (.there .here) rfl; apply gw_d; exact w_load_boxN rfl rfl rfl .here rfl; apply gw_d; exact w_load_boxN rfl rfl rfl (.there (.there (.there .here))) rfl; apply gw_d; exact w_call rfl rfl (fun w _ => on_ok w _ _ _ _ _ _ (by assumption) (by assumption) (by assumption) (by assumption) (by assumption) (by assumption)) rfl; refine gPq ?_; refine gM ?_; refine gw_guard rfl rfl (fun _ => ?_) (fun _ => ?_); (iterate 4 refine gU ?_); refine gPp ?_; refine gM ?_; (iterate 12 refine gU ?_); refine gPp ?_; refine gM ?_; refine gO ?_; refine gR ?_; rotate_left; apply gw_d; exact w_load_boxN rfl rfl rfl (.there .here) rfl; apply gw_d; exact w_load_boxN rfl rfl rfl .here rfl; apply gw_d; exact w_load_boxN rfl rfl rfl (.there (.there .here)) rfl; apply gw_d; exact w_call rfl rfl (fun w _ => on_ok w _ _ _ _ _ _ (by assumption) (by assumption) (by assumption) (by assumption) (by assumption) (by assumption)) rfl; refine gPq ?_; refine gM ?_; refine gw_guard rfl rfl (fun _ => ?_) (fun _ => ?_); (iterate 12 refine gU ?_); refine gPp ?_; refine gM ?_; refine gO ?_; refine gR ?_; rotate_left; apply gw_d; exact w_load_boxN rfl rfl rfl (.there (.there (.there .here))) rfl; apply gw_d; exact w_load_boxN rfl rfl rfl (.there (.there .here)) rfl; apply gw_d; exact w_load_boxN rfl rfl rfl (.there .here) rfl; apply gw_d; exact w_load_boxN rfl rfl rfl .here rfl; apply gw_d; exact w_call rfl rfl (fun w _ => parted_ok w _ _ _ _ _ _ _ _ (by assumption) (by assumption) (by assumption) (by assumption) (by assumption) (by assumption) (by assumption) (by assumption)) rfl; refine gM ?_; refine gD (fun _ => ?_) (fun _ => ?_); apply gw_d; exact w_load_boxN rfl rfl rfl (.there .here) rfl; apply gw_d; exact w_load_boxN rfl rfl rfl .here rfl; apply gw_d; exact w_load_boxN rfl rfl rfl (.there (.there (.there .here))) rfl; apply gw_d; exact w_load_boxN rfl rfl rfl (.there (.there .here)) rfl; apply gw_d; exact w_call rfl rfl (fun w _ => parted_ok w _ _ _ _ _ _ _ _ (by assumption) (by assumption) (by assumption) (by assumption) (by assumption) (by assumption) (by assumption) (by assumption)) rfl; refine gPp ?_; refine gPq ?_; refine gM ?_; refine gO ?_; refine gR ?_; rotate_left; (iterate 5 refine gU ?_); (iterate 2 refine gPq ?_); refine gM ?_; refine gO ?_; refine gR ?_; rotate_left)
 all_goals (refine gb1 (fun _ _ => ?_); simp [meetB, partB, *])
section
variable {α : Type}
def idxI (p : α → Bool) (l : List α) : Int := (l.findIdx? p).elim (-1) fun i => (i : Int)
theorem idx_found {p : α → Bool} {l : List α} {k : Nat} (hk : k < l.length) (h : (l.take k).any p = false) (hp : p l[k] = true) : idxI p l = k := by
 have : l.findIdx? p = some k := by
  rw [List.findIdx?_eq_some_iff_getElem]
  refine ⟨hk, hp, fun j hj => ?_⟩
  have h1 := List.any_eq_false.1 h l[j] (by
   rw [List.mem_take_iff_getElem]
   exact ⟨j, by omega, rfl⟩)
  simpa using h1
 unfold idxI
 rw [this]
 rfl
theorem idx_none {p : α → Bool} {l : List α} (h : l.any p = false) : idxI p l = -1 := by
 have : l.findIdx? p = none := by
  rw [List.findIdx?_eq_none_iff]
  intro x hx
  simpa using List.any_eq_false.1 h x hx
 unfold idxI
 rw [this]
 rfl
theorem idx_nonneg (p : α → Bool) (l : List α) : (0 ≤ idxI p l) ↔ l.any p = true := by
 unfold idxI
 cases h : l.findIdx? p with
 | none =>
  rw [List.findIdx?_eq_none_iff] at h
  simp only [Option.elim]
  constructor
  ·intro h'; omega
  ·intro h'
   obtain ⟨x, hx, hp⟩ := List.any_eq_true.1 h'
   rw [h x hx] at hp
   cases hp
 | some i =>
  simp only [Option.elim]
  obtain ⟨hi, hp, _⟩ := List.findIdx?_eq_some_iff_getElem.1 h
  constructor
  ·intro _; exact List.any_eq_true.2 ⟨_, List.getElem_mem hi, hp⟩
  ·intro _; omega
theorem any_snoc {p : α → Bool} {l : List α} {k : Nat} (hk : k < l.length) (h : (l.take k).any p = false) (hp : p l[k] = false) : (l.take (k + 1)).any p = false := by
 rw [List.take_succ_eq_append_getElem hk, List.any_append, h]
 simp [hp]
end

def outP (p : Int × Int) : Bool := outB p.1 p.2

theorem pl_outside_ok (w : World) (x y : Int) : Ok Tryz.prog 134 [.agg #[.int .i64 x, .int .i64 y]].toArray w fun r _ => r = .bool (outB x y) := by
 refine ok_enter Tryz.func134 rfl Tryz.ntmps134 rfl ?_
 focus (refine gV ?_; refine gw_boxd (v := .agg _) rfl rfl (fun _ => ?_); refine gM ?_; refine gN ?_; refine gF ?_; refine gW .here ?_; refine gC ?_; refine gM ?_; refine gD (fun _ => ?_) (fun _ => ?_); (iterate 3 refine gU ?_); refine gPp ?_; refine gM ?_; (iterate 3 refine gU ?_); refine gPp ?_; refine gM ?_; (iterate 3 refine gU ?_); refine gPp ?_; refine gM ?_; refine gO ?_; refine gR ?_; rotate_left; refine gF ?_; refine gW .here ?_; refine gC ?_; refine gPq ?_; refine gM ?_; refine gD (fun _ => ?_) (fun _ => ?_); (iterate 3 refine gU ?_); refine gPp ?_; refine gM ?_; (iterate 3 refine gU ?_); refine gPp ?_; refine gM ?_; refine gO ?_; refine gR ?_; rotate_left; refine gF ?_; refine gW .here ?_; refine gC ?_; refine gPq ?_; refine gM ?_; refine gD (fun _ => ?_) (fun _ => ?_); (iterate 3 refine gU ?_); refine gPp ?_; refine gM ?_; refine gO ?_; refine gR ?_; rotate_left; refine gF ?_; refine gW .here ?_; refine gC ?_; refine gPq ?_; refine gM ?_; refine gO ?_; refine gR ?_; rotate_left)
 all_goals (refine gb1 (fun _ _ => ?_); simp [outB, *])

set_option maxHeartbeats 1000000 in
theorem indexFunc_ok (f : Nat) [CCall Tryz.prog f] (hf : ∀ w x y, Ok Tryz.prog f [.agg #[.int .i64 x, .int .i64 y]].toArray w fun r _ => r = .bool (outB x y)) (w : World) (v : Value) (l : List (Int × Int)) (hl : Sl rSpot w w.heap.size v l) :
  Ok Tryz.prog 145 [v, .func (.func f) #[] #[]].toArray w fun r _ => r = .int .i64 (idxI outP l) := by
 obtain ⟨A, c, rfl, hc, hm, hcell⟩ := hl.spot
 refine ok_enter Tryz.func145 rfl Tryz.ntmps145 rfl ?_
 (refine gV ?_; refine gM ?_; refine gO ?_; refine gQ ?_; refine gV ?_; refine gM ?_; refine gL ?_; refine gM ?_; refine gO ?_; refine gB ?_)
 refine gc_loop (σ := Nat) [9, 10, 5, 11, 12, 13, 14, 15, 16, 17, 4, 18, 8] (fun k => [(8, .int .i64 k)]) (fun _ => []) (fun k => k ≤ l.length ∧ (l.take k).any outP = false) (fun k => l.length - k) 0 ⟨Nat.zero_le _, rfl⟩ ⟨rfl, trivial⟩ .nil ?_
 rintro k base ⟨hk, hI⟩
 (refine gV ?_; refine gC ?_; refine gO ?_; refine gQ ?_)
 refine gc_if_dec rfl (fun h => ?_) (fun h => ?_)
 ·obtain ⟨ad, rfl, hb, hce, hi⟩ := hcell k (by omega)
  have hlt : k < l.length := by omega
  focus (refine gK ?_; refine gX ?_; refine gQ ?_; refine gB ?_; refine gV ?_; (iterate 2 refine gM ?_); refine gN ?_; (iterate 3 refine gM ?_); apply gw_d; exact w_index rfl rfl rfl rfl (by with_reducible exact rfl) (by omega); apply gw_d; exact w_load_elem rfl rfl rfl (by assumption) (by assumption) (by rfl); apply gw_d; exact w_callv rfl rfl rfl (fun w _ => hf w _ _) rfl; refine gO ?_; refine gc_if rfl (fun _ => ?_) (fun _ => ?_); refine gV ?_; (iterate 2 refine gM ?_); refine gO ?_; refine gR ?_; refine gY ?_; (iterate 2 refine gT ?_); refine gY ?_; refine gT ?_; rotate_left; refine gK ?_; refine gH ?_; refine gX ?_; refine gG ?_; refine gA ?_; refine gM ?_; refine gw_nil ?_; rotate_left)
  ·refine gi1 (fun _ _ => ?_)
   rw [idx_found hlt hI ‹_›]
  ·exact gx_round (k + 1) ⟨by omega, any_snoc hlt hI ‹_›⟩ (by omega) kK ⟨rfl, trivial⟩ .nil
 ·(refine gI ?_; (iterate 2 refine gZ ?_); refine gJ ?_; refine gX ?_; refine gV ?_; refine gM ?_; refine gO ?_; refine gR ?_)
  refine gi1 (fun _ _ => ?_)
  rw [List.take_of_length_le (by omega)] at hI
  rw [idx_none hI]

theorem containsFunc_ok (f : Nat) [CCall Tryz.prog f] (hf : ∀ w x y, Ok Tryz.prog f [.agg #[.int .i64 x, .int .i64 y]].toArray w fun r _ => r = .bool (outB x y)) (w : World) (v : Value) (l : List (Int × Int)) (hl : Sl rSpot w w.heap.size v l) :
  Ok Tryz.prog 133 [v, .func (.func f) #[] #[]].toArray w fun r _ => r = .bool (l.any outP) := by
 obtain ⟨A, c, rfl, _⟩ := hl.spot
 refine ok_enter Tryz.func133 rfl Tryz.ntmps133 rfl ?_
 (refine gV ?_; refine gM ?_; refine gN ?_; (iterate 2 refine gM ?_); apply gw_d; exact w_call rfl rfl (fun w s => indexFunc_ok f hf w _ l (hl.later s)) rfl; refine gC ?_; refine gM ?_; refine gO ?_; refine gR ?_)
 refine gb1 (fun _ _ => ?_)
 congr 1
 have := idx_nonneg outP l
 by_cases h : l.any outP = true
 ·rw [h]; simp [this.2 h]
 ·have h2 : ¬ 0 ≤ idxI outP l := fun h' => h (this.1 h')
  simp only [Bool.not_eq_true] at h
  rw [h]; simp; omega

def isP (q : Int × Int) (p : Int × Int) : Bool := decide (q = p)
set_option maxHeartbeats 1000000 in
theorem indexSpot_ok (w : World) (v : Value) (l : List (Int × Int)) (x y : Int) (hl : Sl rSpot w w.heap.size v l) :
  Ok Tryz.prog 156 [v, .agg #[.int .i64 x, .int .i64 y]].toArray w fun r _ => r = .int .i64 (idxI (isP (x, y)) l) := by
 obtain ⟨A, c, rfl, hc, hm, hcell⟩ := hl.spot
 refine ok_enter Tryz.func156 rfl Tryz.ntmps156 rfl ?_
 (refine gV ?_; refine gw_boxd (v := .agg _) rfl rfl (fun _ => ?_); refine gM ?_; refine gO ?_; refine gQ ?_; refine gV ?_; refine gM ?_; refine gL ?_; refine gM ?_; refine gO ?_; refine gB ?_)
 rename_i b
 refine gc_loop (σ := Nat) [9, 10, 5, 11, 12, 13, 14, 15, 16, 17, 4, 18, 8] (fun k => [(8, .int .i64 k)]) (fun _ => [Box b 114 #[.int .i64 x, .int .i64 y]]) (fun k => k ≤ l.length ∧ (l.take k).any (isP (x, y)) = false) (fun k => l.length - k) 0 ⟨Nat.zero_le _, rfl⟩ ⟨rfl, trivial⟩ (.cons .here .nil) ?_
 rintro k base ⟨hk, hI⟩
 (refine gV ?_; refine gC ?_; refine gO ?_; refine gQ ?_)
 refine gc_if_dec rfl (fun h => ?_) (fun h => ?_)
 ·obtain ⟨ad, rfl, hb, hce, hi⟩ := hcell k (by omega)
  have hlt : k < l.length := by omega
  (refine gK ?_; refine gX ?_; refine gQ ?_; refine gB ?_; refine gV ?_; (iterate 2 refine gM ?_); refine gO ?_; refine gQ ?_)
  refine gc_draw 6 (by kernel_rfl) (by kernel_rfl) ?_
  focus (apply gd_d; exact w_load_boxN rfl rfl rfl .here rfl; (iterate 2 refine dM ?_); apply gd_d; exact w_index rfl rfl rfl rfl (by with_reducible exact rfl) (by omega); apply gd_d; exact w_load_elem rfl rfl rfl (by assumption) (by assumption) (by rfl); apply gd_d; exact w_eq2 rfl rfl rfl rfl; refine gd_nil ?_; refine gO ?_; refine gc_if_dec rfl (fun _ => ?_) (fun _ => ?_); refine gV ?_; (iterate 2 refine gM ?_); refine gO ?_; refine gR ?_; refine gY ?_; (iterate 2 refine gT ?_); refine gY ?_; refine gT ?_; rotate_left; refine gK ?_; refine gH ?_; refine gX ?_; refine gG ?_; refine gA ?_; refine gM ?_; refine gw_nil ?_; rotate_left)
  ·refine gi1 (fun _ _ => ?_)
   rw [idx_found hlt hI (by simpa [isP] using ‹(x, y) = _›)]
  ·exact gx_round (k + 1) ⟨by omega, any_snoc hlt hI (by simpa [isP] using ‹¬ (x, y) = _›)⟩ (by omega) kK ⟨rfl, trivial⟩ (.cons .here .nil)
 ·(refine gI ?_; (iterate 2 refine gZ ?_); refine gJ ?_; refine gX ?_; refine gV ?_; refine gM ?_; refine gO ?_; refine gR ?_)
  refine gi1 (fun _ _ => ?_)
  rw [List.take_of_length_le (by omega)] at hI
  rw [idx_none hI]
def gS (l : List (Int × Int)) (k : Nat) : Int × Int := l.getD k (0, 0)
theorem gS_get {l : List (Int × Int)} {k : Nat} (hk : k < l.length) : gS l k = l[k] := by
 unfold gS
 simp [hk]
theorem Sl.spot' {w : World} {B : Nat} {v : Value} {l : List (Int × Int)} (h : Sl rSpot w B v l) (hl : 0 < l.length) : ∃ ad c, v = .slice (some ad) l.length c ∧ l.length ≤ c ∧ l.length ≤ 9223372036854775807 ∧ ad.block < B ∧
  ∀ k (_ : k < l.length), ∀ j u, [Value.int .i64 (gS l k).1, Value.int .i64 (gS l k).2][j]? = some u → w.cell? (ad.add (k * 2 + j)) = some u := by
 obtain ⟨A, c, rfl, h1, h2, h3⟩ := h.spot
 obtain ⟨ad, rfl, hb, _⟩ := h3 0 hl
 refine ⟨ad, c, rfl, h1, h2, hb, fun k hk => ?_⟩
 obtain ⟨ad', he, _, hc, _⟩ := h3 k hk
 injection he with he
 subst he
 rw [gS_get hk]
 exact hc

theorem containsSpot_ok (w : World) (v : Value) (l : List (Int × Int)) (x y : Int) (hl : Sl rSpot w w.heap.size v l) :
  Ok Tryz.prog 146 [v, .agg #[.int .i64 x, .int .i64 y]].toArray w fun r _ => r = .bool (l.any (isP (x, y))) := by
 obtain ⟨A, c, rfl, _⟩ := hl.spot
 refine ok_enter Tryz.func146 rfl Tryz.ntmps146 rfl ?_
 (refine gV ?_; refine gw_boxd (v := .agg _) rfl rfl (fun _ => ?_); refine gM ?_; refine gN ?_; refine gM ?_; apply gw_d; exact w_load_boxN rfl rfl rfl .here rfl; apply gw_d; exact w_call rfl rfl (fun w s => indexSpot_ok w _ l _ _ (hl.later s)) rfl; refine gC ?_; refine gM ?_; refine gO ?_; refine gR ?_)
 refine gb1 (fun _ _ => ?_)
 congr 1
 have := idx_nonneg (isP (x, y)) l
 by_cases h : l.any (isP (x, y)) = true
 ·rw [h]; simp [this.2 h]
 ·have h2 : ¬ 0 ≤ idxI (isP (x, y)) l := fun h' => h (this.1 h')
  simp only [Bool.not_eq_true] at h
  rw [h]; simp; omega

def stillB (l : List (Int × Int)) (n : Nat) : Bool := (List.range n).any fun i => decide (gS l i = gS l (i + 1))
def plineE (l : List (Int × Int)) : Int := if 40 < l.length then 5 else if l.length < 2 then 11 else if l.any outP = true then 3 else if stillB l (l.length - 1) = true then 11 else 0
theorem still_snoc {l : List (Int × Int)} {k : Nat} (h : stillB l k = false) (hp : ¬ gS l k = gS l (k + 1)) : stillB l (k + 1) = false := by
 unfold stillB at *
 rw [List.range_succ, List.any_append, h]
 simp [hp]
theorem still_yes {l : List (Int × Int)} {k n : Nat} (hk : k < n) (hp : gS l k = gS l (k + 1)) : stillB l n = true := by
 unfold stillB
 rw [List.any_eq_true]
 exact ⟨k, List.mem_range.2 hk, by simp [hp]⟩
theorem len_small {α : Type} {R : Rp α} {w : World} {B : Nat} {v : Value} {l : List α} (h : Sl R w B v l) : ∃ A c, v = .slice A l.length c ∧ l.length ≤ c ∧ l.length ≤ 9223372036854775807 := by
 obtain ⟨A, c, hv, h1, h2, _⟩ := h
 exact ⟨A, c, hv, h1, by unfold maxLen at h2; omega⟩

set_option maxHeartbeats 1000000 in
theorem polyline_ok (w : World) (v : Value) (l : List (Int × Int)) (hl : Sl rSpot w w.heap.size v l) : Ok Tryz.prog 113 [v].toArray w fun r _ => r = .int .i64 (plineE l) := by
 by_cases hlen : 2 ≤ l.length
 ·obtain ⟨ad, c, rfl, hc, hm, hb, hcell⟩ := hl.spot' (by omega)
  refine ok_enter Tryz.func113 rfl Tryz.ntmps113 rfl ?_
  focus (refine gV ?_; refine gM ?_; refine gO ?_; refine gQ ?_; refine gV ?_; refine gM ?_; refine gL ?_; refine gC ?_; refine gO ?_; refine gc_if_dec rfl (fun _ => ?_) (fun _ => ?_); refine gV ?_; refine gM ?_; refine gO ?_; refine gR ?_; refine gT ?_; rotate_left; refine gK ?_; refine gX ?_; refine gQ ?_; refine gV ?_; refine gM ?_; refine gL ?_; refine gC ?_; refine gO ?_; refine gc_if_dec rfl (fun _ => ?_) (fun _ => ?_); refine gV ?_; refine gM ?_; refine gO ?_; refine gR ?_; refine gT ?_; rotate_left; refine gK ?_; refine gX ?_; refine gQ ?_; refine gV ?_; refine gM ?_; apply gw_d; exact w_call rfl rfl (fun w s => containsFunc_ok 134 pl_outside_ok w _ l (hl.later s)) rfl; refine gO ?_; refine gc_if rfl (fun _ => ?_) (fun _ => ?_); refine gV ?_; refine gM ?_; refine gO ?_; refine gR ?_; refine gT ?_; rotate_left; refine gK ?_; refine gX ?_; refine gQ ?_; refine gV ?_; refine gM ?_; refine gL ?_; refine gA ?_; refine gM ?_; refine gO ?_; refine gB ?_; rotate_left)
  ·refine gi1 (fun _ _ => ?_)
   have : 40 < l.length := by omega
   simp [plineE, this]
  ·omega
  ·refine gi1 (fun _ _ => ?_)
   have h1 : ¬ 40 < l.length := by omega
   have h2 : ¬ l.length < 2 := by omega
   simp only [plineE, h1, h2, if_false]
   rw [if_pos ‹_›]
  ·refine gc_loop (σ := Nat) [16, 17, 3, 18, 19, 20, 21, 22, 23, 24, 25, 26, 27, 2, 28, 15] (fun k => [(15, .int .i64 k)]) (fun _ => []) (fun k => k ≤ l.length - 1 ∧ stillB l k = false) (fun k => l.length - k) 0 ⟨Nat.zero_le _, rfl⟩ ⟨rfl, trivial⟩ .nil ?_
   rintro k base ⟨hk, hI⟩
   (refine gV ?_; refine gC ?_; refine gO ?_; refine gQ ?_)
   refine gc_if_dec rfl (fun h => ?_) (fun h => ?_)
   ·have hce0 := hcell k (by omega)
    have hce1 := hcell (k + 1) (by omega)
    (refine gK ?_; refine gX ?_; refine gQ ?_; refine gB ?_; refine gV ?_; (iterate 2 refine gM ?_); refine gO ?_; refine gQ ?_)
    refine gc_draw 10 (by kernel_rfl) (by kernel_rfl) ?_
    focus ((iterate 2 refine dM ?_); apply gd_d; exact w_index rfl rfl rfl rfl (by with_reducible exact rfl) (by omega); apply gd_d; exact w_load_elem rfl rfl rfl (by assumption) (by assumption) (by rfl); (iterate 2 refine dM ?_); apply gd_d; exact det_ar rfl rfl rfl rfl rfl (by omega); apply gd_d; exact w_index rfl rfl rfl rfl (by with_reducible exact castA _) (by omega); apply gd_d; exact w_load_elem rfl rfl rfl (by assumption) (by assumption) (by rfl); apply gd_d; exact w_eq2 rfl rfl rfl rfl; refine gd_nil ?_; refine gO ?_; refine gc_if_dec rfl (fun _ => ?_) (fun _ => ?_); refine gV ?_; refine gM ?_; refine gO ?_; refine gR ?_; refine gY ?_; (iterate 2 refine gT ?_); refine gY ?_; refine gT ?_; rotate_left; refine gK ?_; refine gH ?_; refine gX ?_; refine gG ?_; refine gA ?_; refine gM ?_; refine gw_nil ?_; rotate_left)
    ·refine gi1 (fun _ _ => ?_)
     have h1 : ¬ 40 < l.length := by omega
     have h2 : ¬ l.length < 2 := by omega
     simp only [plineE, h1, h2, if_false]
     rw [if_neg (by simpa using ‹l.any outP = false›), if_pos (still_yes (k := k) (by omega) ‹_›)]
    ·exact gx_round (k + 1) ⟨by omega, still_snoc hI ‹_›⟩ (by omega) kK ⟨rfl, trivial⟩ .nil
   ·(refine gI ?_; (iterate 2 refine gZ ?_); refine gJ ?_; refine gX ?_; refine gV ?_; refine gM ?_; refine gO ?_; refine gR ?_)
    refine gi1 (fun _ _ => ?_)
    have h1 : ¬ 40 < l.length := by omega
    have h2 : ¬ l.length < 2 := by omega
    obtain rfl : k = l.length - 1 := by omega
    simp only [plineE, h1, h2, if_false]
    rw [if_neg (by simpa using ‹l.any outP = false›), if_neg (by simpa using hI)]
 ·obtain ⟨A, c, rfl, hc, hm⟩ := len_small hl
  refine ok_enter Tryz.func113 rfl Tryz.ntmps113 rfl ?_
  (refine gV ?_; refine gM ?_; refine gO ?_; refine gQ ?_; refine gV ?_; refine gM ?_; refine gL ?_; refine gC ?_; refine gO ?_)
  refine gc_if_dec rfl (fun h => by omega) (fun h => ?_)
  (refine gK ?_; refine gX ?_; refine gQ ?_; refine gV ?_; refine gM ?_; refine gL ?_; refine gC ?_; refine gO ?_)
  refine gc_if_dec rfl (fun h => ?_) (fun h => by omega)
  (refine gV ?_; refine gM ?_; refine gO ?_; refine gR ?_; refine gT ?_)
  refine gi1 (fun _ _ => ?_)
  have h1 : ¬ 40 < l.length := by omega
  have h2 : l.length < 2 := by omega
  simp [plineE, h1, h2]
section
variable {P : Program} {ops : Array Oper} {N : Nat} {w0 : World} {L : List Res} {e : Env} {o : Oper} {t : TypeId} {x y : Operand}
theorem det_shl {k k' : IntKind} {i j r : Int} {yt : TypeId} (hop : o.op = .binOp .shl t x y yt) (hw : wantedE N ops e o = true) (hx : ev N e x = .int k i) (hy : ev N e y = .int k' j) (hj : 0 ≤ j) (hr : k.wrap (i * 2 ^ (min j.toNat k.bits)) = r) : Det P ops N w0 L o e (.int k r) :=
 det_pure hw fun w => by
  have : ¬ j < 0 := by omega
  unfold execOp
  simp [hop, hx, hy, binOp, Op.shift, this, hr, eqGuard]
end
theorem two_pow_cast (k : Nat) : (2 : Int) ^ k = ((2 ^ k : Nat) : Int) := by
 rw [Int.natCast_pow]
 rfl
theorem isq_small {n : Nat} (h : n < 2) : isq n = n := by
 obtain rfl | rfl : n = 0 ∨ n = 1 := by omega
 ·rfl
 ·rfl
/-- The first x is above the root. -/
theorem first_x {n : Nat} (h : n < 18446744073709551616) : isq n ≤ 2 ^ ((l64 n + 1) / 2) ∧ (l64 n + 1) / 2 ≤ 32 := by
 obtain ⟨h1, h2⟩ := l64_lt h
 refine ⟨isq_le ?_, by omega⟩
 have h3 : 2 ^ l64 n ≤ 2 ^ ((l64 n + 1) / 2) * 2 ^ ((l64 n + 1) / 2) := by
  rw [← Nat.pow_add]
  exact Nat.pow_le_pow_right (by decide) (by omega)
 have h4 : 2 ^ ((l64 n + 1) / 2) * 2 ^ ((l64 n + 1) / 2) ≤ (2 ^ ((l64 n + 1) / 2) + 1) * (2 ^ ((l64 n + 1) / 2) + 1) := Nat.mul_le_mul (by omega) (by omega)
 omega
theorem root_ok (w : World) (n : Nat) (hn : n ≤ 9223372036854775807) : Ok Tryz.prog 149 [.int .i64 (n : Int)].toArray w fun r _ => r = .int .i64 (isq n : Int) := by
 obtain ⟨f1, f2⟩ := first_x (n := n) (by omega)
 have hl := (l64_lt (z := n) (by omega)).2
 have hp32 : 2 ^ ((l64 n + 1) / 2) ≤ 2 ^ 32 := Nat.pow_le_pow_right (by decide) f2
 have hp0 : 0 < 2 ^ ((l64 n + 1) / 2) := Nat.two_pow_pos _
 have hshl : IntKind.i64.wrap (1 * 2 ^ (min (((l64 n : Int) + 1) / 2).toNat IntKind.i64.bits)) = ((2 ^ ((l64 n + 1) / 2) : Nat) : Int) := by
  have e1 : (((l64 n : Int) + 1) / 2).toNat = (l64 n + 1) / 2 := by omega
  have e2 : IntKind.i64.bits = 64 := rfl
  rw [e1, e2, Nat.min_eq_left (by omega), Int.one_mul, two_pow_cast, IntKind.wrap_i64]
  have : (2 : Nat) ^ 32 = 4294967296 := rfl
  omega
 have hw64 : IntKind.u64.wrap (n : Int) = (n : Int) := by
  have : IntKind.u64.wrap (n : Int) = (n : Int) % 18446744073709551616 := rfl
  rw [this]
  omega
 refine ok_enter Tryz.func149 rfl Tryz.ntmps149 rfl ?_
 (refine gV ?_; refine gM ?_; refine gO ?_; refine gQ ?_; refine gV ?_; refine gM ?_; refine gC ?_; refine gO ?_)
 refine gc_if_dec rfl (fun h => ?_) (fun h => ?_)
 ·(refine gV ?_; (iterate 2 refine gM ?_); refine gO ?_; refine gR ?_; refine gT ?_)
  refine gi1 (fun _ _ => ?_)
  rw [isq_small (by omega)]
 (refine gK ?_; refine gX ?_; refine gV ?_; refine gM ?_; apply gw_d; exact det_conv rfl rfl rfl hw64; apply gw_d; exact w_call rfl rfl (fun w _ => len_ok w n (by omega)) rfl; refine gA ?_; apply gw_d; exact det_quo rfl rfl rfl rfl (by omega) (by omega) (by omega); apply gw_d; exact det_shl rfl rfl rfl rfl (by omega) hshl; refine gM ?_; refine gO ?_; refine gB ?_)
 refine gc_loopK (σ := Nat) [14, 15, 16, 17, 18, 19, 4, 20, 21, 22, 23, 2, 24, 3] (fun x => [(3, .int .i64 (x : Int))]) (fun x => isq n ≤ x ∧ 0 < x ∧ x ≤ 4294967296) (fun x => x) (2 ^ ((l64 n + 1) / 2)) ⟨f1, hp0, hp32⟩ ⟨rfl, trivial⟩ ?_
 rintro x base ⟨hx1, hx2, hx3⟩
 obtain ⟨s1, s2⟩ := nt_step hx2 hx1
 have hdiv : (n : Int) / (x : Int) = ((n / x : Nat) : Int) := rfl
 have hq : n / x ≤ x + 2 := by
  have h1 := (isq_spec n).2
  have h2 : (isq n + 1) * (isq n + 1) ≤ (x + 1) * (x + 1) := Nat.mul_le_mul (by omega) (by omega)
  have h3 : (x + 1) * (x + 1) = x * (x + 2) + 1 := by
   simp only [Nat.add_mul, Nat.mul_add]
   omega
  exact Nat.div_le_of_le_mul (by omega)
 have hi1 : 1 ≤ isq n := le_isq (by omega)
 have hqi : (n : Int) / (x : Int) ≤ x + 2 ∧ 0 ≤ (n : Int) / (x : Int) := by
  rw [hdiv]
  exact ⟨Int.ofNat_le.2 hq, Int.natCast_nonneg _⟩
 have hy : ((x : Int) + (n : Int) / (x : Int)) / 2 = (((x + n / x) / 2 : Nat) : Int) := by
  rw [hdiv]
  omega
 (refine gB ?_; refine gV ?_; (iterate 3 refine gM ?_); apply gw_d; exact det_quo rfl rfl rfl rfl (by omega) (by omega) (by omega); refine gA ?_; apply gw_d; exact det_quo rfl rfl rfl rfl (by omega) (by omega) (by omega); refine gM ?_; refine gO ?_; refine gQ ?_; refine gV ?_; (iterate 2 refine gM ?_); refine gC ?_; refine gO ?_)
 refine gc_if_dec rfl (fun h2 => ?_) (fun h2 => ?_)
 ·(refine gV ?_; (iterate 2 refine gM ?_); refine gO ?_; refine gR ?_; refine gT ?_; refine gY ?_; refine gT ?_; refine gY ?_)
  refine gi1 (fun _ _ => ?_)
  rw [hy] at h2
  have := s2 (by omega)
  rw [← this]
 ·rw [hy] at h2 ⊢
  (refine gK ?_; refine gX ?_; refine gG ?_; (iterate 2 refine gM ?_); refine gw_nil ?_; refine gH ?_)
  exact gx_round ((x + n / x) / 2) ⟨s1, by omega, by omega⟩ (by omega) kK ⟨rfl, trivial⟩ (Sub.all _)
def segN (p q : Int × Int) : Nat := (1000000 * ((q.1 - p.1) * (q.1 - p.1) + (q.2 - p.2) * (q.2 - p.2))).toNat
def segL (p q : Int × Int) : Int := (isq (segN p q) : Int)
theorem sq_range {d : Int} (h : -2097152 ≤ d ∧ d ≤ 2097152) : 0 ≤ d * d ∧ d * d ≤ 4398046511104 := by
 rcases Int.le_total 0 d with h1 | h1
 ·have a := Int.mul_nonneg h1 h1
  have b : d * d ≤ 2097152 * 2097152 := Int.mul_le_mul h.2 h.2 h1 (by decide)
  omega
 ·have e : d * d = (-d) * (-d) := by rw [Int.neg_mul_neg]
  have h2 : 0 ≤ -d := by omega
  have a := Int.mul_nonneg h2 h2
  have b : (-d) * (-d) ≤ 2097152 * 2097152 := Int.mul_le_mul (by omega) (by omega) h2 (by decide)
  omega
def nearP (p : Int × Int) : Prop := (-1048576 ≤ p.1 ∧ p.1 ≤ 1048576) ∧ (-1048576 ≤ p.2 ∧ p.2 ≤ 1048576)
theorem segment_ok (w : World) (p q : Int × Int) (hp : nearP p) (hq : nearP q) : Ok Tryz.prog 137 [.agg #[.int .i64 p.1, .int .i64 p.2], .agg #[.int .i64 q.1, .int .i64 q.2]].toArray w fun r _ => r = .int .i64 (segL p q) := by
 obtain ⟨p1, p2⟩ := hp
 obtain ⟨q1, q2⟩ := hq
 have s1 := sq_range (d := q.1 - p.1) (by omega)
 have s2 := sq_range (d := q.2 - p.2) (by omega)
 have hv : ((segN p q : Nat) : Int) = 1000000 * ((q.1 - p.1) * (q.1 - p.1) + (q.2 - p.2) * (q.2 - p.2)) := by
  unfold segN
  omega
 have hR : ∀ (L : List Res) (w' : World), St w L w' → Ok Tryz.prog 149 [.int .i64 (1000000 * ((q.1 - p.1) * (q.1 - p.1) + (q.2 - p.2) * (q.2 - p.2)))].toArray w' fun r _ => r = .int .i64 (segL p q) := fun L w' _ => by
  have := root_ok w' (segN p q) (by omega)
  rw [hv] at this
  exact this
 refine ok_enter Tryz.func137 rfl Tryz.ntmps137 rfl ?_
 (refine gV ?_; refine gw_boxd (v := .agg _) rfl rfl (fun _ => ?_); refine gw_boxd (v := .agg _) rfl rfl (fun _ => ?_); refine gM ?_; refine gO ?_; refine gQ ?_)
 refine gc_draw2 11 (by kernel_rfl) (by kernel_rfl) ?_
 (apply gd_d; exact w_field rfl rfl rfl; apply gd_d; exact w_load_box rfl rfl rfl .here rfl; apply gd_d; exact w_field rfl rfl rfl; apply gd_d; exact w_load_box rfl rfl rfl (.there .here) rfl; apply gd_d; exact det_ar rfl rfl rfl rfl rfl (by omega); apply gd_d; exact w_field rfl rfl rfl; apply gd_d; exact w_load_box rfl rfl rfl .here rfl; apply gd_d; exact w_field rfl rfl rfl; apply gd_d; exact w_load_box rfl rfl rfl (.there .here) rfl; apply gd_d; exact det_ar rfl rfl rfl rfl rfl (by omega); refine dM ?_; refine gd_nil ?_; refine gM ?_; refine gN ?_; (iterate 2 refine gM ?_); refine gA ?_; (iterate 2 refine gM ?_); refine gA ?_; refine gA ?_; refine gA ?_; apply gw_d; exact w_call rfl rfl (hR _) rfl; refine gM ?_; refine gO ?_; refine gR ?_)
 refine gi1 (fun _ _ => ?_)
 rfl
theorem segN_range {p q : Int × Int} (hp : nearP p) (hq : nearP q) : segN p q ≤ 8796093022208000000 ∧ ((segN p q : Nat) : Int) = 1000000 * ((q.1 - p.1) * (q.1 - p.1) + (q.2 - p.2) * (q.2 - p.2)) := by
 obtain ⟨p1, p2⟩ := hp
 obtain ⟨q1, q2⟩ := hq
 have s1 := sq_range (d := q.1 - p.1) (by omega)
 have s2 := sq_range (d := q.2 - p.2) (by omega)
 unfold segN
 omega
theorem segL_range {p q : Int × Int} (hp : nearP p) (hq : nearP q) : 0 ≤ segL p q ∧ segL p q ≤ 4294967296 := by
 have h := (segN_range hp hq).1
 refine ⟨Int.natCast_nonneg _, ?_⟩
 have : isq (segN p q) ≤ 4294967296 := isq_le (by omega)
 unfold segL
 omega
theorem sq_pos {d : Int} (h : ¬ d = 0) : 1 ≤ d * d := by
 rcases Int.lt_or_gt_of_ne h with h1 | h1
 ·have := Int.mul_pos_of_neg_of_neg h1 h1
  omega
 ·have := Int.mul_pos h1 h1
  omega
theorem segL_pos {p q : Int × Int} (hp : nearP p) (hq : nearP q) (hne : ¬ p = q) : 1 ≤ segL p q := by
 have h := (segN_range hp hq).2
 have hd : ¬ (q.1 - p.1 = 0) ∨ ¬ (q.2 - p.2 = 0) := by
  by_cases h1 : q.1 - p.1 = 0
  ·right
   intro h2
   exact hne (Prod.ext (by omega) (by omega))
  ·exact .inl h1
 have s1 : 0 ≤ (q.1 - p.1) * (q.1 - p.1) := (sq_range (d := q.1 - p.1) (by obtain ⟨a, b⟩ := hp; obtain ⟨c, d⟩ := hq; omega)).1
 have s2 : 0 ≤ (q.2 - p.2) * (q.2 - p.2) := (sq_range (d := q.2 - p.2) (by obtain ⟨a, b⟩ := hp; obtain ⟨c, d⟩ := hq; omega)).1
 have h3 : 1 ≤ segN p q := by
  rcases hd with h1 | h1
  ·have := sq_pos h1
   omega
  ·have := sq_pos h1
   omega
 have : 1 ≤ isq (segN p q) := le_isq (by omega)
 unfold segL
 omega
def lenS (l : List (Int × Int)) : Nat → Int
 | 0 => 0
 | k + 1 => lenS l k + segL (gS l k) (gS l (k + 1))
def lenL (l : List (Int × Int)) : Int := lenS l (l.length - 1)
structure Line (l : List (Int × Int)) : Prop where
 two : 2 ≤ l.length
 le : l.length ≤ 40
 near : ∀ k, k < l.length → nearP (gS l k)
 moves : ∀ k, k + 1 < l.length → ¬ gS l k = gS l (k + 1)
theorem line_good {l : List (Int × Int)} (h : plineE l = 0) : Line l := by
 unfold plineE at h
 split at h
 ·cases h
 rename_i h1
 split at h
 ·cases h
 rename_i h2
 split at h
 ·cases h
 rename_i h3
 split at h
 ·cases h
 rename_i h4
 refine ⟨by omega, by omega, fun k hk => ?_, fun k hk hc => ?_⟩
 ·have h5 : l.any outP = false := by simpa using h3
  have h6 := List.any_eq_false.1 h5 l[k] (List.getElem_mem hk)
  rw [gS_get hk]
  unfold nearP
  simp [outP, outB] at h6
  omega
 ·exact h4 (still_yes (by omega) hc)
theorem lenS_range {l : List (Int × Int)} (h : Line l) : ∀ k, k < l.length → 0 ≤ lenS l k ∧ lenS l k ≤ 4294967296 * k
 | 0, _ => ⟨Int.le_refl _, Int.le_refl _⟩
 | k + 1, hk => by
  have h1 := lenS_range h k (by omega)
  have h2 := segL_range (h.near k (by omega)) (h.near (k + 1) hk)
  show 0 ≤ lenS l k + segL (gS l k) (gS l (k + 1)) ∧ lenS l k + segL (gS l k) (gS l (k + 1)) ≤ _
  omega
theorem lenL_range {l : List (Int × Int)} (h : Line l) : 1 ≤ lenL l ∧ lenL l ≤ 1099511627776 := by
 have h2 := h.two
 have h3 := h.le
 obtain ⟨m, hm⟩ : ∃ m, l.length - 1 = m + 1 := ⟨l.length - 2, by omega⟩
 unfold lenL
 rw [hm]
 have h1 := lenS_range h m (by omega)
 have h5 := segL_range (h.near m (by omega)) (h.near (m + 1) (by omega))
 have h6 := segL_pos (h.near m (by omega)) (h.near (m + 1) (by omega)) (h.moves m (by omega))
 show 1 ≤ lenS l m + segL (gS l m) (gS l (m + 1)) ∧ lenS l m + segL (gS l m) (gS l (m + 1)) ≤ _
 omega
theorem length_ok (w : World) (v : Value) (l : List (Int × Int)) (hl : Sl rSpot w w.heap.size v l) (hp : plineE l = 0) : Ok Tryz.prog 117 [v].toArray w fun r _ => r = .tuple #[.int .i64 (lenL l), .int .i64 0] := by
 have hG := line_good hp
 have h2 := hG.two
 have h40 := hG.le
 have hC : ∀ (L : List Res) (w' : World), St w L w' → Ok Tryz.prog 113 [v].toArray w' fun r _ => r = .int .i64 0 := fun L w' s => by
  have := polyline_ok w' v l (hl.later s)
  rw [hp] at this
  exact this
 obtain ⟨ad, c, rfl, hc, hm, hb, hcell⟩ := hl.spot' (by omega)
 refine ok_enter Tryz.func117 rfl Tryz.ntmps117 rfl ?_
 (refine gV ?_; (iterate 2 refine gM ?_); refine gO ?_; refine gQ ?_; refine gV ?_; refine gM ?_; apply gw_d; exact w_call rfl rfl (hC _) rfl; refine gM ?_; refine gN ?_; refine gM ?_; refine gC ?_; refine gO ?_)
 refine gc_if_dec rfl (fun h => absurd rfl h) (fun _ => ?_)
 (refine gK ?_; refine gX ?_; refine gV ?_; refine gM ?_; refine gO ?_; refine gQ ?_; refine gV ?_; refine gM ?_; refine gL ?_; refine gA ?_; refine gM ?_; refine gO ?_; refine gB ?_)
 refine gc_loopK (σ := Nat) [16, 17, 6, 18, 19, 20, 21, 22, 23, 24, 25, 26, 27, 28, 29, 5, 30, 15] (fun k => [(15, .int .i64 k), (5, .int .i64 (lenS l k))]) (fun k => k ≤ l.length - 1) (fun k => l.length - k) 0 (Nat.zero_le _) ⟨rfl, rfl, trivial⟩ ?_
 rintro k base hk
 (refine gV ?_; refine gC ?_; refine gO ?_; refine gQ ?_)
 refine gc_if_dec rfl (fun h => ?_) (fun h => ?_)
 ·have hk1 : k + 1 < l.length := by omega
  have hr := lenS_range hG k (by omega)
  have hsr := segL_range (hG.near k (by omega)) (hG.near (k + 1) hk1)
  have hc0 := hcell k (by omega)
  have hc1 := hcell (k + 1) hk1
  have hsg : ∀ (L : List Res) (w' : World), St w L w' → Ok Tryz.prog 137 [.agg #[.int .i64 (gS l k).1, .int .i64 (gS l k).2], .agg #[.int .i64 (gS l (k + 1)).1, .int .i64 (gS l (k + 1)).2]].toArray w' fun r _ => r = .int .i64 (segL (gS l k) (gS l (k + 1))) := fun L w' _ => segment_ok w' _ _ (hG.near k (by omega)) (hG.near (k + 1) hk1)
  (refine gK ?_; refine gX ?_; refine gQ ?_; refine gB ?_; refine gV ?_; (iterate 2 refine gM ?_); refine gO ?_)
  refine gc_draw 12 (by kernel_rfl) (by kernel_rfl) ?_
  ((iterate 3 refine dM ?_); apply gd_d; exact w_index rfl rfl rfl rfl (by with_reducible exact rfl) (by omega); apply gd_d; exact w_load_elem rfl rfl rfl (by assumption) (by assumption) (by rfl); (iterate 2 refine dM ?_); apply gd_d; exact det_ar rfl rfl rfl rfl rfl (by omega); apply gd_d; exact w_index rfl rfl rfl rfl (by with_reducible exact castA _) (by omega); apply gd_d; exact w_load_elem rfl rfl rfl (by assumption) (by assumption) (by rfl); apply gd_d; exact w_call rfl rfl (hsg _) rfl; apply gd_d; exact det_ar rfl rfl rfl rfl rfl (by omega); refine gd_nil ?_; refine gM ?_; refine gw_nil ?_; refine gH ?_; refine gX ?_; refine gG ?_; refine gA ?_; refine gM ?_; refine gw_nil ?_)
  exact gx_round (k + 1) (by omega) (by omega) kK ⟨rfl, rfl, trivial⟩ (Sub.all _)
 ·obtain rfl : k = l.length - 1 := by omega
  (refine gI ?_; (iterate 2 refine gZ ?_); refine gJ ?_; refine gX ?_; refine gV ?_; (iterate 3 refine gM ?_); refine gO ?_; refine gR ?_)
  refine gx_ret2 (u := .int _ _) (v := .int _ _) rfl rfl rfl (fun _ _ => ?_)
  rfl
def dupB (l : List (Int × Int)) (n : Nat) : Bool := (List.range n).any fun i => (l.take i).any (isP ((gS l i).1, (gS l i).2))
def foldAt (l : List (Int × Int)) (i : Nat) : Bool :=
 foldB (gS l i).1 (gS l i).2 (gS l ((i + 1) % l.length)).1 (gS l ((i + 1) % l.length)).2 (gS l ((i + 2) % l.length)).1 (gS l ((i + 2) % l.length)).2
def meetAt (l : List (Int × Int)) (i k : Nat) : Bool :=
 meetB (gS l i).1 (gS l i).2 (gS l ((i + 1) % l.length)).1 (gS l ((i + 1) % l.length)).2 (gS l k).1 (gS l k).2 (gS l ((k + 1) % l.length)).1 (gS l ((k + 1) % l.length)).2
def meetsB (l : List (Int × Int)) (i n : Nat) : Bool := (List.range n).any fun k => decide (i + 2 ≤ k) && decide ((k + 1) % l.length ≠ i) && meetAt l i k
def badB (l : List (Int × Int)) (n : Nat) : Bool := (List.range n).any fun i => foldAt l i || meetsB l i l.length
def simpleB (l : List (Int × Int)) : Bool := !dupB l l.length && !badB l l.length

theorem range_any_no {n k : Nat} {p : Nat → Bool} (hk : k < n) (h : p k = true) : (List.range n).any p = true := by
 rw [List.any_eq_true]
 exact ⟨k, List.mem_range.2 hk, h⟩
theorem range_any_snoc {k : Nat} {p : Nat → Bool} (h : (List.range k).any p = false) (hp : p k = false) : (List.range (k + 1)).any p = false := by
 rw [List.range_succ, List.any_append, h]
 simp [hp]

theorem mod_last {n i k : Nat} (hk : k < n) (hi : i + 2 ≤ k) (h : (k + 1) % n = i) : k + 1 = n := by
 rcases Nat.lt_or_ge (k + 1) n with h1 | h1
 ·rw [Nat.mod_eq_of_lt h1] at h; omega
 ·omega
theorem meets_end {l : List (Int × Int)} {i k : Nat} (h : meetsB l i k = false) (hk : ¬ (k < l.length ∧ (k + 1) % l.length ≠ i)) (hi : i + 2 ≤ k) (hkn : k ≤ max l.length (i + 2)) : meetsB l i l.length = false := by
 unfold meetsB at *
 rw [List.any_eq_false] at *
 intro m hm
 rw [List.mem_range] at hm
 by_cases hmk : m < k
 ·exact h m (List.mem_range.2 hmk)
 ·by_cases hmi : i + 2 ≤ m
  ·have hlt : k < l.length := by omega
   have h2 : (k + 1) % l.length = i := by
    rcases Classical.em ((k + 1) % l.length = i) with h3 | h3
    ·exact h3
    ·exact absurd ⟨hlt, h3⟩ hk
   have := mod_last hlt hi h2
   have : m = k := by omega
   subst this
   simp [h2]
  ·simp [hmi]

theorem meets_start (l : List (Int × Int)) (i : Nat) : meetsB l i (i + 2) = false := by
 unfold meetsB
 rw [List.any_eq_false]
 intro m hm
 rw [List.mem_range] at hm
 have : ¬ i + 2 ≤ m := by omega
 simp [this]

theorem bd_of {l : List (Int × Int)} (h : l.any outP = false) {k : Nat} (hk : k < l.length) : Bd (gS l k).1 ∧ Bd (gS l k).2 := by
 have := List.any_eq_false.1 h l[k] (List.getElem_mem hk)
 rw [gS_get hk]
 unfold outP outB at this
 unfold Bd
 simp only [Bool.or_eq_true, decide_eq_true_eq, not_or] at this
 omega

set_option maxHeartbeats 2000000 in
theorem simple_ok (w : World) (v : Value) (l : List (Int × Int)) (hl : Sl rSpot w w.heap.size v l) (hlen : 3 ≤ l.length) (h40 : l.length ≤ 40) (hout : l.any outP = false) : Ok Tryz.prog 136 [v].toArray w fun r _ => r = .bool (simpleB l) := by
 obtain ⟨ad, c, rfl, hc, hm, hb, hcell⟩ := hl.spot' (by omega)
 refine ok_enter Tryz.func136 rfl Tryz.ntmps136 rfl ?_
 (refine gV ?_; refine gM ?_; refine gN ?_; refine gM ?_; refine gL ?_; refine gM ?_; refine gO ?_; refine gQ ?_; refine gV ?_; refine gM ?_; refine gL ?_; refine gM ?_; refine gO ?_; refine gB ?_)
 refine gc_loop (σ := Nat) [15, 16, 17, 18, 5, 4, 19, 20, 21, 22, 23, 2, 24, 14] (fun k => [(14, .int .i64 k)]) (fun _ => []) (fun k => k ≤ l.length ∧ dupB l k = false) (fun k => l.length - k) 0 ⟨Nat.zero_le _, rfl⟩ ⟨rfl, trivial⟩ .nil ?_
 rintro k base ⟨hk, hI⟩
 (refine gV ?_; refine gC ?_; refine gO ?_; refine gQ ?_)
 refine gc_if_dec rfl (fun h => ?_) (fun h => ?_)
 ·have hlt : k < l.length := by omega
  have hce0 := hcell k hlt
  (refine gK ?_; refine gX ?_; refine gQ ?_; refine gB ?_; refine gV ?_; refine gM ?_; apply gw_d; exact w_index rfl rfl rfl rfl (by with_reducible exact rfl) (by omega); apply gw_d; exact w_load_elem rfl rfl rfl (by assumption) (by assumption) (by rfl); refine w_alloc rfl (fun _ => ?_); refine gM ?_; refine w_store_all rfl rfl rfl rfl rfl .here rfl ?_; refine gO ?_; refine gQ ?_)
  refine gc_draw 5 (by kernel_rfl) (by kernel_rfl) ?_
  focus ((iterate 2 refine dM ?_); apply gd_d; exact w_cut_hi rfl rfl rfl rfl (by with_reducible exact rfl) (by omega); apply gd_d; exact w_load_boxN rfl rfl rfl .here rfl; apply gd_d; exact w_call rfl rfl (fun w s => containsSpot_ok w _ (l.take k) _ _ ((hl.take (m := k) (by omega)).later s)) rfl; refine gd_nil ?_; refine gO ?_; refine gc_if rfl (fun _ => ?_) (fun _ => ?_); refine gV ?_; refine gM ?_; refine gO ?_; refine gR ?_; refine gY ?_; (iterate 2 refine gT ?_); refine gY ?_; refine gT ?_; rotate_left; refine gK ?_; refine gH ?_; refine gX ?_; refine gG ?_; refine gA ?_; refine gM ?_; refine gw_nil ?_; rotate_left)
  ·refine gb1 (fun _ _ => ?_)
   have : dupB l l.length = true := range_any_no hlt ‹_›
   simp [simpleB, this]
  ·exact gx_round (k + 1) ⟨by omega, range_any_snoc hI ‹_›⟩ (by omega) kK ⟨rfl, trivial⟩ .nil
 ·obtain rfl : k = l.length := by omega
  (refine gI ?_; (iterate 2 refine gZ ?_); refine gJ ?_; refine gX ?_; refine gQ ?_; refine gV ?_; refine gM ?_; refine gL ?_; refine gM ?_; refine gO ?_; refine gB ?_)
  refine gc_loop (σ := Nat) [28, 29, 30, 31, 7, 6, 32, 33, 34, 35, 36, 37, 38, 8, 39, 40, 41, 42, 43, 44, 45, 46, 47, 48, 2, 49, 50, 9, 51, 52, 53, 54, 55, 56, 57, 58, 59, 60, 61, 64, 65, 66, 67, 68, 69, 70, 71, 72, 73, 74, 75, 76, 77, 62, 63, 78, 27] (fun k => [(27, .int .i64 k)]) (fun _ => []) (fun k => k ≤ l.length ∧ badB l k = false) (fun k => l.length - k) 0 ⟨Nat.zero_le _, rfl⟩ ⟨rfl, trivial⟩ .nil ?_
  rintro i base2 ⟨hi, hJ⟩
  (refine gV ?_; refine gC ?_; refine gO ?_; refine gQ ?_)
  refine gc_if_dec rfl (fun h => ?_) (fun h => ?_)
  ·have hlt : i < l.length := by omega
   have hp1 : (i + 1) % l.length < l.length := Nat.mod_lt _ (by omega)
   have hp2 : (i + 2) % l.length < l.length := Nat.mod_lt _ (by omega)
   have hce0 := hcell i hlt
   have hce1 := hcell _ hp1
   have hce2 := hcell _ hp2
   obtain ⟨b1, b2⟩ := bd_of hout hlt
   obtain ⟨b3, b4⟩ := bd_of hout hp1
   obtain ⟨b5, b6⟩ := bd_of hout hp2
   (refine gK ?_; refine gX ?_; refine gQ ?_; refine gB ?_; refine gV ?_; refine gM ?_; apply gw_d; exact w_index rfl rfl rfl rfl (by with_reducible exact rfl) (by omega); apply gw_d; exact w_load_elem rfl rfl rfl (by assumption) (by assumption) (by rfl); refine w_alloc rfl (fun _ => ?_); refine gM ?_; refine w_store_all rfl rfl rfl rfl rfl .here rfl ?_; refine gN ?_; (iterate 2 refine gM ?_); refine gA ?_; refine gM ?_; apply gw_d; exact det_rem rfl rfl rfl rfl (by omega) (by omega); apply gw_d; exact w_index rfl rfl rfl rfl (by with_reducible exact castM _ _) (by omega); apply gw_d; exact w_load_elem rfl rfl rfl (by assumption) (by assumption) (by rfl); refine w_alloc rfl (fun _ => ?_); refine w_store_all rfl rfl rfl rfl rfl .here rfl ?_; refine gO ?_; refine gQ ?_; refine gQ ?_)
   refine gc_draw 10 (by kernel_rfl) (by kernel_rfl) ?_
   focus (apply gd_d; exact w_load_boxN rfl rfl rfl (.there .here) rfl; apply gd_d; exact w_load_boxN rfl rfl rfl .here rfl; (iterate 2 refine dM ?_); apply gd_d; exact det_ar rfl rfl rfl rfl rfl (by omega); refine dM ?_; apply gd_d; exact det_rem rfl rfl rfl rfl (by omega) (by omega); apply gd_d; exact w_index rfl rfl rfl rfl (by with_reducible exact castN _ _) (by omega); apply gd_d; exact w_load_elem rfl rfl rfl (by assumption) (by assumption) (by rfl); apply gd_d; exact w_call rfl rfl (fun w s => folded_ok w _ _ _ _ _ _ b1 b2 b3 b4 b5 b6) rfl; refine gd_nil ?_; refine gO ?_; refine gc_if rfl (fun _ => ?_) (fun _ => ?_); refine gV ?_; refine gM ?_; refine gO ?_; refine gR ?_; refine gT ?_; refine gY ?_; (iterate 2 refine gT ?_); refine gY ?_; refine gT ?_; rotate_left; refine gK ?_; refine gX ?_; refine gV ?_; refine gM ?_; refine gA ?_; refine gM ?_; refine gO ?_; refine gB ?_; rotate_left)
   ·refine gb1 (fun _ _ => ?_)
    have : badB l l.length = true := range_any_no hlt (by
     have : foldAt l i = true := ‹_›
     simp [this])
    simp [simpleB, hI, this]
   ·have hfold : foldAt l i = false := ‹_›
    refine gc_loopK (σ := Nat) [51, 52, 53, 54, 55, 56, 57, 58, 59, 60, 61, 64, 65, 66, 67, 68, 69, 70, 71, 72, 73, 74, 75, 76, 77, 2, 62, 63, 9] (fun k => [(9, .int .i64 k)]) (fun k => i + 2 ≤ k ∧ k ≤ max l.length (i + 2) ∧ meetsB l i k = false) (fun k => l.length - k) (i + 2) ⟨Nat.le_refl _, by omega, meets_start l i⟩ ⟨rfl, trivial⟩ ?_
    rintro k base3 ⟨hk1, hk2, hM⟩
    focus (refine gQ ?_; refine gV ?_; (iterate 2 refine gM ?_); refine gC ?_; refine gM ?_; refine gD (fun _ => ?_) (fun _ => ?_); refine gM ?_; refine gA ?_; refine gM ?_; apply gw_d; exact det_rem rfl rfl rfl rfl (by omega) (by omega); refine gM ?_; refine gC ?_; refine gPp ?_; refine gO ?_; rotate_left; (iterate 6 refine gU ?_); refine gPq ?_; refine gO ?_; rotate_left)
    ·refine gc_if_dec rfl (fun h3 => ?_) (fun h3 => ?_)
     ·have hk : k < l.length := by omega
      have hq1 : (k + 1) % l.length < l.length := Nat.mod_lt _ (by omega)
      have hce3 := hcell k hk
      have hce4 := hcell _ hq1
      obtain ⟨b7, b8⟩ := bd_of hout hk
      obtain ⟨b9, b10⟩ := bd_of hout hq1
      have hne : (k + 1) % l.length ≠ i := fun h4 => h3 (by have := congrArg (fun n : Nat => (n : Int)) h4; simpa using this)
      (refine gK ?_; refine gX ?_; refine gQ ?_; refine gB ?_; refine gQ ?_)
      refine gc_draw 14 (by kernel_rfl) (by kernel_rfl) ?_
      focus (apply gd_d; exact w_load_boxN rfl rfl rfl (.there .here) rfl; apply gd_d; exact w_load_boxN rfl rfl rfl .here rfl; (iterate 2 refine dM ?_); apply gd_d; exact w_index rfl rfl rfl rfl (by with_reducible exact rfl) (by omega); apply gd_d; exact w_load_elem rfl rfl rfl (by assumption) (by assumption) (by rfl); (iterate 2 refine dM ?_); apply gd_d; exact det_ar rfl rfl rfl rfl rfl (by omega); refine dM ?_; apply gd_d; exact det_rem rfl rfl rfl rfl (by omega) (by omega); apply gd_d; exact w_index rfl rfl rfl rfl (by with_reducible exact castM _ _) (by omega); apply gd_d; exact w_load_elem rfl rfl rfl (by assumption) (by assumption) (by rfl); apply gd_d; exact w_call rfl rfl (fun w s => meet_ok w _ _ _ _ _ _ _ _ b1 b2 b3 b4 b7 b8 b9 b10) rfl; refine gd_nil ?_; refine gO ?_; refine gc_if rfl (fun _ => ?_) (fun _ => ?_); refine gV ?_; refine gM ?_; refine gO ?_; refine gR ?_; refine gY ?_; (iterate 2 refine gT ?_); (iterate 2 refine gY ?_); (iterate 2 refine gT ?_); refine gY ?_; refine gT ?_; rotate_left; refine gK ?_; refine gH ?_; refine gX ?_; refine gG ?_; refine gM ?_; refine gA ?_; refine gM ?_; refine gw_nil ?_; rotate_left)
      ·refine gb1 (fun _ _ => ?_)
       have hm1 : meetAt l i k = true := ‹_›
       have hm2 : meetsB l i l.length = true := range_any_no hk (by simp [hm1, hk1, hne])
       have : badB l l.length = true := range_any_no hlt (by simp [hm2])
       simp [simpleB, hI, this]
      ·have hm1 : meetAt l i k = false := ‹_›
       exact gx_round (k + 1) ⟨by omega, by omega, range_any_snoc hM (by simp [hm1])⟩ (by omega) kK ⟨rfl, trivial⟩ (Sub.all _)
     ·have he : meetsB l i l.length = false := meets_end hM (fun h4 => h3 (fun h5 => h4.2 (Int.ofNat.inj (by simpa using h5)))) hk1 hk2
      (refine gI ?_; (iterate 2 refine gZ ?_); refine gJ ?_; refine gH ?_; refine gX ?_; refine gG ?_; refine gA ?_; refine gM ?_; refine gw_nil ?_)
      exact gx_round (i + 1) ⟨by omega, range_any_snoc hJ (by simp [hfold, he])⟩ (by omega) kK ⟨rfl, trivial⟩ .nil
    ·have he : meetsB l i l.length = false := meets_end hM (fun h4 => by omega) hk1 hk2
     (refine gc_if_false rfl ?_; refine gI ?_; (iterate 2 refine gZ ?_); refine gJ ?_; refine gH ?_; refine gX ?_; refine gG ?_; refine gA ?_; refine gM ?_; refine gw_nil ?_)
     exact gx_round (i + 1) ⟨by omega, range_any_snoc hJ (by simp [hfold, he])⟩ (by omega) kK ⟨rfl, trivial⟩ .nil
  ·(refine gI ?_; (iterate 2 refine gZ ?_); refine gJ ?_; refine gX ?_; refine gV ?_; refine gM ?_; refine gO ?_; refine gR ?_)
   refine gb1 (fun _ _ => ?_)
   obtain rfl : i = l.length := by omega
   simp [simpleB, hI, hJ]

def polyE (l : List (Int × Int)) : Int := if 40 < l.length then 5 else if l.length < 3 then 11 else if l.any outP = true then 3 else if simpleB l = true then 0 else 11
theorem polygon_ok (w : World) (v : Value) (l : List (Int × Int)) (hl : Sl rSpot w w.heap.size v l) : Ok Tryz.prog 114 [v].toArray w fun r _ => r = .int .i64 (polyE l) := by
 obtain ⟨A, c, rfl, hc, hm⟩ := len_small hl
 refine ok_enter Tryz.func114 rfl Tryz.ntmps114 rfl ?_
 focus (refine gV ?_; refine gM ?_; refine gO ?_; refine gQ ?_; refine gV ?_; refine gM ?_; refine gL ?_; refine gC ?_; refine gO ?_; refine gc_if_dec rfl (fun _ => ?_) (fun _ => ?_); refine gV ?_; refine gM ?_; refine gO ?_; refine gR ?_; refine gT ?_; rotate_left; refine gK ?_; refine gX ?_; refine gQ ?_; refine gV ?_; refine gM ?_; refine gL ?_; refine gC ?_; refine gO ?_; refine gc_if_dec rfl (fun _ => ?_) (fun _ => ?_); refine gV ?_; refine gM ?_; refine gO ?_; refine gR ?_; refine gT ?_; rotate_left; refine gK ?_; refine gX ?_; refine gQ ?_; refine gV ?_; refine gM ?_; apply gw_d; exact w_call rfl rfl (fun w s => containsFunc_ok 135 outside_ok w _ l (hl.later s)) rfl; refine gO ?_; refine gc_if rfl (fun _ => ?_) (fun _ => ?_); refine gV ?_; refine gM ?_; refine gO ?_; refine gR ?_; refine gT ?_; rotate_left; refine gK ?_; refine gX ?_; refine gQ ?_; refine gV ?_; refine gM ?_; apply gw_d; exact w_call rfl rfl (fun w s => simple_ok w _ l (hl.later s) (by omega) (by omega) ‹_›) rfl; apply gw_d; exact det_not_ rfl rfl rfl; refine gO ?_; refine gc_if rfl (fun _ => ?_) (fun _ => ?_); refine gV ?_; refine gM ?_; refine gO ?_; refine gR ?_; refine gT ?_; rotate_left; refine gK ?_; refine gX ?_; refine gV ?_; refine gM ?_; refine gO ?_; refine gR ?_; rotate_left)
 all_goals
  refine gi1 (fun _ _ => ?_)
  congr 1
  unfold polyE
  repeat' split
  all_goals first | rfl | (exfalso; omega) | simp_all
def rU32 : Rp Int where
 size := 1
 rep _ _ i cs := cs = [.int .u32 i]
 len h := by rw [h]; rfl
 mono _ h := h
 grow _ h := h
theorem Sl.u32 {w : World} {B : Nat} {v : Value} {l : List Int} (h : Sl rU32 w B v l) : ∃ A c, v = .slice A l.length c ∧ l.length ≤ c ∧ l.length ≤ 9223372036854775807 ∧
  ∀ k (hk : k < l.length), ∃ ad, A = some ad ∧ ad.block < B ∧ w.cell? (ad.add (k * 1)) = some (.int .u32 l[k]) := by
 obtain ⟨A, c, hv, h1, h2, h3⟩ := h
 refine ⟨A, c, hv, h1, by unfold maxLen at h2; omega, fun k hk => ?_⟩
 obtain ⟨ad, cs, ha, hlt, hc, hr⟩ := h3 k hk
 obtain rfl := hr
 exact ⟨ad, ha, hlt, hc 0 _ rfl⟩
theorem Sl.none0 {α : Type} (R : Rp α) (w : World) (A : Option Addr) (c : Nat) (hc : c ≤ 1000) : Sl R w w.heap.size (.slice A 0 c) ([] : List α) :=
 ⟨A, c, rfl, Nat.zero_le _, by unfold maxLen; omega, fun k hk => by cases hk⟩

/-- The length without the zeros at the end. -/
def tl (l : List Int) : Nat → Nat
 | 0 => 0
 | n + 1 => if l.getD n 0 = 0 then tl l n else n + 1
theorem trim_ok (w : World) (A : Option Addr) (c : Nat) (l : List Int) (hl : Sl rU32 w w.heap.size (.slice A l.length c) l) :
  Ok Tryz.prog 122 [.slice A l.length c].toArray w fun r _ => r = .slice A (tl l l.length) c := by
 obtain ⟨A', c', hv, hc, hm, hcell⟩ := hl.u32
 injection hv with e1 e2 e3
 subst e1 e3
 refine ok_enter Tryz.func122 rfl Tryz.ntmps122 rfl ?_
 (refine gV ?_; refine gM ?_; refine gN ?_; refine gM ?_; refine gL ?_; refine gM ?_; refine gO ?_; refine gQ ?_; refine gB ?_)
 refine gc_loop (σ := Nat) [6, 7, 8, 9, 10, 11, 12, 13, 14, 15, 16, 17, 3] (fun k => [(3, .int .i64 k)]) (fun _ => []) (fun k => k ≤ l.length ∧ tl l k = tl l l.length) (fun k => k) l.length ⟨Nat.le_refl _, rfl⟩ ⟨rfl, trivial⟩ .nil ?_
 rintro k base ⟨hk, hI⟩
 focus (refine gQ ?_; refine gV ?_; refine gM ?_; refine gC ?_; refine gM ?_; refine gD (fun _ => ?_) (fun _ => ?_); (iterate 2 refine gM ?_); refine gA ?_; rotate_left; (iterate 6 refine gU ?_); refine gPq ?_; refine gO ?_; rotate_left)
 ·obtain ⟨ad, rfl, hb, hce⟩ := hcell (k - 1) (by omega)
  obtain ⟨k', rfl⟩ : ∃ k', k = k' + 1 := ⟨k - 1, by omega⟩
  focus (apply gw_d; exact w_index rfl rfl rfl rfl (by with_reducible exact castS (by omega)) (by omega); apply gw_d; exact w_load_at rfl rfl rfl (by assumption) (by assumption); refine gC ?_; refine gPp ?_; refine gO ?_; refine gc_if_dec rfl (fun _ => ?_) (fun _ => ?_); refine gK ?_; refine gX ?_; refine gB ?_; refine gG ?_; refine gM ?_; refine gA ?_; refine gM ?_; refine gw_nil ?_; refine gH ?_; rotate_left; refine gI ?_; (iterate 2 refine gZ ?_); refine gJ ?_; refine gX ?_; refine gV ?_; (iterate 2 refine gM ?_); apply gw_d; exact w_cut_hi rfl rfl rfl rfl (by with_reducible exact rfl) (by omega); refine gM ?_; refine gO ?_; refine gR ?_; rotate_left)
  ·rename_i h1 h2
   have h3 : l.getD k' 0 = 0 := by simpa [show k' < l.length by omega] using h2
   exact gx_round k' ⟨by omega, by rw [← hI]; show _ = (if l.getD k' 0 = 0 then tl l k' else k' + 1); rw [if_pos h3]⟩ (by omega) kK ⟨(congrArg (Value.int .i64) (show ((k' + 1 : Nat) : Int) - 1 = (k' : Int) by omega)), trivial⟩ .nil
  ·rename_i h1 h2
   have h3 : ¬ l.getD k' 0 = 0 := by simpa [show k' < l.length by omega] using h2
   refine gx_ret1 (v := .slice _ _ _) rfl rfl (fun _ _ => ?_)
   rw [← hI]
   show Value.slice _ (k' + 1) _ = .slice _ (if l.getD k' 0 = 0 then tl l k' else k' + 1) _
   rw [if_neg h3]
 ·(refine gc_if_false rfl ?_; refine gI ?_; (iterate 2 refine gZ ?_); refine gJ ?_; refine gX ?_; refine gV ?_; (iterate 2 refine gM ?_); apply gw_d; exact w_cut_hi rfl rfl rfl rfl (by with_reducible exact rfl) (by omega); refine gM ?_; refine gO ?_; refine gR ?_)
  refine gx_ret1 (v := .slice _ _ _) rfl rfl (fun _ _ => ?_)
  obtain rfl : k = 0 := by omega
  rw [← hI]
  rfl

theorem Sl.box32 {w0 w : World} {L L' : List Res} {b c : Nat} {bt : TypeId} {l : List Int} (s : St w0 L w) (hp : Pick L (Box b bt (l.map (Value.int .u32)).toArray) L') (h1 : l.length ≤ c) (h2 : c ≤ 1000) : Sl rU32 w w.heap.size (.slice (some ⟨b, 0, none⟩) l.length c) l := by
 have hs := s.pick hp
 have hb : b < w.heap.size := (hs.sep.fp _ List.mem_cons_self b rfl).2
 refine ⟨_, c, rfl, h1, by unfold maxLen; omega, fun k hk => ⟨⟨b, 0, none⟩, [.int .u32 l[k]], rfl, hb, fun j u hu => ?_, rfl⟩⟩
 cases j with
 | succ j => simp at hu
 | zero =>
  have hadd : (⟨b, 0, none⟩ : Addr).add (k * rU32.size + 0) = ⟨b, k, none⟩ := by unfold Addr.add rU32; split <;> simp_all
  rw [hadd, Box.cell hs.head k]
  simp at hu
  subst hu
  simp [hk]

theorem of1_ok (w : World) : OkM Tryz.prog 93 [.int .u64 1].toArray w (fun b => .slice (some ⟨b, 0, none⟩) 1 2) (fun b => [Box b 141 #[.int .u32 1, .int .u32 0]]) := by
 unfold OkM
 refine ok_enter Tryz.func93 rfl Tryz.ntmps93 rfl ?_
 (refine gV ?_; refine gM ?_; refine gN ?_; refine gM ?_; apply gw_d; exact det_conv (r := 1) rfl rfl rfl (by rfl); refine gM ?_; apply gw_d; exact det_shr (r := 0) rfl rfl rfl rfl (by decide) (by rfl); apply gw_d; exact det_conv (r := 0) rfl rfl rfl (by rfl))
 refine gw_bslice (cells := #[.int .u32 1, .int .u32 0]) rfl ?_ ?_ ?_ (fun b => ?_)
 ·rfl
 ·rfl
 ·kernel_rfl
 (apply gw_d; exact w_call rfl rfl (fun w s => trim_ok w _ _ [1, 0] (Sl.box32 s .here (by decide) (by decide))) rfl; refine gM ?_; refine gO ?_; refine gR ?_)
 refine gx_ret1 rfl rfl fun w s => ⟨b, rfl, s.sep⟩

theorem natCmp0_ok (w : World) (A B : Option Addr) (c d : Nat) (l m : List Int) (hl : Sl rU32 w w.heap.size (.slice A l.length c) l) (hm : Sl rU32 w w.heap.size (.slice B m.length d) m) (h1 : tl l l.length = 0) (h2 : tl m m.length = 0) :
  Ok Tryz.prog 92 [.slice A l.length c, .slice B m.length d].toArray w fun r _ => r = .int .i64 0 := by
 have t1 : ∀ w' L, St w L w' → Ok Tryz.prog 122 [.slice A l.length c].toArray w' fun r _ => r = .slice A 0 c := fun w' L s => by rw [← h1]; exact trim_ok w' A c l (hl.later s)
 have t2 : ∀ w' L, St w L w' → Ok Tryz.prog 122 [.slice B m.length d].toArray w' fun r _ => r = .slice B 0 d := fun w' L s => by rw [← h2]; exact trim_ok w' B d m (hm.later s)
 refine ok_enter Tryz.func92 rfl Tryz.ntmps92 rfl ?_
 (refine gV ?_; refine gM ?_; refine gN ?_; refine gM ?_; apply gw_d; exact w_call rfl rfl (fun w s => t1 w _ s) rfl; refine gM ?_; apply gw_d; exact w_call rfl rfl (fun w s => t2 w _ s) rfl; (iterate 2 refine gM ?_); refine gO ?_; refine gQ ?_; refine gV ?_; refine gM ?_; refine gL ?_; refine gM ?_; refine gL ?_; apply gw_d; exact w_call rfl rfl (fun w s => compare_ok w _ _) rfl; refine gM ?_; refine gN ?_; refine gM ?_; refine gC ?_; refine gO ?_)
 refine gc_if_dec rfl (fun h => absurd (show signI ((0 : Nat) : Int) ((0 : Nat) : Int) = 0 by rfl) h) (fun _ => ?_)
 (refine gK ?_; refine gX ?_; refine gQ ?_; refine gV ?_; refine gM ?_; refine gL ?_; refine gA ?_; refine gM ?_; refine gO ?_; refine gB ?_)
 refine gc_loop (σ := Unit) [23, 24, 27, 28, 29, 30, 31, 32, 33, 34, 35, 7, 36, 37, 38, 4, 25, 26, 6] (fun _ => [(6, .int .i64 (((0 : Nat) : Int) - 1))]) (fun _ => []) (fun _ => True) (fun _ => 0) () trivial ⟨rfl, trivial⟩ .nil ?_
 rintro k base -
 (refine gQ ?_; refine gV ?_; refine gM ?_; refine gC ?_; refine gO ?_)
 refine gc_if_dec rfl (fun h => absurd h (by omega)) (fun _ => ?_)
 (refine gI ?_; (iterate 2 refine gZ ?_); refine gJ ?_; refine gX ?_; refine gV ?_; refine gM ?_; refine gO ?_; refine gR ?_)
 refine gi1 (fun _ _ => ?_)
 rfl

/-- Norm of what is 0. -/
theorem natNorm0_ok (w : World) (A : Option Addr) (c : Nat) (l : List Int) (hl : Sl rU32 w w.heap.size (.slice A l.length c) l) (h1 : tl l l.length = 0) :
  OkM Tryz.prog 143 [.slice A l.length c].toArray w (fun b => .slice (some ⟨b, 0, none⟩) 0 0) (fun _ => []) := by
 have t1 : ∀ w' L, St w L w' → Ok Tryz.prog 122 [.slice A l.length c].toArray w' fun r _ => r = .slice A 0 c := fun w' L s => by rw [← h1]; exact trim_ok w' A c l (hl.later s)
 unfold OkM
 refine ok_enter Tryz.func143 rfl Tryz.ntmps143 rfl ?_
 (refine gV ?_; refine gM ?_; refine gN ?_; refine gM ?_; apply gw_d; exact w_call rfl rfl (fun w s => t1 w _ s) rfl; refine gM ?_; refine gN ?_; refine gM ?_; refine gL ?_)
 refine gw_makeN (n := 0) rfl rfl rfl (by rfl) (by rfl) (by decide) (by decide) (fun b => ?_)
 (refine gM ?_; refine gN ?_; (iterate 2 refine gM ?_); apply gw_d; exact det_copy0 rfl rfl rfl rfl; refine gN ?_; (iterate 2 refine gM ?_); refine gO ?_; refine gR ?_)
 exact gx_ret1 rfl rfl fun w s => ⟨b, rfl, trivial⟩

theorem natMul0_ok (w : World) (A B : Option Addr) (c d : Nat) (l m : List Int) (hl : Sl rU32 w w.heap.size (.slice A l.length c) l) (hm : Sl rU32 w w.heap.size (.slice B m.length d) m) (h1 : tl l l.length = 0) (h2 : tl m m.length = 1) :
  OkM Tryz.prog 121 [.slice A l.length c, .slice B m.length d].toArray w (fun b => .slice (some ⟨b, 0, none⟩) 0 1) (fun _ => []) := by
 have t1 : ∀ w' L, St w L w' → Ok Tryz.prog 122 [.slice A l.length c].toArray w' fun r _ => r = .slice A 0 c := fun w' L s => by rw [← h1]; exact trim_ok w' A c l (hl.later s)
 have t2 : ∀ w' L, St w L w' → Ok Tryz.prog 122 [.slice B m.length d].toArray w' fun r _ => r = .slice B 1 d := fun w' L s => by rw [← h2]; exact trim_ok w' B d m (hm.later s)
 unfold OkM
 refine ok_enter Tryz.func121 rfl Tryz.ntmps121 rfl ?_
 (refine gV ?_; refine gM ?_; refine gN ?_; refine gM ?_; apply gw_d; exact w_call rfl rfl (fun w s => t1 w _ s) rfl; refine gM ?_; apply gw_d; exact w_call rfl rfl (fun w s => t2 w _ s) rfl; (iterate 2 refine gM ?_); refine gN ?_; refine gM ?_; refine gL ?_; refine gM ?_; refine gL ?_; refine gA ?_)
 refine gw_makeN (n := 1) rfl rfl rfl (by rfl) (by rfl) (by decide) (by decide) (fun b => ?_)
 rw [show madeCells (Value.int .u32 0).cells (1 * 1) = #[.int .u32 0] by kernel_rfl]
 (refine gM ?_; refine gO ?_; refine gQ ?_; refine gV ?_; refine gM ?_; refine gL ?_; refine gM ?_; refine gO ?_; refine gB ?_)
 refine gc_loop (σ := Unit) [24, 25, 26, 27, 6, 7, 8, 28, 29, 30, 31, 32, 33, 34, 9, 10, 35, 36, 37, 38, 39, 40, 41, 42, 43, 44, 45, 46, 47, 48, 49, 50, 51, 52, 53, 54, 55, 56, 57, 58, 59, 60, 61, 62, 63, 64, 65, 66, 67, 68, 23] (fun _ => [(23, .int .i64 0)]) (fun _ => [Box b 141 #[.int .u32 0]]) (fun _ => True) (fun _ => 0) () trivial ⟨rfl, trivial⟩ (.cons .here .nil) ?_
 rintro k base -
 (refine gV ?_; refine gC ?_; refine gO ?_; refine gQ ?_)
 refine gc_if_dec rfl (fun h => absurd h (by omega)) (fun _ => ?_)
 (refine gI ?_; (iterate 2 refine gZ ?_); refine gJ ?_; refine gX ?_; refine gV ?_; refine gM ?_; apply gw_d; exact w_call rfl rfl (fun w s => trim_ok w _ _ [0] (Sl.box32 s .here (by decide) (by decide))) rfl; refine gM ?_; refine gO ?_; refine gR ?_)
 exact gx_ret1 rfl rfl fun w s => ⟨b, rfl, trivial⟩

theorem signed0_ok (w : World) (g : Bool) (A : Option Addr) (c : Nat) (l : List Int) (hl : Sl rU32 w w.heap.size (.slice A l.length c) l) (h1 : tl l l.length = 0) :
  OkM Tryz.prog 126 [.bool g, .slice A l.length c].toArray w (fun b => .agg #[.bool false, .slice (some ⟨b, 0, none⟩) 0 0]) (fun _ => []) := by
 unfold OkM
 cases g
 all_goals
  refine ok_enter Tryz.func126 rfl Tryz.ntmps126 rfl ?_
  (refine gV ?_; refine w_alloc rfl (fun _ => ?_); refine gN ?_; refine gM ?_)
  refine gw_callm rfl (fun w s => natNorm0_ok w A c l (hl.later s) h1) rfl (fun b => ?_)
  (first | (refine gM ?_; refine gN ?_; (iterate 3 refine gM ?_); refine gL ?_; refine gC ?_; refine gPp ?_; refine gM ?_; apply gw_d; exact w_build (cells := #[.bool false, .slice (some ⟨b, 0, none⟩) 0 0]) rfl rfl (by kernel_rfl); refine w_store_all rfl rfl rfl rfl rfl .here rfl ?_; refine gO ?_; refine gR ?_) | (refine gM ?_; refine gN ?_; (iterate 2 refine gM ?_); (iterate 3 refine gU ?_); refine gPq ?_; refine gM ?_; apply gw_d; exact w_build (cells := #[.bool false, .slice (some ⟨b, 0, none⟩) 0 0]) rfl rfl (by kernel_rfl); refine w_store_all rfl rfl rfl rfl rfl .here rfl ?_; refine gO ?_; refine gR ?_))
  exact gx_retc rfl rfl .here rfl fun w s => ⟨b, rfl, trivial⟩
theorem positive_ok (w : World) (A : Option Addr) (n c : Nat) :
  Ok Tryz.prog 98 [.slice A n c].toArray w fun r _ => r = .agg #[.bool false, .slice A n c] := by
 refine ok_enter Tryz.func98 rfl Tryz.ntmps98 rfl ?_
 (refine gV ?_; refine w_alloc rfl (fun _ => ?_); refine gN ?_; refine gM ?_; apply gw_d; exact w_build (cells := #[.bool false, .slice A n c]) rfl rfl (by kernel_rfl); refine w_store_all rfl rfl rfl rfl rfl .here rfl ?_; refine gO ?_; refine gR ?_)
 exact gx_retc rfl rfl .here rfl fun w s => rfl
theorem intNorm0_ok (w : World) (g : Bool) (A : Option Addr) (c : Nat) (l : List Int) (hl : Sl rU32 w w.heap.size (.slice A l.length c) l) (h1 : tl l l.length = 0) :
  OkM Tryz.prog 124 [.agg #[.bool g, .slice A l.length c]].toArray w (fun b => .agg #[.bool false, .slice (some ⟨b, 0, none⟩) 0 0]) (fun _ => []) := by
 unfold OkM
 refine ok_enter Tryz.func124 rfl Tryz.ntmps124 rfl ?_
 (refine gV ?_; refine gw_boxd (v := .agg _) rfl rfl (fun _ => ?_); refine w_alloc rfl (fun _ => ?_); refine gN ?_; refine gF ?_; refine gW (.there .here) ?_; refine gF ?_; refine gW (.there .here) ?_)
 refine gw_callm rfl (fun w s => signed0_ok w g A c l (hl.later s) h1) rfl (fun b => ?_)
 (refine w_store_all rfl rfl rfl rfl rfl .here rfl ?_; refine gO ?_; refine gR ?_)
 exact gx_retc rfl rfl .here rfl fun w s => ⟨b, rfl, trivial⟩
theorem zero0_ok (w : World) : Ok Tryz.prog 125 [.slice none 0 0].toArray w fun r _ => r = .bool true := by
 refine ok_enter Tryz.func125 rfl Tryz.ntmps125 rfl ?_
 (refine gV ?_; refine gM ?_; refine gN ?_; refine gM ?_; apply gw_d; exact w_call rfl rfl (fun w s => natCmp0_ok w none none 0 0 [] [] (Sl.none0 _ w _ _ (by decide)) (Sl.none0 _ w _ _ (by decide)) rfl rfl) rfl; refine gC ?_; refine gM ?_; refine gO ?_; refine gR ?_)
 refine gb1 (fun _ _ => ?_)
 rfl
theorem value0_ok (w : World) : OkM Tryz.prog 95 [.agg #[.bool false, .slice none 0 0, .slice none 0 0]].toArray w (fun b => .agg #[.bool false, .slice none 0 0, .slice (some ⟨b, 0, none⟩) 1 2]) (fun b => [Box b 141 #[.int .u32 1, .int .u32 0]]) := by
 unfold OkM
 refine ok_enter Tryz.func95 rfl Tryz.ntmps95 rfl ?_
 (refine gV ?_; refine gw_boxd (v := .agg _) rfl rfl (fun _ => ?_); refine w_alloc rfl (fun _ => ?_); refine gO ?_; refine gQ ?_; refine gV ?_; refine gF ?_; refine gW (.there .here) ?_; apply gw_d; exact w_call rfl rfl (fun w s => zero0_ok w) rfl; refine gO ?_)
 refine gc_if_true rfl ?_
 (refine gV ?_)
 refine gw_callm rfl (fun w s => of1_ok w) rfl (fun b => ?_)
 (apply gw_d; exact w_build (cells := #[.bool false, .slice none 0 0, .slice (some ⟨b, 0, none⟩) 1 2]) rfl rfl (by kernel_rfl); refine w_store_all rfl rfl rfl rfl rfl (.there .here) rfl ?_; refine gO ?_; refine gR ?_; refine gT ?_)
 refine gx_retc rfl rfl .here rfl fun w s => ⟨b, rfl, (s.sub (.cons (.there .here) .nil)).sep⟩
theorem intCmp0_ok (w : World) (A B : Nat) : Ok Tryz.prog 96 [.agg #[.bool false, .slice (some ⟨A, 0, none⟩) 0 0], .agg #[.bool false, .slice (some ⟨B, 0, none⟩) 0 0]].toArray w fun r _ => r = .int .i64 0 := by
 refine ok_enter Tryz.func96 rfl Tryz.ntmps96 rfl ?_
 (refine gV ?_; refine gw_boxd (v := .agg _) rfl rfl (fun _ => ?_); refine gw_boxd (v := .agg _) rfl rfl (fun _ => ?_); refine gM ?_; refine gO ?_; refine gQ ?_)
 refine gc_block_draw Nat 4 (fun i => ([[], [0], [], [0, 1, 2]] : List (List Nat)).getD i []) rfl (by kernel_rfl) ?_
 (apply gb_d; (intro γ; exact w_load_boxN rfl rfl rfl (.there .here) rfl); (intros; rfl); (intros; rfl))
 refine gb_call (l := fun _ => [.agg #[.bool false, .slice (some ⟨A, 0, none⟩) 0 0]]) (fun _ b => .agg #[.bool false, .slice (some ⟨b, 0, none⟩) 0 0]) (fun _ _ => []) (fun _ => rfl) (fun _ w s => intNorm0_ok w _ _ _ [] (Sl.none0 _ w _ _ (by decide)) rfl) (fun _ => rfl) (fun _ _ => ⟨rfl, rfl⟩) (fun _ => ⟨rfl, rfl⟩) ?_
 (apply gb_d; (intro γ; exact w_load_boxN rfl rfl rfl .here rfl); (intros; rfl); (intros; rfl))
 refine gb_call (l := fun _ => [.agg #[.bool false, .slice (some ⟨B, 0, none⟩) 0 0]]) (fun _ b => .agg #[.bool false, .slice (some ⟨b, 0, none⟩) 0 0]) (fun _ _ => []) (fun _ => rfl) (fun _ w s => intNorm0_ok w _ _ _ [] (Sl.none0 _ w _ _ (by decide)) rfl) (fun _ => rfl) (fun _ _ => ⟨rfl, rfl⟩) (fun _ => ⟨rfl, rfl⟩) ?_
 (skip)
 refine GB.nil (fun β => ?_)
 (refine w_store_all rfl rfl rfl rfl rfl (.there .here) rfl ?_; refine w_store_all rfl rfl rfl rfl rfl (.there .here) rfl ?_; refine gO ?_; refine gQ ?_; refine gB ?_; refine gV ?_; refine gF ?_; refine gW (.there .here) ?_; refine gM ?_; (iterate 3 refine gU ?_); refine gPq ?_; refine gM ?_; refine gO ?_; refine gc_if_false rfl ?_; refine gV ?_; refine gF ?_; refine gW (.there .here) ?_; apply gw_d; exact det_not_ rfl rfl rfl; refine gM ?_; refine gF ?_; refine gW .here ?_; refine gPp ?_; refine gM ?_; refine gO ?_; refine gc_if_false rfl ?_; refine gV ?_; refine gF ?_; refine gW (.there .here) ?_; refine gM ?_; refine gO ?_; refine gc_if_false rfl ?_; refine gK ?_; refine gH ?_; refine gX ?_; refine gV ?_; refine gF ?_; refine gW (.there .here) ?_; refine gF ?_; refine gW .here ?_; apply gw_d; exact w_call rfl rfl (fun w s => natCmp0_ok w (some ⟨β 1, 0, none⟩) (some ⟨β 3, 0, none⟩) 0 0 [] [] (Sl.none0 _ w _ _ (by decide)) (Sl.none0 _ w _ _ (by decide)) rfl rfl) rfl; refine gM ?_; refine gO ?_; refine gR ?_)
 refine gi1 (fun _ _ => ?_)
 rfl

theorem intMul0_ok (w : World) (A B : Option Addr) (c d : Nat) (l m : List Int) (hl : Sl rU32 w w.heap.size (.slice A l.length c) l) (hm : Sl rU32 w w.heap.size (.slice B m.length d) m) (h1 : tl l l.length = 0) (h2 : tl m m.length = 1) :
  OkM Tryz.prog 97 [.agg #[.bool false, .slice A l.length c], .agg #[.bool false, .slice B m.length d]].toArray w (fun b => .agg #[.bool false, .slice (some ⟨b, 0, none⟩) 0 0]) (fun _ => []) := by
 unfold OkM
 refine ok_enter Tryz.func97 rfl Tryz.ntmps97 rfl ?_
 (refine gV ?_; refine gw_boxd (v := .agg _) rfl rfl (fun _ => ?_); refine gw_boxd (v := .agg _) rfl rfl (fun _ => ?_); refine w_alloc rfl (fun _ => ?_); refine gO ?_; refine gQ ?_)
 refine gc_block_draw Nat 11 (fun i => ([[], [0], [], [2], [0, 1, 2, 3], [], [5], [], [7], [5, 6, 7, 8], [0, 1, 2, 3, 4, 5, 6, 7, 8, 9]] : List (List Nat)).getD i []) rfl (by kernel_rfl) ?_
 (apply gb_d; (intro γ; exact w_field rfl rfl rfl); (intros; rfl); (intros; rfl); apply gb_d; (intro γ; exact w_load_box rfl rfl rfl (.there (.there .here)) rfl); (intros; rfl); (intros; rfl); apply gb_d; (intro γ; exact w_field rfl rfl rfl); (intros; rfl); (intros; rfl); apply gb_d; (intro γ; exact w_load_box rfl rfl rfl (.there .here) rfl); (intros; rfl); (intros; rfl); apply gb_d; (intro γ; exact det_bne rfl rfl rfl rfl rfl); (intros; rfl); (intros; rfl); apply gb_d; (intro γ; exact w_field rfl rfl rfl); (intros; rfl); (intros; rfl); apply gb_d; (intro γ; exact w_load_box rfl rfl rfl (.there (.there .here)) rfl); (intros; rfl); (intros; rfl); apply gb_d; (intro γ; exact w_field rfl rfl rfl); (intros; rfl); (intros; rfl); apply gb_d; (intro γ; exact w_load_box rfl rfl rfl (.there .here) rfl); (intros; rfl); (intros; rfl))
 refine gb_call (l := fun _ => [.slice A l.length c, .slice B m.length d]) (fun _ b => .slice (some ⟨b, 0, none⟩) 0 1) (fun _ _ => []) (fun _ => rfl) (fun _ w s => natMul0_ok w A B c d l m (hl.later s) (hm.later s) h1 h2) (fun _ => rfl) (fun _ _ => ⟨rfl, rfl⟩) (fun _ => ⟨rfl, rfl⟩) ?_
 refine gb_call (l := fun γ => [.bool false, .slice (some ⟨γ 9, 0, none⟩) 0 1]) (fun _ b => .agg #[.bool false, .slice (some ⟨b, 0, none⟩) 0 0]) (fun _ _ => []) (fun _ => rfl) (fun γ w s => signed0_ok w false _ 1 [] (Sl.none0 _ w _ _ (by decide)) rfl) (fun _ => rfl) (fun _ _ => ⟨rfl, rfl⟩) (fun _ => ⟨rfl, rfl⟩) ?_
 refine GB.nil (fun β => ?_)
 (refine w_store_all rfl rfl rfl rfl rfl .here rfl ?_; refine gO ?_; refine gR ?_)
 exact gx_retc rfl rfl .here rfl fun w s => ⟨β 10, rfl, trivial⟩

theorem ratioCmp0_ok (w : World) : Ok Tryz.prog 79 [.agg #[.bool false, .slice none 0 0, .slice none 0 0], .agg #[.bool false, .slice none 0 0, .slice none 0 0]].toArray w fun r _ => r = .int .i64 0 := by
 refine ok_enter Tryz.func79 rfl Tryz.ntmps79 rfl ?_
 (refine gV ?_; refine gw_boxd (v := .agg _) rfl rfl (fun _ => ?_); refine gw_boxd (v := .agg _) rfl rfl (fun _ => ?_); refine gM ?_; refine gO ?_; refine gQ ?_)
 refine gc_block_draw Nat 4 (fun i => ([[], [0], [], [0, 1, 2]] : List (List Nat)).getD i []) rfl (by kernel_rfl) ?_
 (apply gb_d; (intro γ; exact w_load_boxN rfl rfl rfl (.there .here) rfl); (intros; rfl); (intros; rfl))
 refine gb_call (l := fun _ => [.agg #[.bool false, .slice none 0 0, .slice none 0 0]]) (fun _ b => .agg #[.bool false, .slice none 0 0, .slice (some ⟨b, 0, none⟩) 1 2]) (fun _ b => [Box b 141 #[.int .u32 1, .int .u32 0]]) (fun _ => rfl) (fun _ w s => value0_ok w) (fun _ => rfl) (fun _ _ => ⟨rfl, rfl⟩) (fun _ => ⟨rfl, rfl⟩) ?_
 (apply gb_d; (intro γ; exact w_load_boxN rfl rfl rfl .here rfl); (intros; rfl); (intros; rfl))
 refine gb_call (l := fun _ => [.agg #[.bool false, .slice none 0 0, .slice none 0 0]]) (fun _ b => .agg #[.bool false, .slice none 0 0, .slice (some ⟨b, 0, none⟩) 1 2]) (fun _ b => [Box b 141 #[.int .u32 1, .int .u32 0]]) (fun _ => rfl) (fun _ w s => value0_ok w) (fun _ => rfl) (fun _ _ => ⟨rfl, rfl⟩) (fun _ => ⟨rfl, rfl⟩) ?_
 refine GB.nil (fun β => ?_)
 (refine w_store_all rfl rfl rfl rfl rfl (.there (.there (.there .here))) rfl ?_; refine w_store_all rfl rfl rfl rfl rfl (.there (.there (.there .here))) rfl ?_; refine gO ?_; refine gQ ?_)
 refine gc_block_draw Nat 13 (fun i => ([[], [0], [], [2], [2, 3], [0, 1, 2, 3, 4], [], [6], [], [8], [0, 1, 2, 3, 4, 5, 8, 9], [0, 1, 2, 3, 4, 5, 6, 7, 8, 9, 10], [0, 1, 2, 3, 4, 5, 6, 7, 8, 9, 10, 11]] : List (List Nat)).getD i []) rfl (by kernel_rfl) ?_
 (apply gb_d; (intro γ; exact w_field rfl rfl rfl); (intros; rfl); (intros; rfl); apply gb_d; (intro γ; exact w_load_part rfl rfl rfl (.there .here) rfl rfl); (intros; rfl); (intros; rfl); apply gb_d; (intro γ; exact w_field rfl rfl rfl); (intros; rfl); (intros; rfl); apply gb_d; (intro γ; exact w_load_box rfl rfl rfl .here rfl); (intros; rfl); (intros; rfl); apply gb_d; (intro γ; exact w_call rfl rfl (fun w s => positive_ok w _ _ _) rfl); (intros; rfl); (intros; rfl))
 refine gb_call (l := fun _ => [.agg #[.bool false, .slice none 0 0], .agg #[.bool false, .slice (some ⟨β 3, 0, none⟩) 1 2]]) (fun _ b => .agg #[.bool false, .slice (some ⟨b, 0, none⟩) 0 0]) (fun _ _ => []) (fun _ => rfl) (fun _ w s => intMul0_ok w none (some ⟨β 3, 0, none⟩) 0 2 [] [1] (Sl.none0 _ w _ _ (by decide)) ((Sl.box32 (l := [1, 0]) s (.there (.there (.there .here))) (by decide) (by decide)).take (m := 1) (by decide)) rfl rfl) (fun _ => rfl) (fun _ _ => ⟨rfl, rfl⟩) (fun _ => ⟨rfl, rfl⟩) ?_
 (apply gb_d; (intro γ; exact w_field rfl rfl rfl); (intros; rfl); (intros; rfl); apply gb_d; (intro γ; exact w_load_part rfl rfl rfl .here rfl rfl); (intros; rfl); (intros; rfl); apply gb_d; (intro γ; exact w_field rfl rfl rfl); (intros; rfl); (intros; rfl); apply gb_d; (intro γ; exact w_load_box rfl rfl rfl (.there .here) rfl); (intros; rfl); (intros; rfl); apply gb_d; (intro γ; exact w_call rfl rfl (fun w s => positive_ok w _ _ _) rfl); (intros; rfl); (intros; rfl))
 refine gb_call (l := fun _ => [.agg #[.bool false, .slice none 0 0], .agg #[.bool false, .slice (some ⟨β 1, 0, none⟩) 1 2]]) (fun _ b => .agg #[.bool false, .slice (some ⟨b, 0, none⟩) 0 0]) (fun _ _ => []) (fun _ => rfl) (fun _ w s => intMul0_ok w none (some ⟨β 1, 0, none⟩) 0 2 [] [1] (Sl.none0 _ w _ _ (by decide)) ((Sl.box32 (l := [1, 0]) s (.there (.there .here)) (by decide) (by decide)).take (m := 1) (by decide)) rfl rfl) (fun _ => rfl) (fun _ _ => ⟨rfl, rfl⟩) (fun _ => ⟨rfl, rfl⟩) ?_
 (apply gb_d; (intro γ; exact w_call rfl rfl (fun w s => intCmp0_ok w _ _) rfl); (intros; rfl); (intros; rfl))
 refine GB.nil (fun β2 => ?_)
 (refine gM ?_; refine gO ?_; refine gR ?_)
 refine gi1 (fun _ _ => ?_)
 rfl
end Go.Proofs.YtafbfldjcikmcaaGreat
