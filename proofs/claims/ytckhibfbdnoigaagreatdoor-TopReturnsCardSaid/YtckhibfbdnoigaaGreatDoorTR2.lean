/- Texts in one file: FwM N1 Tab N2 N5 N6 N7 N8 C2. -/
import Derived.Test.YtckhibfbdnoigaaGreatDoorTR1
import Derived.Deep.Slices
import Derived.WalkKit
import Derived.ProofKit
import Derived.OpenShut
import Derived.ShutString
import Derived.ChangeOld
import Derived.Test.YtckhibfbdnoigaaGreatDoorProg
import Derived.KernelRfl
/- Arguments that came in, read as lists and structs. No program in sight. -/
namespace Go.Proofs.YtckhibfbdnoigaaGreatDoor
open Go.ChangeShapes Go.WideShapes Go.ChangeAt Go.RowKit

theorem list_choose {α : Type} {Q : Nat → α → Prop} : ∀ n, (∀ i, i < n → ∃ x, Q i x) → ∃ l : List α, l.length = n ∧ ∀ k (hk : k < l.length), Q k l[k]
  | 0, _ => ⟨[], rfl, fun k hk => by cases hk⟩
  | n + 1, h => by
    obtain ⟨l, hl, hq⟩ := list_choose n fun i hi => h i (by omega)
    obtain ⟨x, hx⟩ := h n (by omega)
    refine ⟨l ++ [x], by simp [hl], fun k hk => ?_⟩
    by_cases hkl : k < l.length
    · rw [List.getElem_append_left hkl]; exact hq k hkl
    · have : k = n := by simp at hk; omega
      subst this
      rw [List.getElem_append_right (by omega)]
      simp [hl]
      exact hx
theorem cell_lt {w : World} {a : Addr} {u : Value} (h : w.cell? a = some u) : a.block < w.heap.size := by
  unfold World.cell? at h
  split at h
  · rename_i hh; exact (Array.getElem?_eq_some_iff.1 hh).1
  · cases h
theorem wf64 {n : Int} (h : (Lit.int .i64 n).wf = true) : inI64 n := by
  unfold Lit.wf at h
  simp only [Bool.and_eq_true, decide_eq_true_eq] at h
  exact h

section
variable {H : Type} {enc : TypeId × Value → H} {P : Program} {w : World} {base : Nat} {spare : Nat → Bool} {held : Bool}
theorem sl_of_trod {α : Type} {R : Rp α} {t e : TypeId} {fuel : Nat} {v : Value} {x : DataW H × List MemPlace} (ht : P.underlying t = some (.slice e)) (hC : P.cellsOf e = R.size) (hpos : 0 < R.size)
    (hel : ∀ (n : Nat) (cs : List Value) (y : DataW H × List MemPlace), cs.length = R.size → DataW.trod enc P w base spare held n e cs = some y → ∃ z, R.rep w (fun b => b < w.heap.size) z cs) (h : DataW.trod enc P w base spare held fuel t [v] = some x) :
    ∃ l, Sl R w w.heap.size v l := by
  rcases Go.Deep.open_slice ht h with ⟨hcs, _⟩ | ⟨a, len, cap, m, n, D, Pl, hcs, _, hl, hm, hmm, _, hi⟩
  · injection hcs with hv
    subst hv
    exact ⟨[], none, 0, rfl, Nat.le_refl _, Nat.zero_le _, fun k hk => by cases hk⟩
  · injection hcs with hv
    subst hv
    have hlm : len ≤ m := by rw [hmm]; split <;> omega
    obtain ⟨l, hll, hq⟩ := list_choose (Q := fun i z => a.block < w.heap.size ∧ ∃ cs, (∀ j u, cs[j]? = some u → w.cell? (a.add (i * R.size + j)) = some u) ∧ R.rep w (fun b => b < w.heap.size) z cs) len fun i hilt => by
      obtain ⟨cs', hc, htr⟩ := hi i (by omega)
      obtain ⟨_, hcl, hat⟩ := World.cells?_some hc
      rw [hC] at hc hcl hat
      obtain ⟨z, hz⟩ := hel n cs' _ hcl htr
      have hcell : ∀ j u, cs'[j]? = some u → w.cell? (a.add (i * R.size + j)) = some u := fun j u hu => by
        have hj : j < cs'.length := (List.getElem?_eq_some_iff.1 hu).1
        rw [← add_add, hat j (by omega), hu]
      refine ⟨z, ?_, cs', hcell, hz⟩
      have h0 := hcell 0 _ (List.getElem?_eq_getElem (by omega))
      have := cell_lt h0
      rwa [add_block] at this
    subst hll
    refine ⟨l, some a, cap, rfl, hl, hm, fun k hk => ?_⟩
    obtain ⟨hb, cs, hc, hr⟩ := hq k hk
    exact ⟨a, cs, rfl, hb, hc, hr⟩

/-- The type of a field that is one cell, at its place. -/
def fieldT (P : Program) (e : TypeId) (i : Nat) : Option TypeId := match P.underlying e with
  | some (.struct fs) => match fs[i]? with
    | some f => bif Nat.beq f.offset i && Nat.beq (P.cellsOf f.type) 1 then some f.type else none
    | none => none
  | _ => none
theorem field_trod {e ft : TypeId} {i n : Nat} {cs : List Value} {x : DataW H × List MemPlace} {c : Value} (h : DataW.trod enc P w base spare held n e cs = some x) (hf : fieldT P e i = some ft) (hc : cs[i]? = some c) :
    ∃ m y, DataW.trod enc P w base spare held m ft [c] = some y := by
  unfold fieldT at hf
  split at hf
  · rename_i fs hu
    split at hf
    · rename_i f hfi
      cases hb : (Nat.beq f.offset i && Nat.beq (P.cellsOf f.type) 1) with
      | false => rw [hb] at hf; cases hf
      | true =>
        rw [hb] at hf
        simp only [cond_true, Option.some.injEq] at hf
        subst hf
        rw [Bool.and_eq_true] at hb
        have h1 : f.offset = i := Nat.eq_of_beq_eq_true hb.1
        have h2 : P.cellsOf f.type = 1 := Nat.eq_of_beq_eq_true hb.2
        obtain ⟨xs, m, _, _, _, hlen, hg⟩ := DataW.trod_struct hu h
        have h3 := hg i f hfi
        have hi : i < fs.size := (Array.getElem?_eq_some_iff.1 hfi).1
        rw [h1, h2, List.getElem?_eq_getElem (by omega)] at h3
        have h4 : (cs.drop i).take 1 = [c] := by
          obtain ⟨hlt, hget⟩ := List.getElem?_eq_some_iff.1 hc
          rw [List.drop_eq_getElem_cons hlt, hget]
          rfl
        rw [h4] at h3
        exact ⟨m, _, h3⟩
    · cases hf
  · cases hf
theorem int_trod {t : TypeId} {n : Nat} {c : Value} {x : DataW H × List MemPlace} (ht : P.underlying t = some (.int .i64)) (h : DataW.trod enc P w base spare held n t [c] = some x) : ∃ i, c = .int .i64 i ∧ inI64 i := by
  obtain ⟨i, hc, _, hw⟩ := DataW.trod_int ht h
  injection hc with hc
  exact ⟨i, hc, wf64 hw⟩
theorem str_trod {t : TypeId} {n : Nat} {c : Value} {x : DataW H × List MemPlace} (ht : P.underlying t = some .string) (h : DataW.trod enc P w base spare held n t [c] = some x) : ∃ s : ByteArray, c = .string s ∧ s.size ≤ maxLen := by
  obtain ⟨i, hc, _, hw⟩ := DataW.trod_string ht h
  injection hc with hc
  exact ⟨i, hc, hw⟩
theorem bool_trod {t : TypeId} {n : Nat} {c : Value} {x : DataW H × List MemPlace} (ht : P.underlying t = some .bool) (h : DataW.trod enc P w base spare held n t [c] = some x) : ∃ b, c = .bool b := by
  obtain ⟨i, hc, _⟩ := DataW.trod_bool ht h
  injection hc with hc
  exact ⟨i, hc⟩
theorem ints_trod {t e : TypeId} {n : Nat} {c : Value} {x : DataW H × List MemPlace} (ht : P.underlying t = some (.slice e)) (he : P.underlying e = some (.int .i64)) (hC : P.cellsOf e = 1) (h : DataW.trod enc P w base spare held n t [c] = some x) :
    ∃ l, Sl rInt w w.heap.size c l :=
  sl_of_trod (R := rInt) ht hC (by decide) (fun n cs y hl hy => by
    obtain ⟨i, hc, _, hw⟩ := DataW.trod_int he hy
    exact ⟨i, hc, wf64 hw⟩) h
end
end Go.Proofs.YtckhibfbdnoigaaGreatDoor

/- An empty slice literal. No program in sight. -/
namespace Go.Proofs.YtckhibfbdnoigaaGreatDoor
open Go.RowKit

end Go.Proofs.YtckhibfbdnoigaaGreatDoor

/- A collection of resources whose number is not known: one is taken out, turned, and put back. No program in sight. -/
namespace Go.Proofs.YtckhibfbdnoigaaGreatDoor
open Go.RowKit

def Emp : Res := ⟨fun _ => False, fun _ => True, fun _ _ _ _ => trivial⟩
def setR (F : Nat → Res) (i : Nat) (r : Res) : Nat → Res := fun j => if j = i then r else F j
theorem setR_same (F : Nat → Res) (i : Nat) (r : Res) : setR F i r i = r := if_pos rfl
theorem setR_ne (F : Nat → Res) {i j : Nat} (r : Res) (h : ¬ j = i) : setR F i r j = F j := if_neg h
/-- The resources F 0, .., F (n-1), which do not meet. -/
def Coll (n : Nat) (F : Nat → Res) : Res where
  fp b := ∃ i, i < n ∧ (F i).fp b
  p w := (∀ i, i < n → (F i).p w) ∧ ∀ i j, i < n → j < n → ¬ i = j → ∀ b, (F i).fp b → ¬ (F j).fp b
  stable w w' h p := ⟨fun i hi => (F i).stable w w' (fun b hb => h b ⟨i, hi, hb⟩) (p.1 i hi), p.2⟩
theorem St.same {w0 w : World} {r q : Res} {L : List Res} (s : St w0 (r :: L) w) (hf : ∀ b, q.fp b → r.fp b) (hp : q.p w) : St w0 (q :: L) w := ⟨s.below, hp, fun b hb => s.sep.2.1 b (hf b hb), fun b hb => s.sep.2.2.1 b (hf b hb), s.sep.2.2.2⟩
theorem coll_nil {F : Nat → Res} {L : List Res} : Ent L (Coll 0 F :: L) := fun _w0 _w s =>
  ⟨s.below, ⟨fun i hi => absurd hi (Nat.not_lt_zero i), fun i _j hi => absurd hi (Nat.not_lt_zero i)⟩, fun _b ⟨i, hi, _⟩ => absurd hi (Nat.not_lt_zero i), fun _b ⟨i, hi, _⟩ => absurd hi (Nat.not_lt_zero i), s.sep⟩
theorem coll_take {n i : Nat} {F : Nat → Res} {L : List Res} (hi : i < n) : Ent (Coll n F :: L) (F i :: Coll n (setR F i Emp) :: L) := fun w0 w s => by
  obtain ⟨hB, ⟨h1, h2⟩, h3, h4, h5⟩ := s
  have hsub : ∀ b, (Coll n (setR F i Emp)).fp b → ∃ j, j < n ∧ ¬ j = i ∧ (F j).fp b := fun b ⟨j, hj, hb⟩ => by
    by_cases hji : j = i
    · subst hji; rw [setR_same] at hb; exact absurd hb id
    · rw [setR_ne _ _ hji] at hb; exact ⟨j, hj, hji, hb⟩
  refine ⟨hB, h1 i hi, fun b hb => h3 b ⟨i, hi, hb⟩, fun b hb q hq => ?_, ⟨fun j hj => ?_, fun j k hj hk hjk b hb hb' => ?_⟩, fun b hb => ?_, fun b hb => ?_, h5⟩
  · rcases List.mem_cons.1 hq with rfl | hq
    · intro hc
      obtain ⟨j, hj, hji, hjb⟩ := hsub b hc
      exact h2 j i hj hi hji b hjb hb
    · exact h4 b ⟨i, hi, hb⟩ q hq
  · by_cases hji : j = i
    · subst hji; rw [setR_same]; trivial
    · rw [setR_ne _ _ hji]; exact h1 j hj
  · by_cases hji : j = i
    · subst hji; rw [setR_same] at hb; exact hb
    · rw [setR_ne _ _ hji] at hb
      by_cases hki : k = i
      · subst hki; rw [setR_same] at hb'; exact hb'
      · rw [setR_ne _ _ hki] at hb'; exact h2 j k hj hk hjk b hb hb'
  · obtain ⟨j, hj, _, hjb⟩ := hsub b hb; exact h3 b ⟨j, hj, hjb⟩
  · obtain ⟨j, hj, _, hjb⟩ := hsub b hb; exact h4 b ⟨j, hj, hjb⟩
theorem coll_put {n i : Nat} {F : Nat → Res} {r : Res} {L : List Res} (hi : i < n) : Ent (r :: Coll n (setR F i Emp) :: L) (Coll n (setR F i r) :: L) := fun w0 w s => by
  obtain ⟨hB, h1, h2, h3, ⟨g1, g2⟩, g3, g4, g5⟩ := s
  have hin : ∀ j b, j < n → ¬ j = i → (F j).fp b → (Coll n (setR F i Emp)).fp b := fun j b hj hji hb => ⟨j, hj, by rw [setR_ne _ _ hji]; exact hb⟩
  refine ⟨hB, ⟨fun j hj => ?_, fun j k hj hk hjk b hb hb' => ?_⟩, fun b ⟨j, hj, hb⟩ => ?_, fun b ⟨j, hj, hb⟩ q hq => ?_, g5⟩
  · by_cases hji : j = i
    · subst hji; rw [setR_same]; exact h1
    · rw [setR_ne _ _ hji]; have := g1 j hj; rwa [setR_ne _ _ hji] at this
  · by_cases hji : j = i
    · subst hji
      have hkj : ¬ k = j := fun h => hjk h.symm
      rw [setR_same] at hb
      rw [setR_ne _ _ hkj] at hb'
      exact h3 b hb _ List.mem_cons_self (hin k b hk hkj hb')
    · rw [setR_ne _ _ hji] at hb
      by_cases hki : k = i
      · subst hki
        rw [setR_same] at hb'
        exact h3 b hb' _ List.mem_cons_self (hin j b hj hji hb)
      · rw [setR_ne _ _ hki] at hb'
        have := g2 j k hj hk hjk b
        rw [setR_ne _ _ hji, setR_ne _ _ hki] at this
        exact this hb hb'
  · by_cases hji : j = i
    · subst hji; rw [setR_same] at hb; exact h2 b hb
    · rw [setR_ne _ _ hji] at hb; exact g3 b (hin j b hj hji hb)
  · by_cases hji : j = i
    · subst hji; rw [setR_same] at hb; exact h3 b hb q (List.mem_cons_of_mem _ hq)
    · rw [setR_ne _ _ hji] at hb; exact g4 b (hin j b hj hji hb) q hq
theorem coll_push {n : Nat} {F : Nat → Res} {r : Res} {L : List Res} : Ent (r :: Coll n F :: L) (Coll (n + 1) (setR F n r) :: L) := fun w0 w s => by
  obtain ⟨hB, h1, h2, h3, ⟨g1, g2⟩, g3, g4, g5⟩ := s
  refine ⟨hB, ⟨fun j hj => ?_, fun j k hj hk hjk b hb hb' => ?_⟩, fun b ⟨j, hj, hb⟩ => ?_, fun b ⟨j, hj, hb⟩ q hq => ?_, g5⟩
  · by_cases hji : j = n
    · subst hji; rw [setR_same]; exact h1
    · rw [setR_ne _ _ hji]; exact g1 j (by omega)
  · by_cases hji : j = n
    · subst hji
      have hkj : ¬ k = j := fun h => hjk h.symm
      rw [setR_same] at hb
      rw [setR_ne _ _ hkj] at hb'
      exact h3 b hb _ List.mem_cons_self ⟨k, by omega, hb'⟩
    · rw [setR_ne _ _ hji] at hb
      by_cases hki : k = n
      · subst hki
        rw [setR_same] at hb'
        exact h3 b hb' _ List.mem_cons_self ⟨j, by omega, hb⟩
      · rw [setR_ne _ _ hki] at hb'
        exact g2 j k (by omega) (by omega) hjk b hb hb'
  · by_cases hji : j = n
    · subst hji; rw [setR_same] at hb; exact h2 b hb
    · rw [setR_ne _ _ hji] at hb; exact g3 b ⟨j, by omega, hb⟩
  · by_cases hji : j = n
    · subst hji; rw [setR_same] at hb; exact h3 b hb q (List.mem_cons_of_mem _ hq)
    · rw [setR_ne _ _ hji] at hb; exact g4 b ⟨j, by omega, hb⟩ q hq
theorem coll_congr {n : Nat} {F G : Nat → Res} (h : ∀ i, i < n → F i = G i) {L : List Res} : Ent (Coll n F :: L) (Coll n G :: L) := fun w0 w s =>
  s.same (fun b ⟨i, hi, hb⟩ => ⟨i, hi, by rw [h i hi]; exact hb⟩) ⟨fun i hi => by rw [← h i hi]; exact s.head.1 i hi, fun i j hi hj hij b => by rw [← h i hi, ← h j hj]; exact s.head.2 i j hi hj hij b⟩
end Go.Proofs.YtckhibfbdnoigaaGreatDoor

/- Pointers and nil, arrays that are values. No program in sight. -/
namespace Go.Proofs.YtckhibfbdnoigaaGreatDoor
open Go.RowKit
section
variable {P : Program} {ops : Array Oper} {N : Nat} {w0 : World} {L L' : List Res} {e : Env} {o : Oper} {t : TypeId} {x y ix : Operand} {a : Addr} {v z : Value} {n m : Nat}
theorem w_nilcheck (hop : o.op = .nilCheck x) (hw : wantedE N ops e o = true) (hx : ev N e x = .pointer (some a)) : Det P ops N w0 L o e (.pointer (some a)) :=
  det_pure hw fun w => by
    unfold execOp
    simp [hop, hx]
theorem w_peqnil {p : Option Addr} {te yt : TypeId} (hu : P.underlying t = some (.pointer te)) (hop : o.op = .binOp .eql t x y yt) (hw : wantedE N ops e o = true) (hx : ev N e x = .pointer p) (hy : ev N e y = .pointer none) : Det P ops N w0 L o e (.bool p.isNone) :=
  det_pure hw fun w => by
    have h : ∀ (d : Nat) (w : World), (Op.equalIn (d + 1) t (.pointer p) (.pointer none)).run P w = .ok p.isNone w := fun d w => by
      cases p <;> simp [Op.equalIn, run_underlying hu]
    unfold execOp
    simp only [hop, hx, hy, eqGuard, binOp]
    simp [Op.equal, Op.maxDepth, h 9999]
theorem w_aidx {el : TypeId} {cs : Array Value} {k : IntKind} {zi : Int} (hu : P.underlying t = some (.array n el)) (he : P.underlying el = some (.int .i64)) (hs : ((P.info? el).map (·.size)) = some 1) (hop : o.op = .index t x ix) (hw : wantedE N ops e o = true) (hx : ev N e x = .agg cs) (hi : ev N e ix = .int k zi) (hz : zi = (m : Int)) (hm : m < n) (hc : cs[m]? = some v) :
    Det P ops N w0 L o e v :=
  det_pure hw fun w => by
    subst hz
    obtain ⟨j, hj, hsz⟩ := Option.map_eq_some_iff.1 hs
    have hp := part_int (P := P) (ft := el) (cs := cs) (off := m) (w := w) he hc
    unfold execOp
    simp [hop, hx, hi, Instr.index, run_underlying hu, asIntOf, hm, sizeOf, typeInfo, hj, hsz, hp]
theorem w_buildA {el : TypeId} {sz : Nat} [CZero P t z] {parts : Array (Nat × Operand)} {cells : Array Value} (hu : P.underlying t = some (.array n el)) (hs : ((P.info? el).map (·.size)) = some sz) (hop : o.op = .build t parts) (hw : wantedE N ops e o = true)
    (hf : Instr.fill (fun i => some (i * sz, sz)) z.cells (parts.toList.map fun q => (q.1, ev N e q.2)) = some cells) : Det P ops N w0 L o e (.agg cells) :=
  det_pure hw fun w => by
    have hz := CZero.h (P := P) (t := t) (z := z)
    obtain ⟨i, hi, hzi⟩ := Option.bind_eq_some_iff.1 hz
    obtain ⟨j, hj, hsz⟩ := Option.map_eq_some_iff.1 hs
    have hparts : (parts.map fun q => (q.1, ev N e q.2)).toList = parts.toList.map fun q => (q.1, ev N e q.2) := by simp
    have hr := run_build (P := P) w t (parts.map fun q => (q.1, ev N e q.2)) cells (by
      unfold Program.built
      simp only [hi, hu, hzi, hj, hparts]
      subst hsz
      exact hf)
    unfold execOp
    simp [hop, hr]
theorem w_buildP {ps : List (Nat × Nat)} [CPlaces P t ps] [CZero P t z] {parts : Array (Nat × Operand)} (vals : List (Nat × Value)) {cells : Array Value} (hf : Instr.fill (fun i => ps[i]?) z.cells vals = some cells) (hop : o.op = .build t parts) (hw : wantedE N ops e o = true)
    (hv : parts.toList.map (fun q => (q.1, ev N e q.2)) = vals) : Det P ops N w0 L o e (.agg cells) := w_build hop hw (by rw [hv]; exact hf)
end
end Go.Proofs.YtckhibfbdnoigaaGreatDoor

/- Reading what was built: slices over own cells. No program in sight. -/
namespace Go.Proofs.YtckhibfbdnoigaaGreatDoor
open Go.RowKit
set_option maxRecDepth 100000
set_option maxHeartbeats 2000000

section
variable {P : Program} {ops : Array Oper} {N : Nat} {w0 : World} {L : List Res} {rest : List Oper} {t : TypeId} {x y : Operand} {z : Value} {el sz by_ d : Nat} {ty : TypeId} {pos : String} {af : Array Edge} {g : Option (Nat × Bool)}
variable {X : Type} [Inhabited X] {pl : Nat → List Nat} {tail : ((Nat → X) → Env) → (Nat → (Nat → X) → List Res) → Prop} {i : Nat} {E : (Nat → X) → Env} {RL : Nat → (Nat → X) → List Res}
end

/-! ### Reading what was built -/
def RepsFrom {α : Type} (R : Rp α) (w : World) : List α → List Value → Prop
  | [], _ => True
  | x :: l, cs => R.rep w (fun b => b < w.heap.size) x (cs.take R.size) ∧ RepsFrom R w l (cs.drop R.size)
theorem reps_at {α : Type} {R : Rp α} {w : World} : ∀ {l : List α} {cs : List Value}, RepsFrom R w l cs → ∀ k (hk : k < l.length), R.rep w (fun b => b < w.heap.size) l[k] ((cs.drop (k * R.size)).take R.size)
  | x :: l, cs, h, 0, _ => by simpa using h.1
  | x :: l, cs, h, k + 1, hk => by
    have := reps_at h.2 k (by simpa using hk)
    rw [List.drop_drop] at this
    rwa [show R.size + k * R.size = (k + 1) * R.size by rw [Nat.succ_mul]; omega] at this
theorem Sl.ofCells {α : Type} {R : Rp α} {w : World} {b n c : Nat} {cs : Array Value} {ty : TypeId} {l : List α} (hb : w.heap[b]? = some (.cells cs ty (0, 0))) (hn : n = l.length) (hc : n ≤ c) (hc2 : c ≤ 1000) (h : RepsFrom R w l cs.toList) : Sl R w w.heap.size (.slice (some ⟨b, 0, none⟩) n c) l := by
  subst hn
  refine ⟨_, c, rfl, hc, by unfold maxLen; omega, fun k hk => ⟨⟨b, 0, none⟩, _, rfl, (Array.getElem?_eq_some_iff.1 hb).1, fun j u hu => ?_, reps_at h k hk⟩⟩
  rw [add_zero]
  simp only [World.cell?, hb]
  rw [List.getElem?_take] at hu
  split at hu
  · rw [List.getElem?_drop] at hu
    simpa using hu
  · cases hu
theorem Sl.nil {α : Type} (R : Rp α) (w : World) : Sl R w w.heap.size (.slice none 0 0) ([] : List α) := ⟨none, 0, rfl, Nat.le_refl _, Nat.zero_le _, fun k hk => by cases hk⟩

theorem inI {i : Int} (h : decide (-9223372036854775808 ≤ i ∧ i ≤ 9223372036854775807) = true) : inI64 i := by unfold inI64; exact of_decide_eq_true h
theorem row_set {α : Type} (f : α → Value) {l : List α} {m : Nat} (hm : m < l.length) (x : α) : ((l.map f).toArray.toList.take (m * 1) ++ [f x] ++ (l.map f).toArray.toList.drop (m * 1 + 1)).toArray = ((l.set m x).map f).toArray := by
  rw [Nat.mul_one, List.map_set, List.set_eq_take_append_cons_drop, if_pos (by simpa using hm)]
  simp
theorem row_get {α : Type} (f : α → Value) {l : List α} (d : α) {m : Nat} (hm : m < l.length) : (l.map f).toArray[m * 1]? = some (f (l.getD m d)) := by
  simp [hm]
theorem row_make {α : Type} (f : α → Value) (n : Nat) (x : α) : Array.replicate n (f x) = ((List.replicate n x).map f).toArray := by
  rw [List.map_replicate]
  simp
end Go.Proofs.YtckhibfbdnoigaaGreatDoor

/- Regions that draw their order and hold an operation that changes what the function owns: in whatever order. No program in sight. -/
namespace Go.Proofs.YtckhibfbdnoigaaGreatDoor
open Go.RowKit

section
variable {X : Type} [Inhabited X] {P : Program} {ops : Array Oper} {Q : Exit → Act → World → Prop} {N : Nat} {w0 : World} {L : List Res} {rest : List Oper} {e : Env} {o : Oper}

/-- What the operation gives is known. -/
def StepG (P : Program) (ρ : Operand → Value) (o : Oper) (w : World) (φ : Value → World → Prop) : Prop :=
  match (execOp ρ o).run P w with
  | .ok (.value v) w' => φ v w'
  | .ok .skip w' => φ undef w'
  | .ok (.enter f args) w' => Ok P f args w' φ
  | _ => False
theorem StepG.congr {ρ ρ' : Operand → Value} {w : World} {φ : Value → World → Prop} (hs : ∀ cs b, o.op ≠ .select cs b) (h : ∀ x ∈ o.op.operands, ρ x = ρ' x) (k : StepG P ρ o w φ) : StepG P ρ' o w φ := by
  unfold StepG at *
  rwa [← execOp_congr o hs h]
theorem StepG.mono {ρ : Operand → Value} {w : World} {φ ψ : Value → World → Prop} (h : StepG P ρ o w φ) (k : ∀ v w', φ v w' → ψ v w') : StepG P ρ o w ψ := by
  unfold StepG at *
  split at h
  · exact k _ _ h
  · exact k _ _ h
  · exact Ok.mono h fun v w' _ hv => k v w' hv
  · exact h.elim
end
end Go.Proofs.YtckhibfbdnoigaaGreatDoor

/- Square roots, rounded down: plain facts. No program in sight. -/
namespace Go.Proofs.YtckhibfbdnoigaaGreatDoor

def isq : Nat → Nat
  | 0 => 0
  | n + 1 => if (isq n + 1) * (isq n + 1) ≤ n + 1 then isq n + 1 else isq n
theorem isq_spec : ∀ n, isq n * isq n ≤ n ∧ n < (isq n + 1) * (isq n + 1)
  | 0 => by decide
  | n + 1 => by
    obtain ⟨h1, h2⟩ := isq_spec n
    have e0 : isq (n + 1) = if (isq n + 1) * (isq n + 1) ≤ n + 1 then isq n + 1 else isq n := rfl
    rw [e0]
    split
    · rename_i h
      refine ⟨h, ?_⟩
      have : (isq n + 1) * (isq n + 1) ≤ (isq n + 1 + 1) * (isq n + 1) := Nat.mul_le_mul_right _ (by omega)
      have e : (isq n + 1 + 1) * (isq n + 1 + 1) = (isq n + 1 + 1) * (isq n + 1) + (isq n + 1 + 1) := Nat.mul_succ _ _
      omega
    · rename_i h
      exact ⟨by omega, by omega⟩
theorem isq_le {n s : Nat} (h : n < (s + 1) * (s + 1)) : isq n ≤ s := by
  have h1 := (isq_spec n).1
  refine Nat.le_of_not_lt fun hc => ?_
  have := Nat.mul_le_mul (show s + 1 ≤ isq n from hc) (show s + 1 ≤ isq n from hc)
  omega
theorem le_isq {n s : Nat} (h : s * s ≤ n) : s ≤ isq n := by
  have h1 := (isq_spec n).2
  refine Nat.le_of_not_lt fun hc => ?_
  have := Nat.mul_le_mul (show isq n + 1 ≤ s from hc) (show isq n + 1 ≤ s from hc)
  omega
theorem nt_ge {n x s : Nat} (hx : 0 < x) (hs : s * s ≤ n) : s ≤ (x + n / x) / 2 := by
  suffices h : 2 * s ≤ x + n / x by omega
  by_cases h : 2 * s ≤ x
  · exact Nat.le_trans h (Nat.le_add_right _ _)
  · have hd : 2 * s - x ≤ n / x := by
      rw [Nat.le_div_iff_mul_le hx]
      refine Nat.le_trans ?_ hs
      by_cases hxs : x ≤ s
      · obtain ⟨t, rfl⟩ : ∃ t, s = x + t := ⟨s - x, by omega⟩
        rw [show 2 * (x + t) - x = x + 2 * t by omega]
        simp only [Nat.add_mul, Nat.mul_add, Nat.mul_assoc, Nat.mul_comm t x]
        omega
      · obtain ⟨t, rfl⟩ : ∃ t, x = s + t := ⟨x - s, by omega⟩
        obtain ⟨u, rfl⟩ : ∃ u, s = t + u := ⟨s - t, by omega⟩
        rw [show 2 * (t + u) - (t + u + t) = u by omega]
        simp only [Nat.add_mul, Nat.mul_add, Nat.mul_comm u t]
        omega
    omega
theorem nt_lt {n x s : Nat} (hs : n < (s + 1) * (s + 1)) (h : s < x) : (x + n / x) / 2 < x := by
  have h1 : (s + 1) * (s + 1) ≤ x * x := Nat.mul_le_mul h h
  have h2 : n / x < x := (Nat.div_lt_iff_lt_mul (by omega)).2 (by omega)
  omega
theorem nt_step {n x : Nat} (hx : 0 < x) (h : isq n ≤ x) : isq n ≤ (x + n / x) / 2 ∧ (x ≤ (x + n / x) / 2 → x = isq n) := by
  refine ⟨nt_ge hx (isq_spec n).1, fun h1 => ?_⟩
  refine Nat.le_antisymm (Nat.le_of_not_lt fun hc => ?_) h
  have := nt_lt (isq_spec n).2 hc
  omega
end Go.Proofs.YtckhibfbdnoigaaGreatDoor

/- Closed facts on the types and functions of the program. Written by a program of my own (tables.py). -/
namespace Go.Proofs.YtckhibfbdnoigaaGreatDoor
instance : CSize Tryz.prog 0 1 := ⟨by kernel_rfl⟩
instance : CNotAgg Tryz.prog 0 := ⟨by kernel_rfl⟩
instance : CZero Tryz.prog 0 (.tuple #[]) := ⟨by kernel_rfl⟩
instance : CBytes Tryz.prog 0 0 := ⟨by kernel_rfl⟩
instance : CSize Tryz.prog 1 1 := ⟨by kernel_rfl⟩
instance : CNotAgg Tryz.prog 1 := ⟨by kernel_rfl⟩
instance : CBytes Tryz.prog 1 8 := ⟨by kernel_rfl⟩
instance : CSize Tryz.prog 2 1 := ⟨by kernel_rfl⟩
instance : CNotAgg Tryz.prog 2 := ⟨by kernel_rfl⟩
instance : CZero Tryz.prog 2 (.int .i64 0) := ⟨by kernel_rfl⟩
instance : CBytes Tryz.prog 2 8 := ⟨by kernel_rfl⟩
instance : CInt Tryz.prog 2 .i64 := ⟨by kernel_rfl⟩
instance : CSize Tryz.prog 3 1 := ⟨by kernel_rfl⟩
instance : CNotAgg Tryz.prog 3 := ⟨by kernel_rfl⟩
instance : CZero Tryz.prog 3 (.int .i64 0) := ⟨by kernel_rfl⟩
instance : CBytes Tryz.prog 3 8 := ⟨by kernel_rfl⟩
instance : CInt Tryz.prog 3 .i64 := ⟨by kernel_rfl⟩
instance : CSize Tryz.prog 4 1 := ⟨by kernel_rfl⟩
instance : CNotAgg Tryz.prog 4 := ⟨by kernel_rfl⟩
instance : CZero Tryz.prog 4 (.bool false) := ⟨by kernel_rfl⟩
instance : CBytes Tryz.prog 4 1 := ⟨by kernel_rfl⟩
instance : CSize Tryz.prog 5 1 := ⟨by kernel_rfl⟩
instance : CNotAgg Tryz.prog 5 := ⟨by kernel_rfl⟩
instance : CZero Tryz.prog 5 (.int .u8 0) := ⟨by kernel_rfl⟩
instance : CBytes Tryz.prog 5 1 := ⟨by kernel_rfl⟩
instance : CInt Tryz.prog 5 .u8 := ⟨by kernel_rfl⟩
instance : CSize Tryz.prog 6 1 := ⟨by kernel_rfl⟩
instance : CNotAgg Tryz.prog 6 := ⟨by kernel_rfl⟩
instance : CZero Tryz.prog 6 (.int .u8 0) := ⟨by kernel_rfl⟩
instance : CBytes Tryz.prog 6 1 := ⟨by kernel_rfl⟩
instance : CInt Tryz.prog 6 .u8 := ⟨by kernel_rfl⟩
instance : CAgg Tryz.prog 7 4 := ⟨by kernel_rfl⟩
instance : CSize Tryz.prog 7 4 := ⟨by kernel_rfl⟩
instance : CZero Tryz.prog 7 (.agg #[.int .i64 0, .int .i64 0, .bool false, .int .u8 0]) := ⟨by kernel_rfl⟩
instance : CBytes Tryz.prog 7 24 := ⟨by kernel_rfl⟩
instance : CPlaces Tryz.prog 7 [(0, 1), (1, 1), (2, 1), (3, 1)] := ⟨by kernel_rfl⟩
instance : CField Tryz.prog 7 0 0 := ⟨by kernel_rfl⟩
instance : CField Tryz.prog 7 1 1 := ⟨by kernel_rfl⟩
instance : CField Tryz.prog 7 2 2 := ⟨by kernel_rfl⟩
instance : CField Tryz.prog 7 3 3 := ⟨by kernel_rfl⟩
instance : CAgg Tryz.prog 8 4 := ⟨by kernel_rfl⟩
instance : CSize Tryz.prog 8 4 := ⟨by kernel_rfl⟩
instance : CZero Tryz.prog 8 (.agg #[.int .i64 0, .int .i64 0, .bool false, .int .u8 0]) := ⟨by kernel_rfl⟩
instance : CBytes Tryz.prog 8 24 := ⟨by kernel_rfl⟩
instance : CPlaces Tryz.prog 8 [(0, 1), (1, 1), (2, 1), (3, 1)] := ⟨by kernel_rfl⟩
instance : CField Tryz.prog 8 0 0 := ⟨by kernel_rfl⟩
instance : CField Tryz.prog 8 1 1 := ⟨by kernel_rfl⟩
instance : CField Tryz.prog 8 2 2 := ⟨by kernel_rfl⟩
instance : CField Tryz.prog 8 3 3 := ⟨by kernel_rfl⟩
instance : CSize Tryz.prog 9 1 := ⟨by kernel_rfl⟩
instance : CNotAgg Tryz.prog 9 := ⟨by kernel_rfl⟩
instance : CIsStr Tryz.prog 9 := ⟨by kernel_rfl⟩
instance : CZero Tryz.prog 9 (.string ⟨#[]⟩) := ⟨by kernel_rfl⟩
instance : CBytes Tryz.prog 9 16 := ⟨by kernel_rfl⟩
instance : CSize Tryz.prog 10 1 := ⟨by kernel_rfl⟩
instance : CNotAgg Tryz.prog 10 := ⟨by kernel_rfl⟩
instance : CIsStr Tryz.prog 10 := ⟨by kernel_rfl⟩
instance : CZero Tryz.prog 10 (.string ⟨#[]⟩) := ⟨by kernel_rfl⟩
instance : CBytes Tryz.prog 10 16 := ⟨by kernel_rfl⟩
instance : CSize Tryz.prog 11 1 := ⟨by kernel_rfl⟩
instance : CNotAgg Tryz.prog 11 := ⟨by kernel_rfl⟩
instance : CIsStr Tryz.prog 11 := ⟨by kernel_rfl⟩
instance : CZero Tryz.prog 11 (.string ⟨#[]⟩) := ⟨by kernel_rfl⟩
instance : CBytes Tryz.prog 11 16 := ⟨by kernel_rfl⟩
instance : CSize Tryz.prog 12 1 := ⟨by kernel_rfl⟩
instance : CNotAgg Tryz.prog 12 := ⟨by kernel_rfl⟩
instance : CZero Tryz.prog 12 (.int .u64 0) := ⟨by kernel_rfl⟩
instance : CBytes Tryz.prog 12 8 := ⟨by kernel_rfl⟩
instance : CInt Tryz.prog 12 .u64 := ⟨by kernel_rfl⟩
instance : CAgg Tryz.prog 13 2 := ⟨by kernel_rfl⟩
instance : CSize Tryz.prog 13 2 := ⟨by kernel_rfl⟩
instance : CZero Tryz.prog 13 (.agg #[.string ⟨#[]⟩, .int .u64 0]) := ⟨by kernel_rfl⟩
instance : CBytes Tryz.prog 13 24 := ⟨by kernel_rfl⟩
instance : CPlaces Tryz.prog 13 [(0, 1), (1, 1)] := ⟨by kernel_rfl⟩
instance : CField Tryz.prog 13 0 0 := ⟨by kernel_rfl⟩
instance : CField Tryz.prog 13 1 1 := ⟨by kernel_rfl⟩
instance : CAgg Tryz.prog 14 2 := ⟨by kernel_rfl⟩
instance : CSize Tryz.prog 14 2 := ⟨by kernel_rfl⟩
instance : CZero Tryz.prog 14 (.agg #[.string ⟨#[]⟩, .int .u64 0]) := ⟨by kernel_rfl⟩
instance : CBytes Tryz.prog 14 24 := ⟨by kernel_rfl⟩
instance : CPlaces Tryz.prog 14 [(0, 1), (1, 1)] := ⟨by kernel_rfl⟩
instance : CField Tryz.prog 14 0 0 := ⟨by kernel_rfl⟩
instance : CField Tryz.prog 14 1 1 := ⟨by kernel_rfl⟩
instance : CSize Tryz.prog 15 1 := ⟨by kernel_rfl⟩
instance : CNotAgg Tryz.prog 15 := ⟨by kernel_rfl⟩
instance : CZero Tryz.prog 15 (.pointer none) := ⟨by kernel_rfl⟩
instance : CBytes Tryz.prog 15 8 := ⟨by kernel_rfl⟩
instance : CSize Tryz.prog 16 1 := ⟨by kernel_rfl⟩
instance : CNotAgg Tryz.prog 16 := ⟨by kernel_rfl⟩
instance : CZero Tryz.prog 16 (.pointer none) := ⟨by kernel_rfl⟩
instance : CBytes Tryz.prog 16 8 := ⟨by kernel_rfl⟩
instance : CSize Tryz.prog 17 1 := ⟨by kernel_rfl⟩
instance : CNotAgg Tryz.prog 17 := ⟨by kernel_rfl⟩
instance : CZero Tryz.prog 17 (.pointer none) := ⟨by kernel_rfl⟩
instance : CBytes Tryz.prog 17 8 := ⟨by kernel_rfl⟩
instance : CAgg Tryz.prog 18 1 := ⟨by kernel_rfl⟩
instance : CSize Tryz.prog 18 1 := ⟨by kernel_rfl⟩
instance : CZero Tryz.prog 18 (.agg #[.pointer none]) := ⟨by kernel_rfl⟩
instance : CBytes Tryz.prog 18 8 := ⟨by kernel_rfl⟩
instance : CPlaces Tryz.prog 18 [(0, 1)] := ⟨by kernel_rfl⟩
instance : CField Tryz.prog 18 0 0 := ⟨by kernel_rfl⟩
instance : CAgg Tryz.prog 19 1 := ⟨by kernel_rfl⟩
instance : CSize Tryz.prog 19 1 := ⟨by kernel_rfl⟩
instance : CZero Tryz.prog 19 (.agg #[.pointer none]) := ⟨by kernel_rfl⟩
instance : CBytes Tryz.prog 19 8 := ⟨by kernel_rfl⟩
instance : CPlaces Tryz.prog 19 [(0, 1)] := ⟨by kernel_rfl⟩
instance : CField Tryz.prog 19 0 0 := ⟨by kernel_rfl⟩
instance : CSize Tryz.prog 20 1 := ⟨by kernel_rfl⟩
instance : CNotAgg Tryz.prog 20 := ⟨by kernel_rfl⟩
instance : CBytes Tryz.prog 20 16 := ⟨by kernel_rfl⟩
instance : CSize Tryz.prog 21 1 := ⟨by kernel_rfl⟩
instance : CNotAgg Tryz.prog 21 := ⟨by kernel_rfl⟩
instance : CZero Tryz.prog 21 (.int .i32 0) := ⟨by kernel_rfl⟩
instance : CBytes Tryz.prog 21 4 := ⟨by kernel_rfl⟩
instance : CInt Tryz.prog 21 .i32 := ⟨by kernel_rfl⟩
instance : CSlice Tryz.prog 22 9 1 := ⟨by kernel_rfl⟩
instance : CSize Tryz.prog 22 1 := ⟨by kernel_rfl⟩
instance : CNotAgg Tryz.prog 22 := ⟨by kernel_rfl⟩
instance : CIsSlice Tryz.prog 22 := ⟨by kernel_rfl⟩
instance : CZero Tryz.prog 22 (.slice none 0 0) := ⟨by kernel_rfl⟩
instance : CBytes Tryz.prog 22 24 := ⟨by kernel_rfl⟩
instance : CSlice Tryz.prog 23 3 1 := ⟨by kernel_rfl⟩
instance : CSize Tryz.prog 23 1 := ⟨by kernel_rfl⟩
instance : CNotAgg Tryz.prog 23 := ⟨by kernel_rfl⟩
instance : CIsSlice Tryz.prog 23 := ⟨by kernel_rfl⟩
instance : CZero Tryz.prog 23 (.slice none 0 0) := ⟨by kernel_rfl⟩
instance : CBytes Tryz.prog 23 24 := ⟨by kernel_rfl⟩
instance : CSlice Tryz.prog 24 113 7 := ⟨by kernel_rfl⟩
instance : CSize Tryz.prog 24 1 := ⟨by kernel_rfl⟩
instance : CNotAgg Tryz.prog 24 := ⟨by kernel_rfl⟩
instance : CIsSlice Tryz.prog 24 := ⟨by kernel_rfl⟩
instance : CZero Tryz.prog 24 (.slice none 0 0) := ⟨by kernel_rfl⟩
instance : CBytes Tryz.prog 24 24 := ⟨by kernel_rfl⟩
instance : CSlice Tryz.prog 25 115 3 := ⟨by kernel_rfl⟩
instance : CSize Tryz.prog 25 1 := ⟨by kernel_rfl⟩
instance : CNotAgg Tryz.prog 25 := ⟨by kernel_rfl⟩
instance : CIsSlice Tryz.prog 25 := ⟨by kernel_rfl⟩
instance : CZero Tryz.prog 25 (.slice none 0 0) := ⟨by kernel_rfl⟩
instance : CBytes Tryz.prog 25 24 := ⟨by kernel_rfl⟩
instance : CSlice Tryz.prog 26 163 6 := ⟨by kernel_rfl⟩
instance : CSize Tryz.prog 26 1 := ⟨by kernel_rfl⟩
instance : CNotAgg Tryz.prog 26 := ⟨by kernel_rfl⟩
instance : CIsSlice Tryz.prog 26 := ⟨by kernel_rfl⟩
instance : CZero Tryz.prog 26 (.slice none 0 0) := ⟨by kernel_rfl⟩
instance : CBytes Tryz.prog 26 24 := ⟨by kernel_rfl⟩
instance : CSlice Tryz.prog 27 55 5 := ⟨by kernel_rfl⟩
instance : CSize Tryz.prog 27 1 := ⟨by kernel_rfl⟩
instance : CNotAgg Tryz.prog 27 := ⟨by kernel_rfl⟩
instance : CIsSlice Tryz.prog 27 := ⟨by kernel_rfl⟩
instance : CZero Tryz.prog 27 (.slice none 0 0) := ⟨by kernel_rfl⟩
instance : CBytes Tryz.prog 27 24 := ⟨by kernel_rfl⟩
instance : CAgg Tryz.prog 28 7 := ⟨by kernel_rfl⟩
instance : CSize Tryz.prog 28 7 := ⟨by kernel_rfl⟩
instance : CZero Tryz.prog 28 (.agg #[.string ⟨#[]⟩, .slice none 0 0, .slice none 0 0, .slice none 0 0, .slice none 0 0, .slice none 0 0, .slice none 0 0]) := ⟨by kernel_rfl⟩
instance : CBytes Tryz.prog 28 160 := ⟨by kernel_rfl⟩
instance : CPlaces Tryz.prog 28 [(0, 1), (1, 1), (2, 1), (3, 1), (4, 1), (5, 1), (6, 1)] := ⟨by kernel_rfl⟩
instance : CField Tryz.prog 28 0 0 := ⟨by kernel_rfl⟩
instance : CField Tryz.prog 28 1 1 := ⟨by kernel_rfl⟩
instance : CField Tryz.prog 28 2 2 := ⟨by kernel_rfl⟩
instance : CField Tryz.prog 28 3 3 := ⟨by kernel_rfl⟩
instance : CField Tryz.prog 28 4 4 := ⟨by kernel_rfl⟩
instance : CField Tryz.prog 28 5 5 := ⟨by kernel_rfl⟩
instance : CField Tryz.prog 28 6 6 := ⟨by kernel_rfl⟩
instance : CAgg Tryz.prog 29 7 := ⟨by kernel_rfl⟩
instance : CSize Tryz.prog 29 7 := ⟨by kernel_rfl⟩
instance : CZero Tryz.prog 29 (.agg #[.string ⟨#[]⟩, .slice none 0 0, .slice none 0 0, .slice none 0 0, .slice none 0 0, .slice none 0 0, .slice none 0 0]) := ⟨by kernel_rfl⟩
instance : CBytes Tryz.prog 29 160 := ⟨by kernel_rfl⟩
instance : CPlaces Tryz.prog 29 [(0, 1), (1, 1), (2, 1), (3, 1), (4, 1), (5, 1), (6, 1)] := ⟨by kernel_rfl⟩
instance : CField Tryz.prog 29 0 0 := ⟨by kernel_rfl⟩
instance : CField Tryz.prog 29 1 1 := ⟨by kernel_rfl⟩
instance : CField Tryz.prog 29 2 2 := ⟨by kernel_rfl⟩
instance : CField Tryz.prog 29 3 3 := ⟨by kernel_rfl⟩
instance : CField Tryz.prog 29 4 4 := ⟨by kernel_rfl⟩
instance : CField Tryz.prog 29 5 5 := ⟨by kernel_rfl⟩
instance : CField Tryz.prog 29 6 6 := ⟨by kernel_rfl⟩
instance : CSlice Tryz.prog 30 44 6 := ⟨by kernel_rfl⟩
instance : CSize Tryz.prog 30 1 := ⟨by kernel_rfl⟩
instance : CNotAgg Tryz.prog 30 := ⟨by kernel_rfl⟩
instance : CIsSlice Tryz.prog 30 := ⟨by kernel_rfl⟩
instance : CZero Tryz.prog 30 (.slice none 0 0) := ⟨by kernel_rfl⟩
instance : CBytes Tryz.prog 30 24 := ⟨by kernel_rfl⟩
instance : CSlice Tryz.prog 31 85 2 := ⟨by kernel_rfl⟩
instance : CSize Tryz.prog 31 1 := ⟨by kernel_rfl⟩
instance : CNotAgg Tryz.prog 31 := ⟨by kernel_rfl⟩
instance : CIsSlice Tryz.prog 31 := ⟨by kernel_rfl⟩
instance : CZero Tryz.prog 31 (.slice none 0 0) := ⟨by kernel_rfl⟩
instance : CBytes Tryz.prog 31 24 := ⟨by kernel_rfl⟩
instance : CSlice Tryz.prog 32 51 4 := ⟨by kernel_rfl⟩
instance : CSize Tryz.prog 32 1 := ⟨by kernel_rfl⟩
instance : CNotAgg Tryz.prog 32 := ⟨by kernel_rfl⟩
instance : CIsSlice Tryz.prog 32 := ⟨by kernel_rfl⟩
instance : CZero Tryz.prog 32 (.slice none 0 0) := ⟨by kernel_rfl⟩
instance : CBytes Tryz.prog 32 24 := ⟨by kernel_rfl⟩
instance : CAgg Tryz.prog 33 10 := ⟨by kernel_rfl⟩
instance : CSize Tryz.prog 33 10 := ⟨by kernel_rfl⟩
instance : CZero Tryz.prog 33 (.agg #[.string ⟨#[]⟩, .slice none 0 0, .slice none 0 0, .slice none 0 0, .slice none 0 0, .slice none 0 0, .slice none 0 0, .slice none 0 0, .slice none 0 0, .slice none 0 0]) := ⟨by kernel_rfl⟩
instance : CBytes Tryz.prog 33 232 := ⟨by kernel_rfl⟩
instance : CPlaces Tryz.prog 33 [(0, 7), (7, 1), (8, 1), (9, 1)] := ⟨by kernel_rfl⟩
instance : CField Tryz.prog 33 0 0 := ⟨by kernel_rfl⟩
instance : CField Tryz.prog 33 1 7 := ⟨by kernel_rfl⟩
instance : CField Tryz.prog 33 2 8 := ⟨by kernel_rfl⟩
instance : CField Tryz.prog 33 3 9 := ⟨by kernel_rfl⟩
instance : CAgg Tryz.prog 34 10 := ⟨by kernel_rfl⟩
instance : CSize Tryz.prog 34 10 := ⟨by kernel_rfl⟩
instance : CZero Tryz.prog 34 (.agg #[.string ⟨#[]⟩, .slice none 0 0, .slice none 0 0, .slice none 0 0, .slice none 0 0, .slice none 0 0, .slice none 0 0, .slice none 0 0, .slice none 0 0, .slice none 0 0]) := ⟨by kernel_rfl⟩
instance : CBytes Tryz.prog 34 232 := ⟨by kernel_rfl⟩
instance : CPlaces Tryz.prog 34 [(0, 7), (7, 1), (8, 1), (9, 1)] := ⟨by kernel_rfl⟩
instance : CField Tryz.prog 34 0 0 := ⟨by kernel_rfl⟩
instance : CField Tryz.prog 34 1 7 := ⟨by kernel_rfl⟩
instance : CField Tryz.prog 34 2 8 := ⟨by kernel_rfl⟩
instance : CField Tryz.prog 34 3 9 := ⟨by kernel_rfl⟩
instance : CAgg Tryz.prog 35 2 := ⟨by kernel_rfl⟩
instance : CSize Tryz.prog 35 2 := ⟨by kernel_rfl⟩
instance : CZero Tryz.prog 35 (.agg #[.int .i64 0, .int .i64 0]) := ⟨by kernel_rfl⟩
instance : CBytes Tryz.prog 35 16 := ⟨by kernel_rfl⟩
instance : CPlaces Tryz.prog 35 [(0, 1), (1, 1)] := ⟨by kernel_rfl⟩
instance : CField Tryz.prog 35 0 0 := ⟨by kernel_rfl⟩
instance : CField Tryz.prog 35 1 1 := ⟨by kernel_rfl⟩
instance : CAgg Tryz.prog 36 2 := ⟨by kernel_rfl⟩
instance : CSize Tryz.prog 36 2 := ⟨by kernel_rfl⟩
instance : CZero Tryz.prog 36 (.agg #[.int .i64 0, .int .i64 0]) := ⟨by kernel_rfl⟩
instance : CBytes Tryz.prog 36 16 := ⟨by kernel_rfl⟩
instance : CPlaces Tryz.prog 36 [(0, 1), (1, 1)] := ⟨by kernel_rfl⟩
instance : CField Tryz.prog 36 0 0 := ⟨by kernel_rfl⟩
instance : CField Tryz.prog 36 1 1 := ⟨by kernel_rfl⟩
instance : CSize Tryz.prog 37 1 := ⟨by kernel_rfl⟩
instance : CNotAgg Tryz.prog 37 := ⟨by kernel_rfl⟩
instance : CBytes Tryz.prog 37 8 := ⟨by kernel_rfl⟩
instance : CSize Tryz.prog 38 1 := ⟨by kernel_rfl⟩
instance : CNotAgg Tryz.prog 38 := ⟨by kernel_rfl⟩
instance : CZero Tryz.prog 38 (.int .i64 0) := ⟨by kernel_rfl⟩
instance : CBytes Tryz.prog 38 8 := ⟨by kernel_rfl⟩
instance : CInt Tryz.prog 38 .i64 := ⟨by kernel_rfl⟩
instance : CSize Tryz.prog 39 1 := ⟨by kernel_rfl⟩
instance : CNotAgg Tryz.prog 39 := ⟨by kernel_rfl⟩
instance : CZero Tryz.prog 39 (.tuple #[.slice none 0 0, .int .i64 0]) := ⟨by kernel_rfl⟩
instance : CBytes Tryz.prog 39 0 := ⟨by kernel_rfl⟩
instance : CSize Tryz.prog 40 1 := ⟨by kernel_rfl⟩
instance : CNotAgg Tryz.prog 40 := ⟨by kernel_rfl⟩
instance : CBytes Tryz.prog 40 8 := ⟨by kernel_rfl⟩
instance : CSize Tryz.prog 41 1 := ⟨by kernel_rfl⟩
instance : CNotAgg Tryz.prog 41 := ⟨by kernel_rfl⟩
instance : CBytes Tryz.prog 41 8 := ⟨by kernel_rfl⟩
instance : CSlice Tryz.prog 42 46 3 := ⟨by kernel_rfl⟩
instance : CSize Tryz.prog 42 1 := ⟨by kernel_rfl⟩
instance : CNotAgg Tryz.prog 42 := ⟨by kernel_rfl⟩
instance : CIsSlice Tryz.prog 42 := ⟨by kernel_rfl⟩
instance : CZero Tryz.prog 42 (.slice none 0 0) := ⟨by kernel_rfl⟩
instance : CBytes Tryz.prog 42 24 := ⟨by kernel_rfl⟩
instance : CAgg Tryz.prog 43 6 := ⟨by kernel_rfl⟩
instance : CSize Tryz.prog 43 6 := ⟨by kernel_rfl⟩
instance : CZero Tryz.prog 43 (.agg #[.int .i64 0, .int .i64 0, .int .i64 0, .int .i64 0, .int .i64 0, .int .i64 0]) := ⟨by kernel_rfl⟩
instance : CBytes Tryz.prog 43 48 := ⟨by kernel_rfl⟩
instance : CPlaces Tryz.prog 43 [(0, 1), (1, 1), (2, 1), (3, 1), (4, 1), (5, 1)] := ⟨by kernel_rfl⟩
instance : CField Tryz.prog 43 0 0 := ⟨by kernel_rfl⟩
instance : CField Tryz.prog 43 1 1 := ⟨by kernel_rfl⟩
instance : CField Tryz.prog 43 2 2 := ⟨by kernel_rfl⟩
instance : CField Tryz.prog 43 3 3 := ⟨by kernel_rfl⟩
instance : CField Tryz.prog 43 4 4 := ⟨by kernel_rfl⟩
instance : CField Tryz.prog 43 5 5 := ⟨by kernel_rfl⟩
instance : CAgg Tryz.prog 44 6 := ⟨by kernel_rfl⟩
instance : CSize Tryz.prog 44 6 := ⟨by kernel_rfl⟩
instance : CZero Tryz.prog 44 (.agg #[.int .i64 0, .int .i64 0, .int .i64 0, .int .i64 0, .int .i64 0, .int .i64 0]) := ⟨by kernel_rfl⟩
instance : CBytes Tryz.prog 44 48 := ⟨by kernel_rfl⟩
instance : CPlaces Tryz.prog 44 [(0, 1), (1, 1), (2, 1), (3, 1), (4, 1), (5, 1)] := ⟨by kernel_rfl⟩
instance : CField Tryz.prog 44 0 0 := ⟨by kernel_rfl⟩
instance : CField Tryz.prog 44 1 1 := ⟨by kernel_rfl⟩
instance : CField Tryz.prog 44 2 2 := ⟨by kernel_rfl⟩
instance : CField Tryz.prog 44 3 3 := ⟨by kernel_rfl⟩
instance : CField Tryz.prog 44 4 4 := ⟨by kernel_rfl⟩
instance : CField Tryz.prog 44 5 5 := ⟨by kernel_rfl⟩
instance : CAgg Tryz.prog 45 3 := ⟨by kernel_rfl⟩
instance : CSize Tryz.prog 45 3 := ⟨by kernel_rfl⟩
instance : CZero Tryz.prog 45 (.agg #[.int .i64 0, .int .i64 0, .int .i64 0]) := ⟨by kernel_rfl⟩
instance : CBytes Tryz.prog 45 24 := ⟨by kernel_rfl⟩
instance : CPlaces Tryz.prog 45 [(0, 1), (1, 1), (2, 1)] := ⟨by kernel_rfl⟩
instance : CField Tryz.prog 45 0 0 := ⟨by kernel_rfl⟩
instance : CField Tryz.prog 45 1 1 := ⟨by kernel_rfl⟩
instance : CField Tryz.prog 45 2 2 := ⟨by kernel_rfl⟩
instance : CAgg Tryz.prog 46 3 := ⟨by kernel_rfl⟩
instance : CSize Tryz.prog 46 3 := ⟨by kernel_rfl⟩
instance : CZero Tryz.prog 46 (.agg #[.int .i64 0, .int .i64 0, .int .i64 0]) := ⟨by kernel_rfl⟩
instance : CBytes Tryz.prog 46 24 := ⟨by kernel_rfl⟩
instance : CPlaces Tryz.prog 46 [(0, 1), (1, 1), (2, 1)] := ⟨by kernel_rfl⟩
instance : CField Tryz.prog 46 0 0 := ⟨by kernel_rfl⟩
instance : CField Tryz.prog 46 1 1 := ⟨by kernel_rfl⟩
instance : CField Tryz.prog 46 2 2 := ⟨by kernel_rfl⟩
instance : CSlice Tryz.prog 47 57 5 := ⟨by kernel_rfl⟩
instance : CSize Tryz.prog 47 1 := ⟨by kernel_rfl⟩
instance : CNotAgg Tryz.prog 47 := ⟨by kernel_rfl⟩
instance : CIsSlice Tryz.prog 47 := ⟨by kernel_rfl⟩
instance : CZero Tryz.prog 47 (.slice none 0 0) := ⟨by kernel_rfl⟩
instance : CBytes Tryz.prog 47 24 := ⟨by kernel_rfl⟩
instance : CSize Tryz.prog 48 1 := ⟨by kernel_rfl⟩
instance : CNotAgg Tryz.prog 48 := ⟨by kernel_rfl⟩
instance : CZero Tryz.prog 48 (.tuple #[.slice none 0 0, .slice none 0 0, .int .i64 0]) := ⟨by kernel_rfl⟩
instance : CBytes Tryz.prog 48 0 := ⟨by kernel_rfl⟩
instance : CSize Tryz.prog 49 1 := ⟨by kernel_rfl⟩
instance : CNotAgg Tryz.prog 49 := ⟨by kernel_rfl⟩
instance : CBytes Tryz.prog 49 8 := ⟨by kernel_rfl⟩
instance : CAgg Tryz.prog 50 4 := ⟨by kernel_rfl⟩
instance : CSize Tryz.prog 50 4 := ⟨by kernel_rfl⟩
instance : CZero Tryz.prog 50 (.agg #[.int .i64 0, .int .i64 0, .int .i64 0, .int .i64 0]) := ⟨by kernel_rfl⟩
instance : CBytes Tryz.prog 50 32 := ⟨by kernel_rfl⟩
instance : CPlaces Tryz.prog 50 [(0, 1), (1, 1), (2, 1), (3, 1)] := ⟨by kernel_rfl⟩
instance : CField Tryz.prog 50 0 0 := ⟨by kernel_rfl⟩
instance : CField Tryz.prog 50 1 1 := ⟨by kernel_rfl⟩
instance : CField Tryz.prog 50 2 2 := ⟨by kernel_rfl⟩
instance : CField Tryz.prog 50 3 3 := ⟨by kernel_rfl⟩
instance : CAgg Tryz.prog 51 4 := ⟨by kernel_rfl⟩
instance : CSize Tryz.prog 51 4 := ⟨by kernel_rfl⟩
instance : CZero Tryz.prog 51 (.agg #[.int .i64 0, .int .i64 0, .int .i64 0, .int .i64 0]) := ⟨by kernel_rfl⟩
instance : CBytes Tryz.prog 51 32 := ⟨by kernel_rfl⟩
instance : CPlaces Tryz.prog 51 [(0, 1), (1, 1), (2, 1), (3, 1)] := ⟨by kernel_rfl⟩
instance : CField Tryz.prog 51 0 0 := ⟨by kernel_rfl⟩
instance : CField Tryz.prog 51 1 1 := ⟨by kernel_rfl⟩
instance : CField Tryz.prog 51 2 2 := ⟨by kernel_rfl⟩
instance : CField Tryz.prog 51 3 3 := ⟨by kernel_rfl⟩
instance : CSize Tryz.prog 52 1 := ⟨by kernel_rfl⟩
instance : CNotAgg Tryz.prog 52 := ⟨by kernel_rfl⟩
instance : CZero Tryz.prog 52 (.tuple #[.int .i64 0, .int .i64 0]) := ⟨by kernel_rfl⟩
instance : CBytes Tryz.prog 52 0 := ⟨by kernel_rfl⟩
instance : CSize Tryz.prog 53 1 := ⟨by kernel_rfl⟩
instance : CNotAgg Tryz.prog 53 := ⟨by kernel_rfl⟩
instance : CBytes Tryz.prog 53 8 := ⟨by kernel_rfl⟩
instance : CAgg Tryz.prog 54 5 := ⟨by kernel_rfl⟩
instance : CSize Tryz.prog 54 5 := ⟨by kernel_rfl⟩
instance : CZero Tryz.prog 54 (.agg #[.string ⟨#[]⟩, .int .i64 0, .int .i64 0, .slice none 0 0, .slice none 0 0]) := ⟨by kernel_rfl⟩
instance : CBytes Tryz.prog 54 80 := ⟨by kernel_rfl⟩
instance : CPlaces Tryz.prog 54 [(0, 1), (1, 1), (2, 1), (3, 1), (4, 1)] := ⟨by kernel_rfl⟩
instance : CField Tryz.prog 54 0 0 := ⟨by kernel_rfl⟩
instance : CField Tryz.prog 54 1 1 := ⟨by kernel_rfl⟩
instance : CField Tryz.prog 54 2 2 := ⟨by kernel_rfl⟩
instance : CField Tryz.prog 54 3 3 := ⟨by kernel_rfl⟩
instance : CField Tryz.prog 54 4 4 := ⟨by kernel_rfl⟩
instance : CAgg Tryz.prog 55 5 := ⟨by kernel_rfl⟩
instance : CSize Tryz.prog 55 5 := ⟨by kernel_rfl⟩
instance : CZero Tryz.prog 55 (.agg #[.string ⟨#[]⟩, .int .i64 0, .int .i64 0, .slice none 0 0, .slice none 0 0]) := ⟨by kernel_rfl⟩
instance : CBytes Tryz.prog 55 80 := ⟨by kernel_rfl⟩
instance : CPlaces Tryz.prog 55 [(0, 1), (1, 1), (2, 1), (3, 1), (4, 1)] := ⟨by kernel_rfl⟩
instance : CField Tryz.prog 55 0 0 := ⟨by kernel_rfl⟩
instance : CField Tryz.prog 55 1 1 := ⟨by kernel_rfl⟩
instance : CField Tryz.prog 55 2 2 := ⟨by kernel_rfl⟩
instance : CField Tryz.prog 55 3 3 := ⟨by kernel_rfl⟩
instance : CField Tryz.prog 55 4 4 := ⟨by kernel_rfl⟩
instance : CAgg Tryz.prog 56 5 := ⟨by kernel_rfl⟩
instance : CSize Tryz.prog 56 5 := ⟨by kernel_rfl⟩
instance : CZero Tryz.prog 56 (.agg #[.int .i64 0, .int .i64 0, .int .i64 0, .int .i64 0, .int .i64 0]) := ⟨by kernel_rfl⟩
instance : CBytes Tryz.prog 56 40 := ⟨by kernel_rfl⟩
instance : CPlaces Tryz.prog 56 [(0, 1), (1, 1), (2, 1), (3, 1), (4, 1)] := ⟨by kernel_rfl⟩
instance : CField Tryz.prog 56 0 0 := ⟨by kernel_rfl⟩
instance : CField Tryz.prog 56 1 1 := ⟨by kernel_rfl⟩
instance : CField Tryz.prog 56 2 2 := ⟨by kernel_rfl⟩
instance : CField Tryz.prog 56 3 3 := ⟨by kernel_rfl⟩
instance : CField Tryz.prog 56 4 4 := ⟨by kernel_rfl⟩
instance : CAgg Tryz.prog 57 5 := ⟨by kernel_rfl⟩
instance : CSize Tryz.prog 57 5 := ⟨by kernel_rfl⟩
instance : CZero Tryz.prog 57 (.agg #[.int .i64 0, .int .i64 0, .int .i64 0, .int .i64 0, .int .i64 0]) := ⟨by kernel_rfl⟩
instance : CBytes Tryz.prog 57 40 := ⟨by kernel_rfl⟩
instance : CPlaces Tryz.prog 57 [(0, 1), (1, 1), (2, 1), (3, 1), (4, 1)] := ⟨by kernel_rfl⟩
instance : CField Tryz.prog 57 0 0 := ⟨by kernel_rfl⟩
instance : CField Tryz.prog 57 1 1 := ⟨by kernel_rfl⟩
instance : CField Tryz.prog 57 2 2 := ⟨by kernel_rfl⟩
instance : CField Tryz.prog 57 3 3 := ⟨by kernel_rfl⟩
instance : CField Tryz.prog 57 4 4 := ⟨by kernel_rfl⟩
instance : CSize Tryz.prog 58 1 := ⟨by kernel_rfl⟩
instance : CNotAgg Tryz.prog 58 := ⟨by kernel_rfl⟩
instance : CBytes Tryz.prog 58 8 := ⟨by kernel_rfl⟩
instance : CSize Tryz.prog 59 1 := ⟨by kernel_rfl⟩
instance : CNotAgg Tryz.prog 59 := ⟨by kernel_rfl⟩
instance : CBytes Tryz.prog 59 8 := ⟨by kernel_rfl⟩
instance : CSlice Tryz.prog 60 90 3 := ⟨by kernel_rfl⟩
instance : CSize Tryz.prog 60 1 := ⟨by kernel_rfl⟩
instance : CNotAgg Tryz.prog 60 := ⟨by kernel_rfl⟩
instance : CIsSlice Tryz.prog 60 := ⟨by kernel_rfl⟩
instance : CZero Tryz.prog 60 (.slice none 0 0) := ⟨by kernel_rfl⟩
instance : CBytes Tryz.prog 60 24 := ⟨by kernel_rfl⟩
instance : CSize Tryz.prog 61 1 := ⟨by kernel_rfl⟩
instance : CNotAgg Tryz.prog 61 := ⟨by kernel_rfl⟩
instance : CZero Tryz.prog 61 (.tuple #[.slice none 0 0, .int .i64 0]) := ⟨by kernel_rfl⟩
instance : CBytes Tryz.prog 61 0 := ⟨by kernel_rfl⟩
instance : CSize Tryz.prog 62 1 := ⟨by kernel_rfl⟩
instance : CNotAgg Tryz.prog 62 := ⟨by kernel_rfl⟩
instance : CBytes Tryz.prog 62 8 := ⟨by kernel_rfl⟩
instance : CSize Tryz.prog 63 1 := ⟨by kernel_rfl⟩
instance : CNotAgg Tryz.prog 63 := ⟨by kernel_rfl⟩
instance : CBytes Tryz.prog 63 8 := ⟨by kernel_rfl⟩
instance : CAgg Tryz.prog 64 12 := ⟨by kernel_rfl⟩
instance : CSize Tryz.prog 64 12 := ⟨by kernel_rfl⟩
instance : CZero Tryz.prog 64 (.agg #[.string ⟨#[]⟩, .slice none 0 0, .slice none 0 0, .slice none 0 0, .slice none 0 0, .slice none 0 0, .slice none 0 0, .slice none 0 0, .slice none 0 0, .slice none 0 0, .int .i64 0, .int .i64 0]) := ⟨by kernel_rfl⟩
instance : CBytes Tryz.prog 64 248 := ⟨by kernel_rfl⟩
instance : CPlaces Tryz.prog 64 [(0, 7), (7, 1), (8, 1), (9, 1), (10, 2)] := ⟨by kernel_rfl⟩
instance : CField Tryz.prog 64 0 0 := ⟨by kernel_rfl⟩
instance : CField Tryz.prog 64 1 7 := ⟨by kernel_rfl⟩
instance : CField Tryz.prog 64 2 8 := ⟨by kernel_rfl⟩
instance : CField Tryz.prog 64 3 9 := ⟨by kernel_rfl⟩
instance : CField Tryz.prog 64 4 10 := ⟨by kernel_rfl⟩
instance : CAgg Tryz.prog 65 12 := ⟨by kernel_rfl⟩
instance : CSize Tryz.prog 65 12 := ⟨by kernel_rfl⟩
instance : CZero Tryz.prog 65 (.agg #[.string ⟨#[]⟩, .slice none 0 0, .slice none 0 0, .slice none 0 0, .slice none 0 0, .slice none 0 0, .slice none 0 0, .slice none 0 0, .slice none 0 0, .slice none 0 0, .int .i64 0, .int .i64 0]) := ⟨by kernel_rfl⟩
instance : CBytes Tryz.prog 65 248 := ⟨by kernel_rfl⟩
instance : CPlaces Tryz.prog 65 [(0, 7), (7, 1), (8, 1), (9, 1), (10, 2)] := ⟨by kernel_rfl⟩
instance : CField Tryz.prog 65 0 0 := ⟨by kernel_rfl⟩
instance : CField Tryz.prog 65 1 7 := ⟨by kernel_rfl⟩
instance : CField Tryz.prog 65 2 8 := ⟨by kernel_rfl⟩
instance : CField Tryz.prog 65 3 9 := ⟨by kernel_rfl⟩
instance : CField Tryz.prog 65 4 10 := ⟨by kernel_rfl⟩
instance : CSize Tryz.prog 66 1 := ⟨by kernel_rfl⟩
instance : CNotAgg Tryz.prog 66 := ⟨by kernel_rfl⟩
instance : CBytes Tryz.prog 66 8 := ⟨by kernel_rfl⟩
instance : CSize Tryz.prog 67 1 := ⟨by kernel_rfl⟩
instance : CNotAgg Tryz.prog 67 := ⟨by kernel_rfl⟩
instance : CBytes Tryz.prog 67 8 := ⟨by kernel_rfl⟩
instance : CSize Tryz.prog 68 1 := ⟨by kernel_rfl⟩
instance : CNotAgg Tryz.prog 68 := ⟨by kernel_rfl⟩
instance : CBytes Tryz.prog 68 8 := ⟨by kernel_rfl⟩
instance : CSize Tryz.prog 69 1 := ⟨by kernel_rfl⟩
instance : CNotAgg Tryz.prog 69 := ⟨by kernel_rfl⟩
instance : CBytes Tryz.prog 69 8 := ⟨by kernel_rfl⟩
instance : CSize Tryz.prog 70 1 := ⟨by kernel_rfl⟩
instance : CNotAgg Tryz.prog 70 := ⟨by kernel_rfl⟩
instance : CBytes Tryz.prog 70 8 := ⟨by kernel_rfl⟩
instance : CSize Tryz.prog 71 1 := ⟨by kernel_rfl⟩
instance : CNotAgg Tryz.prog 71 := ⟨by kernel_rfl⟩
instance : CBytes Tryz.prog 71 8 := ⟨by kernel_rfl⟩
instance : CSize Tryz.prog 72 1 := ⟨by kernel_rfl⟩
instance : CNotAgg Tryz.prog 72 := ⟨by kernel_rfl⟩
instance : CBytes Tryz.prog 72 8 := ⟨by kernel_rfl⟩
instance : CSize Tryz.prog 73 1 := ⟨by kernel_rfl⟩
instance : CNotAgg Tryz.prog 73 := ⟨by kernel_rfl⟩
instance : CBytes Tryz.prog 73 8 := ⟨by kernel_rfl⟩
instance : CSize Tryz.prog 74 1 := ⟨by kernel_rfl⟩
instance : CNotAgg Tryz.prog 74 := ⟨by kernel_rfl⟩
instance : CZero Tryz.prog 74 (.tuple #[.slice none 0 0, .int .i64 0]) := ⟨by kernel_rfl⟩
instance : CBytes Tryz.prog 74 0 := ⟨by kernel_rfl⟩
instance : CSize Tryz.prog 75 1 := ⟨by kernel_rfl⟩
instance : CNotAgg Tryz.prog 75 := ⟨by kernel_rfl⟩
instance : CBytes Tryz.prog 75 8 := ⟨by kernel_rfl⟩
instance : CAgg Tryz.prog 76 2 := ⟨by kernel_rfl⟩
instance : CArr Tryz.prog 76 2 1 := ⟨by kernel_rfl⟩
instance : CSize Tryz.prog 76 2 := ⟨by kernel_rfl⟩
instance : CZero Tryz.prog 76 (.agg #[.int .i64 0, .int .i64 0]) := ⟨by kernel_rfl⟩
instance : CBytes Tryz.prog 76 16 := ⟨by kernel_rfl⟩
instance : CAgg Tryz.prog 77 3 := ⟨by kernel_rfl⟩
instance : CSize Tryz.prog 77 3 := ⟨by kernel_rfl⟩
instance : CZero Tryz.prog 77 (.agg #[.slice none 0 0, .slice none 0 0, .slice none 0 0]) := ⟨by kernel_rfl⟩
instance : CBytes Tryz.prog 77 72 := ⟨by kernel_rfl⟩
instance : CPlaces Tryz.prog 77 [(0, 1), (1, 1), (2, 1)] := ⟨by kernel_rfl⟩
instance : CField Tryz.prog 77 0 0 := ⟨by kernel_rfl⟩
instance : CField Tryz.prog 77 1 1 := ⟨by kernel_rfl⟩
instance : CField Tryz.prog 77 2 2 := ⟨by kernel_rfl⟩
instance : CAgg Tryz.prog 78 3 := ⟨by kernel_rfl⟩
instance : CSize Tryz.prog 78 3 := ⟨by kernel_rfl⟩
instance : CZero Tryz.prog 78 (.agg #[.slice none 0 0, .slice none 0 0, .slice none 0 0]) := ⟨by kernel_rfl⟩
instance : CBytes Tryz.prog 78 72 := ⟨by kernel_rfl⟩
instance : CPlaces Tryz.prog 78 [(0, 1), (1, 1), (2, 1)] := ⟨by kernel_rfl⟩
instance : CField Tryz.prog 78 0 0 := ⟨by kernel_rfl⟩
instance : CField Tryz.prog 78 1 1 := ⟨by kernel_rfl⟩
instance : CField Tryz.prog 78 2 2 := ⟨by kernel_rfl⟩
instance : CSize Tryz.prog 79 1 := ⟨by kernel_rfl⟩
instance : CNotAgg Tryz.prog 79 := ⟨by kernel_rfl⟩
instance : CZero Tryz.prog 79 (.map none) := ⟨by kernel_rfl⟩
instance : CBytes Tryz.prog 79 8 := ⟨by kernel_rfl⟩
instance : CMap Tryz.prog 79 46 4 := ⟨by kernel_rfl⟩
instance : CSize Tryz.prog 80 1 := ⟨by kernel_rfl⟩
instance : CNotAgg Tryz.prog 80 := ⟨by kernel_rfl⟩
instance : CZero Tryz.prog 80 (.tuple #[.int .i64 0, .agg #[.int .i64 0, .int .i64 0, .int .i64 0, .int .i64 0, .int .i64 0, .int .i64 0], .int .i64 0]) := ⟨by kernel_rfl⟩
instance : CBytes Tryz.prog 80 0 := ⟨by kernel_rfl⟩
instance : CSize Tryz.prog 81 1 := ⟨by kernel_rfl⟩
instance : CNotAgg Tryz.prog 81 := ⟨by kernel_rfl⟩
instance : CBytes Tryz.prog 81 8 := ⟨by kernel_rfl⟩
instance : CSize Tryz.prog 82 1 := ⟨by kernel_rfl⟩
instance : CNotAgg Tryz.prog 82 := ⟨by kernel_rfl⟩
instance : CBytes Tryz.prog 82 8 := ⟨by kernel_rfl⟩
instance : CSize Tryz.prog 83 1 := ⟨by kernel_rfl⟩
instance : CNotAgg Tryz.prog 83 := ⟨by kernel_rfl⟩
instance : CBytes Tryz.prog 83 8 := ⟨by kernel_rfl⟩
instance : CAgg Tryz.prog 84 2 := ⟨by kernel_rfl⟩
instance : CSize Tryz.prog 84 2 := ⟨by kernel_rfl⟩
instance : CZero Tryz.prog 84 (.agg #[.string ⟨#[]⟩, .slice none 0 0]) := ⟨by kernel_rfl⟩
instance : CBytes Tryz.prog 84 40 := ⟨by kernel_rfl⟩
instance : CPlaces Tryz.prog 84 [(0, 1), (1, 1)] := ⟨by kernel_rfl⟩
instance : CField Tryz.prog 84 0 0 := ⟨by kernel_rfl⟩
instance : CField Tryz.prog 84 1 1 := ⟨by kernel_rfl⟩
instance : CAgg Tryz.prog 85 2 := ⟨by kernel_rfl⟩
instance : CSize Tryz.prog 85 2 := ⟨by kernel_rfl⟩
instance : CZero Tryz.prog 85 (.agg #[.string ⟨#[]⟩, .slice none 0 0]) := ⟨by kernel_rfl⟩
instance : CBytes Tryz.prog 85 40 := ⟨by kernel_rfl⟩
instance : CPlaces Tryz.prog 85 [(0, 1), (1, 1)] := ⟨by kernel_rfl⟩
instance : CField Tryz.prog 85 0 0 := ⟨by kernel_rfl⟩
instance : CField Tryz.prog 85 1 1 := ⟨by kernel_rfl⟩
instance : CSize Tryz.prog 86 1 := ⟨by kernel_rfl⟩
instance : CNotAgg Tryz.prog 86 := ⟨by kernel_rfl⟩
instance : CBytes Tryz.prog 86 8 := ⟨by kernel_rfl⟩
instance : CSize Tryz.prog 87 1 := ⟨by kernel_rfl⟩
instance : CNotAgg Tryz.prog 87 := ⟨by kernel_rfl⟩
instance : CZero Tryz.prog 87 (.tuple #[.int .i64 0, .int .i64 0, .int .i64 0]) := ⟨by kernel_rfl⟩
instance : CBytes Tryz.prog 87 0 := ⟨by kernel_rfl⟩
instance : CSize Tryz.prog 88 1 := ⟨by kernel_rfl⟩
instance : CNotAgg Tryz.prog 88 := ⟨by kernel_rfl⟩
instance : CBytes Tryz.prog 88 8 := ⟨by kernel_rfl⟩
instance : CAgg Tryz.prog 89 3 := ⟨by kernel_rfl⟩
instance : CSize Tryz.prog 89 3 := ⟨by kernel_rfl⟩
instance : CZero Tryz.prog 89 (.agg #[.int .i64 0, .int .i64 0, .int .i64 0]) := ⟨by kernel_rfl⟩
instance : CBytes Tryz.prog 89 24 := ⟨by kernel_rfl⟩
instance : CPlaces Tryz.prog 89 [(0, 1), (1, 1), (2, 1)] := ⟨by kernel_rfl⟩
instance : CField Tryz.prog 89 0 0 := ⟨by kernel_rfl⟩
instance : CField Tryz.prog 89 1 1 := ⟨by kernel_rfl⟩
instance : CField Tryz.prog 89 2 2 := ⟨by kernel_rfl⟩
instance : CAgg Tryz.prog 90 3 := ⟨by kernel_rfl⟩
instance : CSize Tryz.prog 90 3 := ⟨by kernel_rfl⟩
instance : CZero Tryz.prog 90 (.agg #[.int .i64 0, .int .i64 0, .int .i64 0]) := ⟨by kernel_rfl⟩
instance : CBytes Tryz.prog 90 24 := ⟨by kernel_rfl⟩
instance : CPlaces Tryz.prog 90 [(0, 1), (1, 1), (2, 1)] := ⟨by kernel_rfl⟩
instance : CField Tryz.prog 90 0 0 := ⟨by kernel_rfl⟩
instance : CField Tryz.prog 90 1 1 := ⟨by kernel_rfl⟩
instance : CField Tryz.prog 90 2 2 := ⟨by kernel_rfl⟩
instance : CSize Tryz.prog 91 1 := ⟨by kernel_rfl⟩
instance : CNotAgg Tryz.prog 91 := ⟨by kernel_rfl⟩
instance : CZero Tryz.prog 91 (.map none) := ⟨by kernel_rfl⟩
instance : CBytes Tryz.prog 91 8 := ⟨by kernel_rfl⟩
instance : CMap Tryz.prog 91 3 3 := ⟨by kernel_rfl⟩
instance : CSlice Tryz.prog 92 93 1 := ⟨by kernel_rfl⟩
instance : CSize Tryz.prog 92 1 := ⟨by kernel_rfl⟩
instance : CNotAgg Tryz.prog 92 := ⟨by kernel_rfl⟩
instance : CIsSlice Tryz.prog 92 := ⟨by kernel_rfl⟩
instance : CZero Tryz.prog 92 (.slice none 0 0) := ⟨by kernel_rfl⟩
instance : CBytes Tryz.prog 92 24 := ⟨by kernel_rfl⟩
instance : CSlice Tryz.prog 93 94 1 := ⟨by kernel_rfl⟩
instance : CSize Tryz.prog 93 1 := ⟨by kernel_rfl⟩
instance : CNotAgg Tryz.prog 93 := ⟨by kernel_rfl⟩
instance : CIsSlice Tryz.prog 93 := ⟨by kernel_rfl⟩
instance : CZero Tryz.prog 93 (.slice none 0 0) := ⟨by kernel_rfl⟩
instance : CBytes Tryz.prog 93 24 := ⟨by kernel_rfl⟩
instance : CSize Tryz.prog 94 1 := ⟨by kernel_rfl⟩
instance : CNotAgg Tryz.prog 94 := ⟨by kernel_rfl⟩
instance : CZero Tryz.prog 94 (.int .i64 0) := ⟨by kernel_rfl⟩
instance : CBytes Tryz.prog 94 8 := ⟨by kernel_rfl⟩
instance : CInt Tryz.prog 94 .i64 := ⟨by kernel_rfl⟩
instance : CSize Tryz.prog 95 1 := ⟨by kernel_rfl⟩
instance : CNotAgg Tryz.prog 95 := ⟨by kernel_rfl⟩
instance : CBytes Tryz.prog 95 8 := ⟨by kernel_rfl⟩
instance : CSize Tryz.prog 96 1 := ⟨by kernel_rfl⟩
instance : CNotAgg Tryz.prog 96 := ⟨by kernel_rfl⟩
instance : CBytes Tryz.prog 96 8 := ⟨by kernel_rfl⟩
instance : CSize Tryz.prog 97 1 := ⟨by kernel_rfl⟩
instance : CNotAgg Tryz.prog 97 := ⟨by kernel_rfl⟩
instance : CBytes Tryz.prog 97 8 := ⟨by kernel_rfl⟩
instance : CSize Tryz.prog 98 1 := ⟨by kernel_rfl⟩
instance : CNotAgg Tryz.prog 98 := ⟨by kernel_rfl⟩
instance : CBytes Tryz.prog 98 8 := ⟨by kernel_rfl⟩
instance : CSize Tryz.prog 99 1 := ⟨by kernel_rfl⟩
instance : CNotAgg Tryz.prog 99 := ⟨by kernel_rfl⟩
instance : CBytes Tryz.prog 99 8 := ⟨by kernel_rfl⟩
instance : CSize Tryz.prog 100 1 := ⟨by kernel_rfl⟩
instance : CNotAgg Tryz.prog 100 := ⟨by kernel_rfl⟩
instance : CBytes Tryz.prog 100 8 := ⟨by kernel_rfl⟩
instance : CSize Tryz.prog 101 1 := ⟨by kernel_rfl⟩
instance : CNotAgg Tryz.prog 101 := ⟨by kernel_rfl⟩
instance : CBytes Tryz.prog 101 8 := ⟨by kernel_rfl⟩
instance : CSize Tryz.prog 102 1 := ⟨by kernel_rfl⟩
instance : CNotAgg Tryz.prog 102 := ⟨by kernel_rfl⟩
instance : CBytes Tryz.prog 102 8 := ⟨by kernel_rfl⟩
instance : CSize Tryz.prog 103 1 := ⟨by kernel_rfl⟩
instance : CNotAgg Tryz.prog 103 := ⟨by kernel_rfl⟩
instance : CBytes Tryz.prog 103 8 := ⟨by kernel_rfl⟩
instance : CSize Tryz.prog 104 1 := ⟨by kernel_rfl⟩
instance : CNotAgg Tryz.prog 104 := ⟨by kernel_rfl⟩
instance : CBytes Tryz.prog 104 8 := ⟨by kernel_rfl⟩
instance : CAgg Tryz.prog 105 2 := ⟨by kernel_rfl⟩
instance : CSize Tryz.prog 105 2 := ⟨by kernel_rfl⟩
instance : CZero Tryz.prog 105 (.agg #[.int .i64 0, .int .i64 0]) := ⟨by kernel_rfl⟩
instance : CBytes Tryz.prog 105 16 := ⟨by kernel_rfl⟩
instance : CPlaces Tryz.prog 105 [(0, 1), (1, 1)] := ⟨by kernel_rfl⟩
instance : CField Tryz.prog 105 0 0 := ⟨by kernel_rfl⟩
instance : CField Tryz.prog 105 1 1 := ⟨by kernel_rfl⟩
instance : CAgg Tryz.prog 106 2 := ⟨by kernel_rfl⟩
instance : CSize Tryz.prog 106 2 := ⟨by kernel_rfl⟩
instance : CZero Tryz.prog 106 (.agg #[.int .i64 0, .int .i64 0]) := ⟨by kernel_rfl⟩
instance : CBytes Tryz.prog 106 16 := ⟨by kernel_rfl⟩
instance : CPlaces Tryz.prog 106 [(0, 1), (1, 1)] := ⟨by kernel_rfl⟩
instance : CField Tryz.prog 106 0 0 := ⟨by kernel_rfl⟩
instance : CField Tryz.prog 106 1 1 := ⟨by kernel_rfl⟩
instance : CSlice Tryz.prog 107 106 2 := ⟨by kernel_rfl⟩
instance : CSize Tryz.prog 107 1 := ⟨by kernel_rfl⟩
instance : CNotAgg Tryz.prog 107 := ⟨by kernel_rfl⟩
instance : CIsSlice Tryz.prog 107 := ⟨by kernel_rfl⟩
instance : CZero Tryz.prog 107 (.slice none 0 0) := ⟨by kernel_rfl⟩
instance : CBytes Tryz.prog 107 24 := ⟨by kernel_rfl⟩
instance : CAgg Tryz.prog 108 2 := ⟨by kernel_rfl⟩
instance : CSize Tryz.prog 108 2 := ⟨by kernel_rfl⟩
instance : CZero Tryz.prog 108 (.agg #[.string ⟨#[]⟩, .slice none 0 0]) := ⟨by kernel_rfl⟩
instance : CBytes Tryz.prog 108 40 := ⟨by kernel_rfl⟩
instance : CPlaces Tryz.prog 108 [(0, 1), (1, 1)] := ⟨by kernel_rfl⟩
instance : CField Tryz.prog 108 0 0 := ⟨by kernel_rfl⟩
instance : CField Tryz.prog 108 1 1 := ⟨by kernel_rfl⟩
instance : CAgg Tryz.prog 109 2 := ⟨by kernel_rfl⟩
instance : CSize Tryz.prog 109 2 := ⟨by kernel_rfl⟩
instance : CZero Tryz.prog 109 (.agg #[.string ⟨#[]⟩, .slice none 0 0]) := ⟨by kernel_rfl⟩
instance : CBytes Tryz.prog 109 40 := ⟨by kernel_rfl⟩
instance : CPlaces Tryz.prog 109 [(0, 1), (1, 1)] := ⟨by kernel_rfl⟩
instance : CField Tryz.prog 109 0 0 := ⟨by kernel_rfl⟩
instance : CField Tryz.prog 109 1 1 := ⟨by kernel_rfl⟩
instance : CSlice Tryz.prog 110 109 2 := ⟨by kernel_rfl⟩
instance : CSize Tryz.prog 110 1 := ⟨by kernel_rfl⟩
instance : CNotAgg Tryz.prog 110 := ⟨by kernel_rfl⟩
instance : CIsSlice Tryz.prog 110 := ⟨by kernel_rfl⟩
instance : CZero Tryz.prog 110 (.slice none 0 0) := ⟨by kernel_rfl⟩
instance : CBytes Tryz.prog 110 24 := ⟨by kernel_rfl⟩
instance : CSlice Tryz.prog 111 183 2 := ⟨by kernel_rfl⟩
instance : CSize Tryz.prog 111 1 := ⟨by kernel_rfl⟩
instance : CNotAgg Tryz.prog 111 := ⟨by kernel_rfl⟩
instance : CIsSlice Tryz.prog 111 := ⟨by kernel_rfl⟩
instance : CZero Tryz.prog 111 (.slice none 0 0) := ⟨by kernel_rfl⟩
instance : CBytes Tryz.prog 111 24 := ⟨by kernel_rfl⟩
instance : CAgg Tryz.prog 112 7 := ⟨by kernel_rfl⟩
instance : CSize Tryz.prog 112 7 := ⟨by kernel_rfl⟩
instance : CZero Tryz.prog 112 (.agg #[.string ⟨#[]⟩, .slice none 0 0, .int .i64 0, .slice none 0 0, .slice none 0 0, .slice none 0 0, .bool false]) := ⟨by kernel_rfl⟩
instance : CBytes Tryz.prog 112 128 := ⟨by kernel_rfl⟩
instance : CPlaces Tryz.prog 112 [(0, 1), (1, 1), (2, 1), (3, 1), (4, 1), (5, 1), (6, 1)] := ⟨by kernel_rfl⟩
instance : CField Tryz.prog 112 0 0 := ⟨by kernel_rfl⟩
instance : CField Tryz.prog 112 1 1 := ⟨by kernel_rfl⟩
instance : CField Tryz.prog 112 2 2 := ⟨by kernel_rfl⟩
instance : CField Tryz.prog 112 3 3 := ⟨by kernel_rfl⟩
instance : CField Tryz.prog 112 4 4 := ⟨by kernel_rfl⟩
instance : CField Tryz.prog 112 5 5 := ⟨by kernel_rfl⟩
instance : CField Tryz.prog 112 6 6 := ⟨by kernel_rfl⟩
instance : CAgg Tryz.prog 113 7 := ⟨by kernel_rfl⟩
instance : CSize Tryz.prog 113 7 := ⟨by kernel_rfl⟩
instance : CZero Tryz.prog 113 (.agg #[.string ⟨#[]⟩, .slice none 0 0, .int .i64 0, .slice none 0 0, .slice none 0 0, .slice none 0 0, .bool false]) := ⟨by kernel_rfl⟩
instance : CBytes Tryz.prog 113 128 := ⟨by kernel_rfl⟩
instance : CPlaces Tryz.prog 113 [(0, 1), (1, 1), (2, 1), (3, 1), (4, 1), (5, 1), (6, 1)] := ⟨by kernel_rfl⟩
instance : CField Tryz.prog 113 0 0 := ⟨by kernel_rfl⟩
instance : CField Tryz.prog 113 1 1 := ⟨by kernel_rfl⟩
instance : CField Tryz.prog 113 2 2 := ⟨by kernel_rfl⟩
instance : CField Tryz.prog 113 3 3 := ⟨by kernel_rfl⟩
instance : CField Tryz.prog 113 4 4 := ⟨by kernel_rfl⟩
instance : CField Tryz.prog 113 5 5 := ⟨by kernel_rfl⟩
instance : CField Tryz.prog 113 6 6 := ⟨by kernel_rfl⟩
instance : CAgg Tryz.prog 114 3 := ⟨by kernel_rfl⟩
instance : CSize Tryz.prog 114 3 := ⟨by kernel_rfl⟩
instance : CZero Tryz.prog 114 (.agg #[.int .i64 0, .int .i64 0, .bool false]) := ⟨by kernel_rfl⟩
instance : CBytes Tryz.prog 114 24 := ⟨by kernel_rfl⟩
instance : CPlaces Tryz.prog 114 [(0, 1), (1, 1), (2, 1)] := ⟨by kernel_rfl⟩
instance : CField Tryz.prog 114 0 0 := ⟨by kernel_rfl⟩
instance : CField Tryz.prog 114 1 1 := ⟨by kernel_rfl⟩
instance : CField Tryz.prog 114 2 2 := ⟨by kernel_rfl⟩
instance : CAgg Tryz.prog 115 3 := ⟨by kernel_rfl⟩
instance : CSize Tryz.prog 115 3 := ⟨by kernel_rfl⟩
instance : CZero Tryz.prog 115 (.agg #[.int .i64 0, .int .i64 0, .bool false]) := ⟨by kernel_rfl⟩
instance : CBytes Tryz.prog 115 24 := ⟨by kernel_rfl⟩
instance : CPlaces Tryz.prog 115 [(0, 1), (1, 1), (2, 1)] := ⟨by kernel_rfl⟩
instance : CField Tryz.prog 115 0 0 := ⟨by kernel_rfl⟩
instance : CField Tryz.prog 115 1 1 := ⟨by kernel_rfl⟩
instance : CField Tryz.prog 115 2 2 := ⟨by kernel_rfl⟩
instance : CSize Tryz.prog 116 1 := ⟨by kernel_rfl⟩
instance : CNotAgg Tryz.prog 116 := ⟨by kernel_rfl⟩
instance : CZero Tryz.prog 116 (.map none) := ⟨by kernel_rfl⟩
instance : CBytes Tryz.prog 116 8 := ⟨by kernel_rfl⟩
instance : CMap Tryz.prog 116 3 127 := ⟨by kernel_rfl⟩
instance : CSize Tryz.prog 117 1 := ⟨by kernel_rfl⟩
instance : CNotAgg Tryz.prog 117 := ⟨by kernel_rfl⟩
instance : CZero Tryz.prog 117 (.tuple #[.slice none 0 0, .map none, .int .i64 0]) := ⟨by kernel_rfl⟩
instance : CBytes Tryz.prog 117 0 := ⟨by kernel_rfl⟩
instance : CSize Tryz.prog 118 1 := ⟨by kernel_rfl⟩
instance : CNotAgg Tryz.prog 118 := ⟨by kernel_rfl⟩
instance : CBytes Tryz.prog 118 8 := ⟨by kernel_rfl⟩
instance : CSize Tryz.prog 119 1 := ⟨by kernel_rfl⟩
instance : CNotAgg Tryz.prog 119 := ⟨by kernel_rfl⟩
instance : CBytes Tryz.prog 119 8 := ⟨by kernel_rfl⟩
instance : CSize Tryz.prog 120 1 := ⟨by kernel_rfl⟩
instance : CNotAgg Tryz.prog 120 := ⟨by kernel_rfl⟩
instance : CBytes Tryz.prog 120 8 := ⟨by kernel_rfl⟩
instance : CSize Tryz.prog 121 1 := ⟨by kernel_rfl⟩
instance : CNotAgg Tryz.prog 121 := ⟨by kernel_rfl⟩
instance : CBytes Tryz.prog 121 8 := ⟨by kernel_rfl⟩
instance : CSize Tryz.prog 122 1 := ⟨by kernel_rfl⟩
instance : CNotAgg Tryz.prog 122 := ⟨by kernel_rfl⟩
instance : CBytes Tryz.prog 122 8 := ⟨by kernel_rfl⟩
instance : CSize Tryz.prog 123 1 := ⟨by kernel_rfl⟩
instance : CNotAgg Tryz.prog 123 := ⟨by kernel_rfl⟩
instance : CBytes Tryz.prog 123 8 := ⟨by kernel_rfl⟩
instance : CSize Tryz.prog 124 1 := ⟨by kernel_rfl⟩
instance : CNotAgg Tryz.prog 124 := ⟨by kernel_rfl⟩
instance : CZero Tryz.prog 124 (.map none) := ⟨by kernel_rfl⟩
instance : CBytes Tryz.prog 124 8 := ⟨by kernel_rfl⟩
instance : CMap Tryz.prog 124 3 4 := ⟨by kernel_rfl⟩
instance : CSize Tryz.prog 125 1 := ⟨by kernel_rfl⟩
instance : CNotAgg Tryz.prog 125 := ⟨by kernel_rfl⟩
instance : CZero Tryz.prog 125 (.tuple #[.agg #[.int .i64 0, .int .i64 0, .int .i64 0, .int .i64 0, .int .i64 0, .int .i64 0], .bool false]) := ⟨by kernel_rfl⟩
instance : CBytes Tryz.prog 125 0 := ⟨by kernel_rfl⟩
instance : CSize Tryz.prog 126 1 := ⟨by kernel_rfl⟩
instance : CNotAgg Tryz.prog 126 := ⟨by kernel_rfl⟩
instance : CBytes Tryz.prog 126 8 := ⟨by kernel_rfl⟩
instance : CSize Tryz.prog 127 1 := ⟨by kernel_rfl⟩
instance : CNotAgg Tryz.prog 127 := ⟨by kernel_rfl⟩
instance : CZero Tryz.prog 127 (.pointer none) := ⟨by kernel_rfl⟩
instance : CBytes Tryz.prog 127 8 := ⟨by kernel_rfl⟩
instance : CAgg Tryz.prog 128 16 := ⟨by kernel_rfl⟩
instance : CArr Tryz.prog 128 16 1 := ⟨by kernel_rfl⟩
instance : CSize Tryz.prog 128 16 := ⟨by kernel_rfl⟩
instance : CZero Tryz.prog 128 (.agg #[.bool false, .bool false, .bool false, .bool false, .bool false, .bool false, .bool false, .bool false, .bool false, .bool false, .bool false, .bool false, .bool false, .bool false, .bool false, .bool false]) := ⟨by kernel_rfl⟩
instance : CBytes Tryz.prog 128 16 := ⟨by kernel_rfl⟩
instance : CAgg Tryz.prog 129 17 := ⟨by kernel_rfl⟩
instance : CSize Tryz.prog 129 17 := ⟨by kernel_rfl⟩
instance : CZero Tryz.prog 129 (.agg #[.bool false, .bool false, .bool false, .bool false, .bool false, .bool false, .bool false, .bool false, .bool false, .bool false, .bool false, .bool false, .bool false, .bool false, .bool false, .bool false, .int .i64 0]) := ⟨by kernel_rfl⟩
instance : CBytes Tryz.prog 129 24 := ⟨by kernel_rfl⟩
instance : CPlaces Tryz.prog 129 [(0, 16), (16, 1)] := ⟨by kernel_rfl⟩
instance : CField Tryz.prog 129 0 0 := ⟨by kernel_rfl⟩
instance : CField Tryz.prog 129 1 16 := ⟨by kernel_rfl⟩
instance : CAgg Tryz.prog 130 17 := ⟨by kernel_rfl⟩
instance : CSize Tryz.prog 130 17 := ⟨by kernel_rfl⟩
instance : CZero Tryz.prog 130 (.agg #[.bool false, .bool false, .bool false, .bool false, .bool false, .bool false, .bool false, .bool false, .bool false, .bool false, .bool false, .bool false, .bool false, .bool false, .bool false, .bool false, .int .i64 0]) := ⟨by kernel_rfl⟩
instance : CBytes Tryz.prog 130 24 := ⟨by kernel_rfl⟩
instance : CPlaces Tryz.prog 130 [(0, 16), (16, 1)] := ⟨by kernel_rfl⟩
instance : CField Tryz.prog 130 0 0 := ⟨by kernel_rfl⟩
instance : CField Tryz.prog 130 1 16 := ⟨by kernel_rfl⟩
instance : CSize Tryz.prog 131 1 := ⟨by kernel_rfl⟩
instance : CNotAgg Tryz.prog 131 := ⟨by kernel_rfl⟩
instance : CBytes Tryz.prog 131 8 := ⟨by kernel_rfl⟩
instance : CSize Tryz.prog 132 1 := ⟨by kernel_rfl⟩
instance : CNotAgg Tryz.prog 132 := ⟨by kernel_rfl⟩
instance : CBytes Tryz.prog 132 8 := ⟨by kernel_rfl⟩
instance : CSize Tryz.prog 133 1 := ⟨by kernel_rfl⟩
instance : CNotAgg Tryz.prog 133 := ⟨by kernel_rfl⟩
instance : CZero Tryz.prog 133 (.int .u64 0) := ⟨by kernel_rfl⟩
instance : CBytes Tryz.prog 133 8 := ⟨by kernel_rfl⟩
instance : CInt Tryz.prog 133 .u64 := ⟨by kernel_rfl⟩
instance : CSize Tryz.prog 134 1 := ⟨by kernel_rfl⟩
instance : CNotAgg Tryz.prog 134 := ⟨by kernel_rfl⟩
instance : CBytes Tryz.prog 134 8 := ⟨by kernel_rfl⟩
instance : CSize Tryz.prog 135 1 := ⟨by kernel_rfl⟩
instance : CNotAgg Tryz.prog 135 := ⟨by kernel_rfl⟩
instance : CBytes Tryz.prog 135 8 := ⟨by kernel_rfl⟩
instance : CSize Tryz.prog 136 1 := ⟨by kernel_rfl⟩
instance : CNotAgg Tryz.prog 136 := ⟨by kernel_rfl⟩
instance : CBytes Tryz.prog 136 8 := ⟨by kernel_rfl⟩
instance : CSize Tryz.prog 137 1 := ⟨by kernel_rfl⟩
instance : CNotAgg Tryz.prog 137 := ⟨by kernel_rfl⟩
instance : CBytes Tryz.prog 137 8 := ⟨by kernel_rfl⟩
instance : CSize Tryz.prog 138 1 := ⟨by kernel_rfl⟩
instance : CNotAgg Tryz.prog 138 := ⟨by kernel_rfl⟩
instance : CBytes Tryz.prog 138 8 := ⟨by kernel_rfl⟩
instance : CSize Tryz.prog 139 1 := ⟨by kernel_rfl⟩
instance : CNotAgg Tryz.prog 139 := ⟨by kernel_rfl⟩
instance : CBytes Tryz.prog 139 8 := ⟨by kernel_rfl⟩
instance : CSize Tryz.prog 140 1 := ⟨by kernel_rfl⟩
instance : CNotAgg Tryz.prog 140 := ⟨by kernel_rfl⟩
instance : CZero Tryz.prog 140 (.int .u64 0) := ⟨by kernel_rfl⟩
instance : CBytes Tryz.prog 140 8 := ⟨by kernel_rfl⟩
instance : CInt Tryz.prog 140 .u64 := ⟨by kernel_rfl⟩
instance : CSize Tryz.prog 141 1 := ⟨by kernel_rfl⟩
instance : CNotAgg Tryz.prog 141 := ⟨by kernel_rfl⟩
instance : CBytes Tryz.prog 141 8 := ⟨by kernel_rfl⟩
instance : CSize Tryz.prog 142 1 := ⟨by kernel_rfl⟩
instance : CNotAgg Tryz.prog 142 := ⟨by kernel_rfl⟩
instance : CBytes Tryz.prog 142 8 := ⟨by kernel_rfl⟩
instance : CSize Tryz.prog 143 1 := ⟨by kernel_rfl⟩
instance : CNotAgg Tryz.prog 143 := ⟨by kernel_rfl⟩
instance : CBytes Tryz.prog 143 8 := ⟨by kernel_rfl⟩
instance : CSize Tryz.prog 144 1 := ⟨by kernel_rfl⟩
instance : CNotAgg Tryz.prog 144 := ⟨by kernel_rfl⟩
instance : CBytes Tryz.prog 144 8 := ⟨by kernel_rfl⟩
instance : CSize Tryz.prog 145 1 := ⟨by kernel_rfl⟩
instance : CNotAgg Tryz.prog 145 := ⟨by kernel_rfl⟩
instance : CBytes Tryz.prog 145 8 := ⟨by kernel_rfl⟩
instance : CSlice Tryz.prog 146 4 1 := ⟨by kernel_rfl⟩
instance : CSize Tryz.prog 146 1 := ⟨by kernel_rfl⟩
instance : CNotAgg Tryz.prog 146 := ⟨by kernel_rfl⟩
instance : CIsSlice Tryz.prog 146 := ⟨by kernel_rfl⟩
instance : CZero Tryz.prog 146 (.slice none 0 0) := ⟨by kernel_rfl⟩
instance : CBytes Tryz.prog 146 24 := ⟨by kernel_rfl⟩
instance : CSize Tryz.prog 147 1 := ⟨by kernel_rfl⟩
instance : CNotAgg Tryz.prog 147 := ⟨by kernel_rfl⟩
instance : CBytes Tryz.prog 147 8 := ⟨by kernel_rfl⟩
instance : CSlice Tryz.prog 148 240 1 := ⟨by kernel_rfl⟩
instance : CSize Tryz.prog 148 1 := ⟨by kernel_rfl⟩
instance : CNotAgg Tryz.prog 148 := ⟨by kernel_rfl⟩
instance : CIsSlice Tryz.prog 148 := ⟨by kernel_rfl⟩
instance : CZero Tryz.prog 148 (.slice none 0 0) := ⟨by kernel_rfl⟩
instance : CBytes Tryz.prog 148 24 := ⟨by kernel_rfl⟩
instance : CSlice Tryz.prog 149 240 1 := ⟨by kernel_rfl⟩
instance : CSize Tryz.prog 149 1 := ⟨by kernel_rfl⟩
instance : CNotAgg Tryz.prog 149 := ⟨by kernel_rfl⟩
instance : CIsSlice Tryz.prog 149 := ⟨by kernel_rfl⟩
instance : CZero Tryz.prog 149 (.slice none 0 0) := ⟨by kernel_rfl⟩
instance : CBytes Tryz.prog 149 24 := ⟨by kernel_rfl⟩
instance : CAgg Tryz.prog 150 2 := ⟨by kernel_rfl⟩
instance : CSize Tryz.prog 150 2 := ⟨by kernel_rfl⟩
instance : CZero Tryz.prog 150 (.agg #[.bool false, .slice none 0 0]) := ⟨by kernel_rfl⟩
instance : CBytes Tryz.prog 150 32 := ⟨by kernel_rfl⟩
instance : CPlaces Tryz.prog 150 [(0, 1), (1, 1)] := ⟨by kernel_rfl⟩
instance : CField Tryz.prog 150 0 0 := ⟨by kernel_rfl⟩
instance : CField Tryz.prog 150 1 1 := ⟨by kernel_rfl⟩
instance : CAgg Tryz.prog 151 2 := ⟨by kernel_rfl⟩
instance : CSize Tryz.prog 151 2 := ⟨by kernel_rfl⟩
instance : CZero Tryz.prog 151 (.agg #[.bool false, .slice none 0 0]) := ⟨by kernel_rfl⟩
instance : CBytes Tryz.prog 151 32 := ⟨by kernel_rfl⟩
instance : CPlaces Tryz.prog 151 [(0, 1), (1, 1)] := ⟨by kernel_rfl⟩
instance : CField Tryz.prog 151 0 0 := ⟨by kernel_rfl⟩
instance : CField Tryz.prog 151 1 1 := ⟨by kernel_rfl⟩
instance : CAgg Tryz.prog 152 3 := ⟨by kernel_rfl⟩
instance : CSize Tryz.prog 152 3 := ⟨by kernel_rfl⟩
instance : CZero Tryz.prog 152 (.agg #[.bool false, .slice none 0 0, .slice none 0 0]) := ⟨by kernel_rfl⟩
instance : CBytes Tryz.prog 152 56 := ⟨by kernel_rfl⟩
instance : CPlaces Tryz.prog 152 [(0, 2), (2, 1)] := ⟨by kernel_rfl⟩
instance : CField Tryz.prog 152 0 0 := ⟨by kernel_rfl⟩
instance : CField Tryz.prog 152 1 2 := ⟨by kernel_rfl⟩
instance : CAgg Tryz.prog 153 3 := ⟨by kernel_rfl⟩
instance : CSize Tryz.prog 153 3 := ⟨by kernel_rfl⟩
instance : CZero Tryz.prog 153 (.agg #[.bool false, .slice none 0 0, .slice none 0 0]) := ⟨by kernel_rfl⟩
instance : CBytes Tryz.prog 153 56 := ⟨by kernel_rfl⟩
instance : CPlaces Tryz.prog 153 [(0, 2), (2, 1)] := ⟨by kernel_rfl⟩
instance : CField Tryz.prog 153 0 0 := ⟨by kernel_rfl⟩
instance : CField Tryz.prog 153 1 2 := ⟨by kernel_rfl⟩
instance : CSlice Tryz.prog 154 156 6 := ⟨by kernel_rfl⟩
instance : CSize Tryz.prog 154 1 := ⟨by kernel_rfl⟩
instance : CNotAgg Tryz.prog 154 := ⟨by kernel_rfl⟩
instance : CIsSlice Tryz.prog 154 := ⟨by kernel_rfl⟩
instance : CZero Tryz.prog 154 (.slice none 0 0) := ⟨by kernel_rfl⟩
instance : CBytes Tryz.prog 154 24 := ⟨by kernel_rfl⟩
instance : CAgg Tryz.prog 155 6 := ⟨by kernel_rfl⟩
instance : CSize Tryz.prog 155 6 := ⟨by kernel_rfl⟩
instance : CZero Tryz.prog 155 (.agg #[.int .i64 0, .bool false, .slice none 0 0, .slice none 0 0, .string ⟨#[]⟩, .slice none 0 0]) := ⟨by kernel_rfl⟩
instance : CBytes Tryz.prog 155 104 := ⟨by kernel_rfl⟩
instance : CPlaces Tryz.prog 155 [(0, 1), (1, 3), (4, 1), (5, 1)] := ⟨by kernel_rfl⟩
instance : CField Tryz.prog 155 0 0 := ⟨by kernel_rfl⟩
instance : CField Tryz.prog 155 1 1 := ⟨by kernel_rfl⟩
instance : CField Tryz.prog 155 2 4 := ⟨by kernel_rfl⟩
instance : CField Tryz.prog 155 3 5 := ⟨by kernel_rfl⟩
instance : CAgg Tryz.prog 156 6 := ⟨by kernel_rfl⟩
instance : CSize Tryz.prog 156 6 := ⟨by kernel_rfl⟩
instance : CZero Tryz.prog 156 (.agg #[.int .i64 0, .bool false, .slice none 0 0, .slice none 0 0, .string ⟨#[]⟩, .slice none 0 0]) := ⟨by kernel_rfl⟩
instance : CBytes Tryz.prog 156 104 := ⟨by kernel_rfl⟩
instance : CPlaces Tryz.prog 156 [(0, 1), (1, 3), (4, 1), (5, 1)] := ⟨by kernel_rfl⟩
instance : CField Tryz.prog 156 0 0 := ⟨by kernel_rfl⟩
instance : CField Tryz.prog 156 1 1 := ⟨by kernel_rfl⟩
instance : CField Tryz.prog 156 2 4 := ⟨by kernel_rfl⟩
instance : CField Tryz.prog 156 3 5 := ⟨by kernel_rfl⟩
instance : CAgg Tryz.prog 157 8 := ⟨by kernel_rfl⟩
instance : CArr Tryz.prog 157 8 1 := ⟨by kernel_rfl⟩
instance : CSize Tryz.prog 157 8 := ⟨by kernel_rfl⟩
instance : CZero Tryz.prog 157 (.agg #[.bool false, .bool false, .bool false, .bool false, .bool false, .bool false, .bool false, .bool false]) := ⟨by kernel_rfl⟩
instance : CBytes Tryz.prog 157 8 := ⟨by kernel_rfl⟩
instance : CSize Tryz.prog 158 1 := ⟨by kernel_rfl⟩
instance : CNotAgg Tryz.prog 158 := ⟨by kernel_rfl⟩
instance : CBytes Tryz.prog 158 8 := ⟨by kernel_rfl⟩
instance : CSize Tryz.prog 159 1 := ⟨by kernel_rfl⟩
instance : CNotAgg Tryz.prog 159 := ⟨by kernel_rfl⟩
instance : CBytes Tryz.prog 159 8 := ⟨by kernel_rfl⟩
instance : CSize Tryz.prog 160 1 := ⟨by kernel_rfl⟩
instance : CNotAgg Tryz.prog 160 := ⟨by kernel_rfl⟩
instance : CBytes Tryz.prog 160 8 := ⟨by kernel_rfl⟩
instance : CSize Tryz.prog 161 1 := ⟨by kernel_rfl⟩
instance : CNotAgg Tryz.prog 161 := ⟨by kernel_rfl⟩
instance : CBytes Tryz.prog 161 8 := ⟨by kernel_rfl⟩
instance : CAgg Tryz.prog 162 6 := ⟨by kernel_rfl⟩
instance : CSize Tryz.prog 162 6 := ⟨by kernel_rfl⟩
instance : CZero Tryz.prog 162 (.agg #[.int .i64 0, .int .i64 0, .int .i64 0, .int .i64 0, .bool false, .int .i64 0]) := ⟨by kernel_rfl⟩
instance : CBytes Tryz.prog 162 48 := ⟨by kernel_rfl⟩
instance : CPlaces Tryz.prog 162 [(0, 1), (1, 1), (2, 1), (3, 1), (4, 1), (5, 1)] := ⟨by kernel_rfl⟩
instance : CField Tryz.prog 162 0 0 := ⟨by kernel_rfl⟩
instance : CField Tryz.prog 162 1 1 := ⟨by kernel_rfl⟩
instance : CField Tryz.prog 162 2 2 := ⟨by kernel_rfl⟩
instance : CField Tryz.prog 162 3 3 := ⟨by kernel_rfl⟩
instance : CField Tryz.prog 162 4 4 := ⟨by kernel_rfl⟩
instance : CField Tryz.prog 162 5 5 := ⟨by kernel_rfl⟩
instance : CAgg Tryz.prog 163 6 := ⟨by kernel_rfl⟩
instance : CSize Tryz.prog 163 6 := ⟨by kernel_rfl⟩
instance : CZero Tryz.prog 163 (.agg #[.int .i64 0, .int .i64 0, .int .i64 0, .int .i64 0, .bool false, .int .i64 0]) := ⟨by kernel_rfl⟩
instance : CBytes Tryz.prog 163 48 := ⟨by kernel_rfl⟩
instance : CPlaces Tryz.prog 163 [(0, 1), (1, 1), (2, 1), (3, 1), (4, 1), (5, 1)] := ⟨by kernel_rfl⟩
instance : CField Tryz.prog 163 0 0 := ⟨by kernel_rfl⟩
instance : CField Tryz.prog 163 1 1 := ⟨by kernel_rfl⟩
instance : CField Tryz.prog 163 2 2 := ⟨by kernel_rfl⟩
instance : CField Tryz.prog 163 3 3 := ⟨by kernel_rfl⟩
instance : CField Tryz.prog 163 4 4 := ⟨by kernel_rfl⟩
instance : CField Tryz.prog 163 5 5 := ⟨by kernel_rfl⟩
instance : CSize Tryz.prog 164 1 := ⟨by kernel_rfl⟩
instance : CNotAgg Tryz.prog 164 := ⟨by kernel_rfl⟩
instance : CBytes Tryz.prog 164 8 := ⟨by kernel_rfl⟩
instance : CSize Tryz.prog 165 1 := ⟨by kernel_rfl⟩
instance : CNotAgg Tryz.prog 165 := ⟨by kernel_rfl⟩
instance : CBytes Tryz.prog 165 8 := ⟨by kernel_rfl⟩
instance : CSize Tryz.prog 166 1 := ⟨by kernel_rfl⟩
instance : CNotAgg Tryz.prog 166 := ⟨by kernel_rfl⟩
instance : CZero Tryz.prog 166 (.tuple #[.slice none 0 0, .bool false]) := ⟨by kernel_rfl⟩
instance : CBytes Tryz.prog 166 0 := ⟨by kernel_rfl⟩
instance : CSize Tryz.prog 167 1 := ⟨by kernel_rfl⟩
instance : CNotAgg Tryz.prog 167 := ⟨by kernel_rfl⟩
instance : CBytes Tryz.prog 167 8 := ⟨by kernel_rfl⟩
instance : CSize Tryz.prog 168 1 := ⟨by kernel_rfl⟩
instance : CNotAgg Tryz.prog 168 := ⟨by kernel_rfl⟩
instance : CBytes Tryz.prog 168 8 := ⟨by kernel_rfl⟩
instance : CSize Tryz.prog 169 1 := ⟨by kernel_rfl⟩
instance : CNotAgg Tryz.prog 169 := ⟨by kernel_rfl⟩
instance : CBytes Tryz.prog 169 8 := ⟨by kernel_rfl⟩
instance : CSize Tryz.prog 170 1 := ⟨by kernel_rfl⟩
instance : CNotAgg Tryz.prog 170 := ⟨by kernel_rfl⟩
instance : CZero Tryz.prog 170 (.tuple #[.slice none 0 0, .int .i64 0]) := ⟨by kernel_rfl⟩
instance : CBytes Tryz.prog 170 0 := ⟨by kernel_rfl⟩
instance : CSize Tryz.prog 171 1 := ⟨by kernel_rfl⟩
instance : CNotAgg Tryz.prog 171 := ⟨by kernel_rfl⟩
instance : CBytes Tryz.prog 171 8 := ⟨by kernel_rfl⟩
instance : CSize Tryz.prog 172 1 := ⟨by kernel_rfl⟩
instance : CNotAgg Tryz.prog 172 := ⟨by kernel_rfl⟩
instance : CBytes Tryz.prog 172 8 := ⟨by kernel_rfl⟩
instance : CSize Tryz.prog 173 1 := ⟨by kernel_rfl⟩
instance : CNotAgg Tryz.prog 173 := ⟨by kernel_rfl⟩
instance : CBytes Tryz.prog 173 8 := ⟨by kernel_rfl⟩
instance : CSize Tryz.prog 174 1 := ⟨by kernel_rfl⟩
instance : CNotAgg Tryz.prog 174 := ⟨by kernel_rfl⟩
instance : CBytes Tryz.prog 174 8 := ⟨by kernel_rfl⟩
instance : CSize Tryz.prog 175 1 := ⟨by kernel_rfl⟩
instance : CNotAgg Tryz.prog 175 := ⟨by kernel_rfl⟩
instance : CZero Tryz.prog 175 (.map none) := ⟨by kernel_rfl⟩
instance : CBytes Tryz.prog 175 8 := ⟨by kernel_rfl⟩
instance : CMap Tryz.prog 175 9 4 := ⟨by kernel_rfl⟩
instance : CSize Tryz.prog 176 1 := ⟨by kernel_rfl⟩
instance : CNotAgg Tryz.prog 176 := ⟨by kernel_rfl⟩
instance : CZero Tryz.prog 176 (.map none) := ⟨by kernel_rfl⟩
instance : CBytes Tryz.prog 176 8 := ⟨by kernel_rfl⟩
instance : CMap Tryz.prog 176 3 124 := ⟨by kernel_rfl⟩
instance : CSize Tryz.prog 177 1 := ⟨by kernel_rfl⟩
instance : CNotAgg Tryz.prog 177 := ⟨by kernel_rfl⟩
instance : CZero Tryz.prog 177 (.tuple #[.map none, .bool false]) := ⟨by kernel_rfl⟩
instance : CBytes Tryz.prog 177 0 := ⟨by kernel_rfl⟩
instance : CSize Tryz.prog 178 1 := ⟨by kernel_rfl⟩
instance : CNotAgg Tryz.prog 178 := ⟨by kernel_rfl⟩
instance : CBytes Tryz.prog 178 8 := ⟨by kernel_rfl⟩
instance : CSize Tryz.prog 179 1 := ⟨by kernel_rfl⟩
instance : CNotAgg Tryz.prog 179 := ⟨by kernel_rfl⟩
instance : CBytes Tryz.prog 179 8 := ⟨by kernel_rfl⟩
instance : CSize Tryz.prog 180 1 := ⟨by kernel_rfl⟩
instance : CNotAgg Tryz.prog 180 := ⟨by kernel_rfl⟩
instance : CBytes Tryz.prog 180 8 := ⟨by kernel_rfl⟩
instance : CSize Tryz.prog 181 1 := ⟨by kernel_rfl⟩
instance : CNotAgg Tryz.prog 181 := ⟨by kernel_rfl⟩
instance : CBytes Tryz.prog 181 8 := ⟨by kernel_rfl⟩
instance : CAgg Tryz.prog 182 2 := ⟨by kernel_rfl⟩
instance : CSize Tryz.prog 182 2 := ⟨by kernel_rfl⟩
instance : CZero Tryz.prog 182 (.agg #[.int .i64 0, .int .i64 0]) := ⟨by kernel_rfl⟩
instance : CBytes Tryz.prog 182 16 := ⟨by kernel_rfl⟩
instance : CPlaces Tryz.prog 182 [(0, 1), (1, 1)] := ⟨by kernel_rfl⟩
instance : CField Tryz.prog 182 0 0 := ⟨by kernel_rfl⟩
instance : CField Tryz.prog 182 1 1 := ⟨by kernel_rfl⟩
instance : CAgg Tryz.prog 183 2 := ⟨by kernel_rfl⟩
instance : CSize Tryz.prog 183 2 := ⟨by kernel_rfl⟩
instance : CZero Tryz.prog 183 (.agg #[.int .i64 0, .int .i64 0]) := ⟨by kernel_rfl⟩
instance : CBytes Tryz.prog 183 16 := ⟨by kernel_rfl⟩
instance : CPlaces Tryz.prog 183 [(0, 1), (1, 1)] := ⟨by kernel_rfl⟩
instance : CField Tryz.prog 183 0 0 := ⟨by kernel_rfl⟩
instance : CField Tryz.prog 183 1 1 := ⟨by kernel_rfl⟩
instance : CSize Tryz.prog 184 1 := ⟨by kernel_rfl⟩
instance : CNotAgg Tryz.prog 184 := ⟨by kernel_rfl⟩
instance : CBytes Tryz.prog 184 8 := ⟨by kernel_rfl⟩
instance : CSize Tryz.prog 185 1 := ⟨by kernel_rfl⟩
instance : CNotAgg Tryz.prog 185 := ⟨by kernel_rfl⟩
instance : CBytes Tryz.prog 185 8 := ⟨by kernel_rfl⟩
instance : CSize Tryz.prog 186 1 := ⟨by kernel_rfl⟩
instance : CNotAgg Tryz.prog 186 := ⟨by kernel_rfl⟩
instance : CBytes Tryz.prog 186 8 := ⟨by kernel_rfl⟩
instance : CSlice Tryz.prog 187 209 5 := ⟨by kernel_rfl⟩
instance : CSize Tryz.prog 187 1 := ⟨by kernel_rfl⟩
instance : CNotAgg Tryz.prog 187 := ⟨by kernel_rfl⟩
instance : CIsSlice Tryz.prog 187 := ⟨by kernel_rfl⟩
instance : CZero Tryz.prog 187 (.slice none 0 0) := ⟨by kernel_rfl⟩
instance : CBytes Tryz.prog 187 24 := ⟨by kernel_rfl⟩
instance : CAgg Tryz.prog 188 3 := ⟨by kernel_rfl⟩
instance : CSize Tryz.prog 188 3 := ⟨by kernel_rfl⟩
instance : CZero Tryz.prog 188 (.agg #[.slice none 0 0, .int .i64 0, .slice none 0 0]) := ⟨by kernel_rfl⟩
instance : CBytes Tryz.prog 188 56 := ⟨by kernel_rfl⟩
instance : CPlaces Tryz.prog 188 [(0, 1), (1, 1), (2, 1)] := ⟨by kernel_rfl⟩
instance : CField Tryz.prog 188 0 0 := ⟨by kernel_rfl⟩
instance : CField Tryz.prog 188 1 1 := ⟨by kernel_rfl⟩
instance : CField Tryz.prog 188 2 2 := ⟨by kernel_rfl⟩
instance : CAgg Tryz.prog 189 3 := ⟨by kernel_rfl⟩
instance : CSize Tryz.prog 189 3 := ⟨by kernel_rfl⟩
instance : CZero Tryz.prog 189 (.agg #[.slice none 0 0, .int .i64 0, .slice none 0 0]) := ⟨by kernel_rfl⟩
instance : CBytes Tryz.prog 189 56 := ⟨by kernel_rfl⟩
instance : CPlaces Tryz.prog 189 [(0, 1), (1, 1), (2, 1)] := ⟨by kernel_rfl⟩
instance : CField Tryz.prog 189 0 0 := ⟨by kernel_rfl⟩
instance : CField Tryz.prog 189 1 1 := ⟨by kernel_rfl⟩
instance : CField Tryz.prog 189 2 2 := ⟨by kernel_rfl⟩
instance : CSize Tryz.prog 190 1 := ⟨by kernel_rfl⟩
instance : CNotAgg Tryz.prog 190 := ⟨by kernel_rfl⟩
instance : CBytes Tryz.prog 190 8 := ⟨by kernel_rfl⟩
instance : CAgg Tryz.prog 191 2 := ⟨by kernel_rfl⟩
instance : CSize Tryz.prog 191 2 := ⟨by kernel_rfl⟩
instance : CZero Tryz.prog 191 (.agg #[.slice none 0 0, .int .i64 0]) := ⟨by kernel_rfl⟩
instance : CBytes Tryz.prog 191 32 := ⟨by kernel_rfl⟩
instance : CPlaces Tryz.prog 191 [(0, 1), (1, 1)] := ⟨by kernel_rfl⟩
instance : CField Tryz.prog 191 0 0 := ⟨by kernel_rfl⟩
instance : CField Tryz.prog 191 1 1 := ⟨by kernel_rfl⟩
instance : CAgg Tryz.prog 192 2 := ⟨by kernel_rfl⟩
instance : CSize Tryz.prog 192 2 := ⟨by kernel_rfl⟩
instance : CZero Tryz.prog 192 (.agg #[.slice none 0 0, .int .i64 0]) := ⟨by kernel_rfl⟩
instance : CBytes Tryz.prog 192 32 := ⟨by kernel_rfl⟩
instance : CPlaces Tryz.prog 192 [(0, 1), (1, 1)] := ⟨by kernel_rfl⟩
instance : CField Tryz.prog 192 0 0 := ⟨by kernel_rfl⟩
instance : CField Tryz.prog 192 1 1 := ⟨by kernel_rfl⟩
instance : CSize Tryz.prog 193 1 := ⟨by kernel_rfl⟩
instance : CNotAgg Tryz.prog 193 := ⟨by kernel_rfl⟩
instance : CBytes Tryz.prog 193 8 := ⟨by kernel_rfl⟩
instance : CSize Tryz.prog 194 1 := ⟨by kernel_rfl⟩
instance : CNotAgg Tryz.prog 194 := ⟨by kernel_rfl⟩
instance : CZero Tryz.prog 194 (.tuple #[.slice none 0 0, .slice none 0 0, .int .i64 0]) := ⟨by kernel_rfl⟩
instance : CBytes Tryz.prog 194 0 := ⟨by kernel_rfl⟩
instance : CSize Tryz.prog 195 1 := ⟨by kernel_rfl⟩
instance : CNotAgg Tryz.prog 195 := ⟨by kernel_rfl⟩
instance : CBytes Tryz.prog 195 8 := ⟨by kernel_rfl⟩
instance : CSize Tryz.prog 196 1 := ⟨by kernel_rfl⟩
instance : CNotAgg Tryz.prog 196 := ⟨by kernel_rfl⟩
instance : CZero Tryz.prog 196 (.tuple #[.int .i64 0, .int .i64 0]) := ⟨by kernel_rfl⟩
instance : CBytes Tryz.prog 196 0 := ⟨by kernel_rfl⟩
instance : CSize Tryz.prog 197 1 := ⟨by kernel_rfl⟩
instance : CNotAgg Tryz.prog 197 := ⟨by kernel_rfl⟩
instance : CBytes Tryz.prog 197 8 := ⟨by kernel_rfl⟩
instance : CSize Tryz.prog 198 1 := ⟨by kernel_rfl⟩
instance : CNotAgg Tryz.prog 198 := ⟨by kernel_rfl⟩
instance : CZero Tryz.prog 198 (.tuple #[.int .i64 0, .bool false]) := ⟨by kernel_rfl⟩
instance : CBytes Tryz.prog 198 0 := ⟨by kernel_rfl⟩
instance : CSize Tryz.prog 199 1 := ⟨by kernel_rfl⟩
instance : CNotAgg Tryz.prog 199 := ⟨by kernel_rfl⟩
instance : CBytes Tryz.prog 199 8 := ⟨by kernel_rfl⟩
instance : CSize Tryz.prog 200 1 := ⟨by kernel_rfl⟩
instance : CNotAgg Tryz.prog 200 := ⟨by kernel_rfl⟩
instance : CBytes Tryz.prog 200 8 := ⟨by kernel_rfl⟩
instance : CSize Tryz.prog 201 1 := ⟨by kernel_rfl⟩
instance : CNotAgg Tryz.prog 201 := ⟨by kernel_rfl⟩
instance : CBytes Tryz.prog 201 8 := ⟨by kernel_rfl⟩
instance : CSize Tryz.prog 202 1 := ⟨by kernel_rfl⟩
instance : CNotAgg Tryz.prog 202 := ⟨by kernel_rfl⟩
instance : CBytes Tryz.prog 202 8 := ⟨by kernel_rfl⟩
instance : CSize Tryz.prog 203 1 := ⟨by kernel_rfl⟩
instance : CNotAgg Tryz.prog 203 := ⟨by kernel_rfl⟩
instance : CBytes Tryz.prog 203 8 := ⟨by kernel_rfl⟩
instance : CSize Tryz.prog 204 1 := ⟨by kernel_rfl⟩
instance : CNotAgg Tryz.prog 204 := ⟨by kernel_rfl⟩
instance : CBytes Tryz.prog 204 8 := ⟨by kernel_rfl⟩
instance : CSize Tryz.prog 205 1 := ⟨by kernel_rfl⟩
instance : CNotAgg Tryz.prog 205 := ⟨by kernel_rfl⟩
instance : CBytes Tryz.prog 205 8 := ⟨by kernel_rfl⟩
instance : CSize Tryz.prog 206 1 := ⟨by kernel_rfl⟩
instance : CNotAgg Tryz.prog 206 := ⟨by kernel_rfl⟩
instance : CBytes Tryz.prog 206 8 := ⟨by kernel_rfl⟩
instance : CSlice Tryz.prog 207 153 3 := ⟨by kernel_rfl⟩
instance : CSize Tryz.prog 207 1 := ⟨by kernel_rfl⟩
instance : CNotAgg Tryz.prog 207 := ⟨by kernel_rfl⟩
instance : CIsSlice Tryz.prog 207 := ⟨by kernel_rfl⟩
instance : CZero Tryz.prog 207 (.slice none 0 0) := ⟨by kernel_rfl⟩
instance : CBytes Tryz.prog 207 24 := ⟨by kernel_rfl⟩
instance : CAgg Tryz.prog 208 5 := ⟨by kernel_rfl⟩
instance : CSize Tryz.prog 208 5 := ⟨by kernel_rfl⟩
instance : CZero Tryz.prog 208 (.agg #[.string ⟨#[]⟩, .bool false, .slice none 0 0, .slice none 0 0, .slice none 0 0]) := ⟨by kernel_rfl⟩
instance : CBytes Tryz.prog 208 96 := ⟨by kernel_rfl⟩
instance : CPlaces Tryz.prog 208 [(0, 1), (1, 3), (4, 1)] := ⟨by kernel_rfl⟩
instance : CField Tryz.prog 208 0 0 := ⟨by kernel_rfl⟩
instance : CField Tryz.prog 208 1 1 := ⟨by kernel_rfl⟩
instance : CField Tryz.prog 208 2 4 := ⟨by kernel_rfl⟩
instance : CAgg Tryz.prog 209 5 := ⟨by kernel_rfl⟩
instance : CSize Tryz.prog 209 5 := ⟨by kernel_rfl⟩
instance : CZero Tryz.prog 209 (.agg #[.string ⟨#[]⟩, .bool false, .slice none 0 0, .slice none 0 0, .slice none 0 0]) := ⟨by kernel_rfl⟩
instance : CBytes Tryz.prog 209 96 := ⟨by kernel_rfl⟩
instance : CPlaces Tryz.prog 209 [(0, 1), (1, 3), (4, 1)] := ⟨by kernel_rfl⟩
instance : CField Tryz.prog 209 0 0 := ⟨by kernel_rfl⟩
instance : CField Tryz.prog 209 1 1 := ⟨by kernel_rfl⟩
instance : CField Tryz.prog 209 2 4 := ⟨by kernel_rfl⟩
instance : CSize Tryz.prog 210 1 := ⟨by kernel_rfl⟩
instance : CNotAgg Tryz.prog 210 := ⟨by kernel_rfl⟩
instance : CBytes Tryz.prog 210 8 := ⟨by kernel_rfl⟩
instance : CSize Tryz.prog 211 1 := ⟨by kernel_rfl⟩
instance : CNotAgg Tryz.prog 211 := ⟨by kernel_rfl⟩
instance : CBytes Tryz.prog 211 8 := ⟨by kernel_rfl⟩
instance : CSize Tryz.prog 212 1 := ⟨by kernel_rfl⟩
instance : CNotAgg Tryz.prog 212 := ⟨by kernel_rfl⟩
instance : CBytes Tryz.prog 212 8 := ⟨by kernel_rfl⟩
instance : CSize Tryz.prog 213 1 := ⟨by kernel_rfl⟩
instance : CNotAgg Tryz.prog 213 := ⟨by kernel_rfl⟩
instance : CZero Tryz.prog 213 (.tuple #[.agg #[.bool false, .slice none 0 0, .slice none 0 0], .bool false]) := ⟨by kernel_rfl⟩
instance : CBytes Tryz.prog 213 0 := ⟨by kernel_rfl⟩
instance : CSize Tryz.prog 214 1 := ⟨by kernel_rfl⟩
instance : CNotAgg Tryz.prog 214 := ⟨by kernel_rfl⟩
instance : CBytes Tryz.prog 214 8 := ⟨by kernel_rfl⟩
instance : CSize Tryz.prog 215 1 := ⟨by kernel_rfl⟩
instance : CNotAgg Tryz.prog 215 := ⟨by kernel_rfl⟩
instance : CBytes Tryz.prog 215 8 := ⟨by kernel_rfl⟩
instance : CSize Tryz.prog 216 1 := ⟨by kernel_rfl⟩
instance : CNotAgg Tryz.prog 216 := ⟨by kernel_rfl⟩
instance : CBytes Tryz.prog 216 8 := ⟨by kernel_rfl⟩
instance : CSize Tryz.prog 217 1 := ⟨by kernel_rfl⟩
instance : CNotAgg Tryz.prog 217 := ⟨by kernel_rfl⟩
instance : CBytes Tryz.prog 217 8 := ⟨by kernel_rfl⟩
instance : CSize Tryz.prog 218 1 := ⟨by kernel_rfl⟩
instance : CNotAgg Tryz.prog 218 := ⟨by kernel_rfl⟩
instance : CBytes Tryz.prog 218 8 := ⟨by kernel_rfl⟩
instance : CSize Tryz.prog 219 1 := ⟨by kernel_rfl⟩
instance : CNotAgg Tryz.prog 219 := ⟨by kernel_rfl⟩
instance : CBytes Tryz.prog 219 8 := ⟨by kernel_rfl⟩
instance : CSize Tryz.prog 220 1 := ⟨by kernel_rfl⟩
instance : CNotAgg Tryz.prog 220 := ⟨by kernel_rfl⟩
instance : CBytes Tryz.prog 220 8 := ⟨by kernel_rfl⟩
instance : CSize Tryz.prog 221 1 := ⟨by kernel_rfl⟩
instance : CNotAgg Tryz.prog 221 := ⟨by kernel_rfl⟩
instance : CBytes Tryz.prog 221 8 := ⟨by kernel_rfl⟩
instance : CSize Tryz.prog 222 1 := ⟨by kernel_rfl⟩
instance : CNotAgg Tryz.prog 222 := ⟨by kernel_rfl⟩
instance : CBytes Tryz.prog 222 8 := ⟨by kernel_rfl⟩
instance : CSize Tryz.prog 223 1 := ⟨by kernel_rfl⟩
instance : CNotAgg Tryz.prog 223 := ⟨by kernel_rfl⟩
instance : CBytes Tryz.prog 223 8 := ⟨by kernel_rfl⟩
instance : CSize Tryz.prog 224 1 := ⟨by kernel_rfl⟩
instance : CNotAgg Tryz.prog 224 := ⟨by kernel_rfl⟩
instance : CBytes Tryz.prog 224 8 := ⟨by kernel_rfl⟩
instance : CSize Tryz.prog 225 1 := ⟨by kernel_rfl⟩
instance : CNotAgg Tryz.prog 225 := ⟨by kernel_rfl⟩
instance : CBytes Tryz.prog 225 8 := ⟨by kernel_rfl⟩
instance : CSize Tryz.prog 226 1 := ⟨by kernel_rfl⟩
instance : CNotAgg Tryz.prog 226 := ⟨by kernel_rfl⟩
instance : CBytes Tryz.prog 226 8 := ⟨by kernel_rfl⟩
instance : CSize Tryz.prog 227 1 := ⟨by kernel_rfl⟩
instance : CNotAgg Tryz.prog 227 := ⟨by kernel_rfl⟩
instance : CBytes Tryz.prog 227 8 := ⟨by kernel_rfl⟩
instance : CSize Tryz.prog 228 1 := ⟨by kernel_rfl⟩
instance : CNotAgg Tryz.prog 228 := ⟨by kernel_rfl⟩
instance : CBytes Tryz.prog 228 8 := ⟨by kernel_rfl⟩
instance : CSize Tryz.prog 229 1 := ⟨by kernel_rfl⟩
instance : CNotAgg Tryz.prog 229 := ⟨by kernel_rfl⟩
instance : CBytes Tryz.prog 229 8 := ⟨by kernel_rfl⟩
instance : CSize Tryz.prog 230 1 := ⟨by kernel_rfl⟩
instance : CNotAgg Tryz.prog 230 := ⟨by kernel_rfl⟩
instance : CBytes Tryz.prog 230 8 := ⟨by kernel_rfl⟩
instance : CSize Tryz.prog 231 1 := ⟨by kernel_rfl⟩
instance : CNotAgg Tryz.prog 231 := ⟨by kernel_rfl⟩
instance : CBytes Tryz.prog 231 8 := ⟨by kernel_rfl⟩
instance : CSize Tryz.prog 232 1 := ⟨by kernel_rfl⟩
instance : CNotAgg Tryz.prog 232 := ⟨by kernel_rfl⟩
instance : CZero Tryz.prog 232 (.tuple #[.int .u64 0, .int .u64 0]) := ⟨by kernel_rfl⟩
instance : CBytes Tryz.prog 232 0 := ⟨by kernel_rfl⟩
instance : CSize Tryz.prog 233 1 := ⟨by kernel_rfl⟩
instance : CNotAgg Tryz.prog 233 := ⟨by kernel_rfl⟩
instance : CBytes Tryz.prog 233 8 := ⟨by kernel_rfl⟩
instance : CSize Tryz.prog 234 1 := ⟨by kernel_rfl⟩
instance : CNotAgg Tryz.prog 234 := ⟨by kernel_rfl⟩
instance : CBytes Tryz.prog 234 8 := ⟨by kernel_rfl⟩
instance : CSize Tryz.prog 235 1 := ⟨by kernel_rfl⟩
instance : CNotAgg Tryz.prog 235 := ⟨by kernel_rfl⟩
instance : CBytes Tryz.prog 235 8 := ⟨by kernel_rfl⟩
instance : CSize Tryz.prog 236 1 := ⟨by kernel_rfl⟩
instance : CNotAgg Tryz.prog 236 := ⟨by kernel_rfl⟩
instance : CBytes Tryz.prog 236 8 := ⟨by kernel_rfl⟩
instance : CSize Tryz.prog 237 1 := ⟨by kernel_rfl⟩
instance : CNotAgg Tryz.prog 237 := ⟨by kernel_rfl⟩
instance : CBytes Tryz.prog 237 8 := ⟨by kernel_rfl⟩
instance : CSize Tryz.prog 238 1 := ⟨by kernel_rfl⟩
instance : CNotAgg Tryz.prog 238 := ⟨by kernel_rfl⟩
instance : CBytes Tryz.prog 238 8 := ⟨by kernel_rfl⟩
instance : CSize Tryz.prog 239 1 := ⟨by kernel_rfl⟩
instance : CNotAgg Tryz.prog 239 := ⟨by kernel_rfl⟩
instance : CBytes Tryz.prog 239 8 := ⟨by kernel_rfl⟩
instance : CSize Tryz.prog 240 1 := ⟨by kernel_rfl⟩
instance : CNotAgg Tryz.prog 240 := ⟨by kernel_rfl⟩
instance : CZero Tryz.prog 240 (.int .u32 0) := ⟨by kernel_rfl⟩
instance : CBytes Tryz.prog 240 4 := ⟨by kernel_rfl⟩
instance : CInt Tryz.prog 240 .u32 := ⟨by kernel_rfl⟩
instance : CSize Tryz.prog 241 1 := ⟨by kernel_rfl⟩
instance : CNotAgg Tryz.prog 241 := ⟨by kernel_rfl⟩
instance : CBytes Tryz.prog 241 8 := ⟨by kernel_rfl⟩
instance : CSize Tryz.prog 242 1 := ⟨by kernel_rfl⟩
instance : CNotAgg Tryz.prog 242 := ⟨by kernel_rfl⟩
instance : CBytes Tryz.prog 242 8 := ⟨by kernel_rfl⟩
instance : CSize Tryz.prog 243 1 := ⟨by kernel_rfl⟩
instance : CNotAgg Tryz.prog 243 := ⟨by kernel_rfl⟩
instance : CBytes Tryz.prog 243 8 := ⟨by kernel_rfl⟩
instance : CSize Tryz.prog 244 1 := ⟨by kernel_rfl⟩
instance : CNotAgg Tryz.prog 244 := ⟨by kernel_rfl⟩
instance : CBytes Tryz.prog 244 8 := ⟨by kernel_rfl⟩
instance : CSize Tryz.prog 245 1 := ⟨by kernel_rfl⟩
instance : CNotAgg Tryz.prog 245 := ⟨by kernel_rfl⟩
instance : CBytes Tryz.prog 245 8 := ⟨by kernel_rfl⟩
instance : CSize Tryz.prog 246 1 := ⟨by kernel_rfl⟩
instance : CNotAgg Tryz.prog 246 := ⟨by kernel_rfl⟩
instance : CBytes Tryz.prog 246 8 := ⟨by kernel_rfl⟩
instance : CSize Tryz.prog 247 1 := ⟨by kernel_rfl⟩
instance : CNotAgg Tryz.prog 247 := ⟨by kernel_rfl⟩
instance : CBytes Tryz.prog 247 8 := ⟨by kernel_rfl⟩
instance : CSize Tryz.prog 248 1 := ⟨by kernel_rfl⟩
instance : CNotAgg Tryz.prog 248 := ⟨by kernel_rfl⟩
instance : CBytes Tryz.prog 248 8 := ⟨by kernel_rfl⟩
instance : CSize Tryz.prog 249 1 := ⟨by kernel_rfl⟩
instance : CNotAgg Tryz.prog 249 := ⟨by kernel_rfl⟩
instance : CBytes Tryz.prog 249 16 := ⟨by kernel_rfl⟩
instance : CSize Tryz.prog 250 1 := ⟨by kernel_rfl⟩
instance : CNotAgg Tryz.prog 250 := ⟨by kernel_rfl⟩
instance : CBytes Tryz.prog 250 16 := ⟨by kernel_rfl⟩
instance : CSize Tryz.prog 251 1 := ⟨by kernel_rfl⟩
instance : CNotAgg Tryz.prog 251 := ⟨by kernel_rfl⟩
instance : CBytes Tryz.prog 251 8 := ⟨by kernel_rfl⟩
instance : CSize Tryz.prog 252 1 := ⟨by kernel_rfl⟩
instance : CNotAgg Tryz.prog 252 := ⟨by kernel_rfl⟩
instance : CZero Tryz.prog 252 (.tuple #[.slice none 0 0, .slice none 0 0, .bool false]) := ⟨by kernel_rfl⟩
instance : CBytes Tryz.prog 252 0 := ⟨by kernel_rfl⟩
instance : CSize Tryz.prog 253 1 := ⟨by kernel_rfl⟩
instance : CNotAgg Tryz.prog 253 := ⟨by kernel_rfl⟩
instance : CBytes Tryz.prog 253 8 := ⟨by kernel_rfl⟩
instance : CSize Tryz.prog 254 1 := ⟨by kernel_rfl⟩
instance : CNotAgg Tryz.prog 254 := ⟨by kernel_rfl⟩
instance : CBytes Tryz.prog 254 8 := ⟨by kernel_rfl⟩
instance : CSize Tryz.prog 255 1 := ⟨by kernel_rfl⟩
instance : CNotAgg Tryz.prog 255 := ⟨by kernel_rfl⟩
instance : CBytes Tryz.prog 255 8 := ⟨by kernel_rfl⟩
instance : CSize Tryz.prog 256 1 := ⟨by kernel_rfl⟩
instance : CNotAgg Tryz.prog 256 := ⟨by kernel_rfl⟩
instance : CBytes Tryz.prog 256 8 := ⟨by kernel_rfl⟩
instance : CSize Tryz.prog 257 1 := ⟨by kernel_rfl⟩
instance : CNotAgg Tryz.prog 257 := ⟨by kernel_rfl⟩
instance : CBytes Tryz.prog 257 8 := ⟨by kernel_rfl⟩
instance : CSize Tryz.prog 258 1 := ⟨by kernel_rfl⟩
instance : CNotAgg Tryz.prog 258 := ⟨by kernel_rfl⟩
instance : CBytes Tryz.prog 258 8 := ⟨by kernel_rfl⟩
instance : CSize Tryz.prog 259 1 := ⟨by kernel_rfl⟩
instance : CNotAgg Tryz.prog 259 := ⟨by kernel_rfl⟩
instance : CBytes Tryz.prog 259 8 := ⟨by kernel_rfl⟩
instance : CSize Tryz.prog 260 1 := ⟨by kernel_rfl⟩
instance : CNotAgg Tryz.prog 260 := ⟨by kernel_rfl⟩
instance : CZero Tryz.prog 260 (.tuple #[.slice none 0 0, .int .u32 0]) := ⟨by kernel_rfl⟩
instance : CBytes Tryz.prog 260 0 := ⟨by kernel_rfl⟩
instance : CSize Tryz.prog 261 1 := ⟨by kernel_rfl⟩
instance : CNotAgg Tryz.prog 261 := ⟨by kernel_rfl⟩
instance : CBytes Tryz.prog 261 8 := ⟨by kernel_rfl⟩
instance : CSize Tryz.prog 262 1 := ⟨by kernel_rfl⟩
instance : CNotAgg Tryz.prog 262 := ⟨by kernel_rfl⟩
instance : CBytes Tryz.prog 262 8 := ⟨by kernel_rfl⟩
instance : CSize Tryz.prog 263 1 := ⟨by kernel_rfl⟩
instance : CNotAgg Tryz.prog 263 := ⟨by kernel_rfl⟩
instance : CBytes Tryz.prog 263 8 := ⟨by kernel_rfl⟩
instance : CSize Tryz.prog 264 1 := ⟨by kernel_rfl⟩
instance : CNotAgg Tryz.prog 264 := ⟨by kernel_rfl⟩
instance : CBytes Tryz.prog 264 8 := ⟨by kernel_rfl⟩
instance : CSize Tryz.prog 265 1 := ⟨by kernel_rfl⟩
instance : CNotAgg Tryz.prog 265 := ⟨by kernel_rfl⟩
instance : CBytes Tryz.prog 265 8 := ⟨by kernel_rfl⟩
instance : CSize Tryz.prog 266 1 := ⟨by kernel_rfl⟩
instance : CNotAgg Tryz.prog 266 := ⟨by kernel_rfl⟩
instance : CBytes Tryz.prog 266 8 := ⟨by kernel_rfl⟩
instance : CSize Tryz.prog 267 1 := ⟨by kernel_rfl⟩
instance : CNotAgg Tryz.prog 267 := ⟨by kernel_rfl⟩
instance : CZero Tryz.prog 267 (.tuple #[.slice none 0 0, .bool false]) := ⟨by kernel_rfl⟩
instance : CBytes Tryz.prog 267 0 := ⟨by kernel_rfl⟩
instance : CSize Tryz.prog 268 1 := ⟨by kernel_rfl⟩
instance : CNotAgg Tryz.prog 268 := ⟨by kernel_rfl⟩
instance : CBytes Tryz.prog 268 8 := ⟨by kernel_rfl⟩
instance : CSize Tryz.prog 269 1 := ⟨by kernel_rfl⟩
instance : CNotAgg Tryz.prog 269 := ⟨by kernel_rfl⟩
instance : CZero Tryz.prog 269 (.pointer none) := ⟨by kernel_rfl⟩
instance : CBytes Tryz.prog 269 8 := ⟨by kernel_rfl⟩
instance : CSize Tryz.prog 270 1 := ⟨by kernel_rfl⟩
instance : CNotAgg Tryz.prog 270 := ⟨by kernel_rfl⟩
instance : CBytes Tryz.prog 270 8 := ⟨by kernel_rfl⟩
instance : CAgg Tryz.prog 271 4 := ⟨by kernel_rfl⟩
instance : CSize Tryz.prog 271 4 := ⟨by kernel_rfl⟩
instance : CZero Tryz.prog 271 (.agg #[.pointer none, .pointer none, .pointer none, .string ⟨#[]⟩]) := ⟨by kernel_rfl⟩
instance : CBytes Tryz.prog 271 40 := ⟨by kernel_rfl⟩
instance : CPlaces Tryz.prog 271 [(0, 1), (1, 1), (2, 1), (3, 1)] := ⟨by kernel_rfl⟩
instance : CField Tryz.prog 271 0 0 := ⟨by kernel_rfl⟩
instance : CField Tryz.prog 271 1 1 := ⟨by kernel_rfl⟩
instance : CField Tryz.prog 271 2 2 := ⟨by kernel_rfl⟩
instance : CField Tryz.prog 271 3 3 := ⟨by kernel_rfl⟩
instance : CAgg Tryz.prog 272 4 := ⟨by kernel_rfl⟩
instance : CSize Tryz.prog 272 4 := ⟨by kernel_rfl⟩
instance : CZero Tryz.prog 272 (.agg #[.pointer none, .pointer none, .pointer none, .string ⟨#[]⟩]) := ⟨by kernel_rfl⟩
instance : CBytes Tryz.prog 272 40 := ⟨by kernel_rfl⟩
instance : CPlaces Tryz.prog 272 [(0, 1), (1, 1), (2, 1), (3, 1)] := ⟨by kernel_rfl⟩
instance : CField Tryz.prog 272 0 0 := ⟨by kernel_rfl⟩
instance : CField Tryz.prog 272 1 1 := ⟨by kernel_rfl⟩
instance : CField Tryz.prog 272 2 2 := ⟨by kernel_rfl⟩
instance : CField Tryz.prog 272 3 3 := ⟨by kernel_rfl⟩
instance : CAgg Tryz.prog 273 0 := ⟨by kernel_rfl⟩
instance : CArr Tryz.prog 273 0 1 := ⟨by kernel_rfl⟩
instance : CSize Tryz.prog 273 0 := ⟨by kernel_rfl⟩
instance : CZero Tryz.prog 273 (.agg #[]) := ⟨by kernel_rfl⟩
instance : CBytes Tryz.prog 273 0 := ⟨by kernel_rfl⟩
instance : CAgg Tryz.prog 274 0 := ⟨by kernel_rfl⟩
instance : CSize Tryz.prog 274 0 := ⟨by kernel_rfl⟩
instance : CZero Tryz.prog 274 (.agg #[]) := ⟨by kernel_rfl⟩
instance : CBytes Tryz.prog 274 0 := ⟨by kernel_rfl⟩
instance : CPlaces Tryz.prog 274 [(0, 0)] := ⟨by kernel_rfl⟩
instance : CAgg Tryz.prog 275 0 := ⟨by kernel_rfl⟩
instance : CSize Tryz.prog 275 0 := ⟨by kernel_rfl⟩
instance : CZero Tryz.prog 275 (.agg #[]) := ⟨by kernel_rfl⟩
instance : CBytes Tryz.prog 275 0 := ⟨by kernel_rfl⟩
instance : CPlaces Tryz.prog 275 [(0, 0)] := ⟨by kernel_rfl⟩
instance : CSize Tryz.prog 276 1 := ⟨by kernel_rfl⟩
instance : CNotAgg Tryz.prog 276 := ⟨by kernel_rfl⟩
instance : CBytes Tryz.prog 276 8 := ⟨by kernel_rfl⟩
instance : CSize Tryz.prog 277 1 := ⟨by kernel_rfl⟩
instance : CNotAgg Tryz.prog 277 := ⟨by kernel_rfl⟩
instance : CZero Tryz.prog 277 (.int .u8 0) := ⟨by kernel_rfl⟩
instance : CBytes Tryz.prog 277 1 := ⟨by kernel_rfl⟩
instance : CInt Tryz.prog 277 .u8 := ⟨by kernel_rfl⟩
instance : CSize Tryz.prog 278 1 := ⟨by kernel_rfl⟩
instance : CNotAgg Tryz.prog 278 := ⟨by kernel_rfl⟩
instance : CZero Tryz.prog 278 (.int .u8 0) := ⟨by kernel_rfl⟩
instance : CBytes Tryz.prog 278 1 := ⟨by kernel_rfl⟩
instance : CInt Tryz.prog 278 .u8 := ⟨by kernel_rfl⟩
instance : CSize Tryz.prog 279 1 := ⟨by kernel_rfl⟩
instance : CNotAgg Tryz.prog 279 := ⟨by kernel_rfl⟩
instance : CBytes Tryz.prog 279 8 := ⟨by kernel_rfl⟩
instance : CSize Tryz.prog 280 1 := ⟨by kernel_rfl⟩
instance : CNotAgg Tryz.prog 280 := ⟨by kernel_rfl⟩
instance : CZero Tryz.prog 280 (.pointer none) := ⟨by kernel_rfl⟩
instance : CBytes Tryz.prog 280 8 := ⟨by kernel_rfl⟩
instance : CSize Tryz.prog 281 1 := ⟨by kernel_rfl⟩
instance : CNotAgg Tryz.prog 281 := ⟨by kernel_rfl⟩
instance : CZero Tryz.prog 281 (.int .i32 0) := ⟨by kernel_rfl⟩
instance : CBytes Tryz.prog 281 4 := ⟨by kernel_rfl⟩
instance : CInt Tryz.prog 281 .i32 := ⟨by kernel_rfl⟩
instance : CSize Tryz.prog 282 1 := ⟨by kernel_rfl⟩
instance : CNotAgg Tryz.prog 282 := ⟨by kernel_rfl⟩
instance : CZero Tryz.prog 282 (.int .i32 0) := ⟨by kernel_rfl⟩
instance : CBytes Tryz.prog 282 4 := ⟨by kernel_rfl⟩
instance : CInt Tryz.prog 282 .i32 := ⟨by kernel_rfl⟩
instance : CAgg Tryz.prog 283 11 := ⟨by kernel_rfl⟩
instance : CSize Tryz.prog 283 11 := ⟨by kernel_rfl⟩
instance : CBytes Tryz.prog 283 48 := ⟨by kernel_rfl⟩
instance : CPlaces Tryz.prog 283 [(0, 1), (1, 1), (2, 1), (3, 1), (4, 1), (5, 1), (6, 1), (7, 1), (8, 1), (9, 1), (10, 1)] := ⟨by kernel_rfl⟩
instance : CField Tryz.prog 283 0 0 := ⟨by kernel_rfl⟩
instance : CField Tryz.prog 283 1 1 := ⟨by kernel_rfl⟩
instance : CField Tryz.prog 283 2 2 := ⟨by kernel_rfl⟩
instance : CField Tryz.prog 283 3 3 := ⟨by kernel_rfl⟩
instance : CField Tryz.prog 283 4 4 := ⟨by kernel_rfl⟩
instance : CField Tryz.prog 283 5 5 := ⟨by kernel_rfl⟩
instance : CField Tryz.prog 283 6 6 := ⟨by kernel_rfl⟩
instance : CField Tryz.prog 283 7 7 := ⟨by kernel_rfl⟩
instance : CField Tryz.prog 283 8 8 := ⟨by kernel_rfl⟩
instance : CField Tryz.prog 283 9 9 := ⟨by kernel_rfl⟩
instance : CField Tryz.prog 283 10 10 := ⟨by kernel_rfl⟩
instance : CAgg Tryz.prog 284 11 := ⟨by kernel_rfl⟩
instance : CSize Tryz.prog 284 11 := ⟨by kernel_rfl⟩
instance : CBytes Tryz.prog 284 48 := ⟨by kernel_rfl⟩
instance : CPlaces Tryz.prog 284 [(0, 1), (1, 1), (2, 1), (3, 1), (4, 1), (5, 1), (6, 1), (7, 1), (8, 1), (9, 1), (10, 1)] := ⟨by kernel_rfl⟩
instance : CField Tryz.prog 284 0 0 := ⟨by kernel_rfl⟩
instance : CField Tryz.prog 284 1 1 := ⟨by kernel_rfl⟩
instance : CField Tryz.prog 284 2 2 := ⟨by kernel_rfl⟩
instance : CField Tryz.prog 284 3 3 := ⟨by kernel_rfl⟩
instance : CField Tryz.prog 284 4 4 := ⟨by kernel_rfl⟩
instance : CField Tryz.prog 284 5 5 := ⟨by kernel_rfl⟩
instance : CField Tryz.prog 284 6 6 := ⟨by kernel_rfl⟩
instance : CField Tryz.prog 284 7 7 := ⟨by kernel_rfl⟩
instance : CField Tryz.prog 284 8 8 := ⟨by kernel_rfl⟩
instance : CField Tryz.prog 284 9 9 := ⟨by kernel_rfl⟩
instance : CField Tryz.prog 284 10 10 := ⟨by kernel_rfl⟩
instance : CAgg Tryz.prog 285 1 := ⟨by kernel_rfl⟩
instance : CSize Tryz.prog 285 1 := ⟨by kernel_rfl⟩
instance : CZero Tryz.prog 285 (.agg #[.string ⟨#[]⟩]) := ⟨by kernel_rfl⟩
instance : CBytes Tryz.prog 285 16 := ⟨by kernel_rfl⟩
instance : CPlaces Tryz.prog 285 [(0, 1)] := ⟨by kernel_rfl⟩
instance : CField Tryz.prog 285 0 0 := ⟨by kernel_rfl⟩
instance : CAgg Tryz.prog 286 1 := ⟨by kernel_rfl⟩
instance : CSize Tryz.prog 286 1 := ⟨by kernel_rfl⟩
instance : CZero Tryz.prog 286 (.agg #[.string ⟨#[]⟩]) := ⟨by kernel_rfl⟩
instance : CBytes Tryz.prog 286 16 := ⟨by kernel_rfl⟩
instance : CPlaces Tryz.prog 286 [(0, 1)] := ⟨by kernel_rfl⟩
instance : CField Tryz.prog 286 0 0 := ⟨by kernel_rfl⟩
instance : CSize Tryz.prog 287 1 := ⟨by kernel_rfl⟩
instance : CNotAgg Tryz.prog 287 := ⟨by kernel_rfl⟩
instance : CZero Tryz.prog 287 (.pointer none) := ⟨by kernel_rfl⟩
instance : CBytes Tryz.prog 287 8 := ⟨by kernel_rfl⟩
instance : CCall Tryz.prog 2 := ⟨by kernel_rfl⟩
instance : CCall Tryz.prog 3 := ⟨by kernel_rfl⟩
instance : CCall Tryz.prog 4 := ⟨by kernel_rfl⟩
instance : CCall Tryz.prog 5 := ⟨by kernel_rfl⟩
instance : CCall Tryz.prog 6 := ⟨by kernel_rfl⟩
instance : CCall Tryz.prog 7 := ⟨by kernel_rfl⟩
instance : CCall Tryz.prog 8 := ⟨by kernel_rfl⟩
instance : CCall Tryz.prog 9 := ⟨by kernel_rfl⟩
instance : CCall Tryz.prog 10 := ⟨by kernel_rfl⟩
instance : CCall Tryz.prog 11 := ⟨by kernel_rfl⟩
instance : CCall Tryz.prog 12 := ⟨by kernel_rfl⟩
instance : CCall Tryz.prog 13 := ⟨by kernel_rfl⟩
instance : CCall Tryz.prog 14 := ⟨by kernel_rfl⟩
instance : CCall Tryz.prog 15 := ⟨by kernel_rfl⟩
instance : CCall Tryz.prog 16 := ⟨by kernel_rfl⟩
instance : CCall Tryz.prog 17 := ⟨by kernel_rfl⟩
instance : CCall Tryz.prog 18 := ⟨by kernel_rfl⟩
instance : CCall Tryz.prog 19 := ⟨by kernel_rfl⟩
instance : CCall Tryz.prog 20 := ⟨by kernel_rfl⟩
instance : CCall Tryz.prog 21 := ⟨by kernel_rfl⟩
instance : CCall Tryz.prog 22 := ⟨by kernel_rfl⟩
instance : CCall Tryz.prog 23 := ⟨by kernel_rfl⟩
instance : CCall Tryz.prog 24 := ⟨by kernel_rfl⟩
instance : CCall Tryz.prog 25 := ⟨by kernel_rfl⟩
instance : CCall Tryz.prog 26 := ⟨by kernel_rfl⟩
instance : CCall Tryz.prog 27 := ⟨by kernel_rfl⟩
instance : CCall Tryz.prog 28 := ⟨by kernel_rfl⟩
instance : CCall Tryz.prog 29 := ⟨by kernel_rfl⟩
instance : CCall Tryz.prog 30 := ⟨by kernel_rfl⟩
instance : CCall Tryz.prog 31 := ⟨by kernel_rfl⟩
instance : CCall Tryz.prog 32 := ⟨by kernel_rfl⟩
instance : CCall Tryz.prog 33 := ⟨by kernel_rfl⟩
instance : CCall Tryz.prog 34 := ⟨by kernel_rfl⟩
instance : CCall Tryz.prog 35 := ⟨by kernel_rfl⟩
instance : CCall Tryz.prog 36 := ⟨by kernel_rfl⟩
instance : CCall Tryz.prog 37 := ⟨by kernel_rfl⟩
instance : CCall Tryz.prog 38 := ⟨by kernel_rfl⟩
instance : CCall Tryz.prog 39 := ⟨by kernel_rfl⟩
instance : CCall Tryz.prog 40 := ⟨by kernel_rfl⟩
instance : CCall Tryz.prog 41 := ⟨by kernel_rfl⟩
instance : CCall Tryz.prog 42 := ⟨by kernel_rfl⟩
instance : CCall Tryz.prog 43 := ⟨by kernel_rfl⟩
instance : CCall Tryz.prog 44 := ⟨by kernel_rfl⟩
instance : CCall Tryz.prog 45 := ⟨by kernel_rfl⟩
instance : CCall Tryz.prog 46 := ⟨by kernel_rfl⟩
instance : CCall Tryz.prog 47 := ⟨by kernel_rfl⟩
instance : CCall Tryz.prog 48 := ⟨by kernel_rfl⟩
instance : CCall Tryz.prog 49 := ⟨by kernel_rfl⟩
instance : CCall Tryz.prog 50 := ⟨by kernel_rfl⟩
instance : CCall Tryz.prog 51 := ⟨by kernel_rfl⟩
instance : CCall Tryz.prog 52 := ⟨by kernel_rfl⟩
instance : CCall Tryz.prog 53 := ⟨by kernel_rfl⟩
instance : CCall Tryz.prog 54 := ⟨by kernel_rfl⟩
instance : CCall Tryz.prog 55 := ⟨by kernel_rfl⟩
instance : CCall Tryz.prog 56 := ⟨by kernel_rfl⟩
instance : CCall Tryz.prog 57 := ⟨by kernel_rfl⟩
instance : CCall Tryz.prog 58 := ⟨by kernel_rfl⟩
instance : CCall Tryz.prog 59 := ⟨by kernel_rfl⟩
instance : CCall Tryz.prog 60 := ⟨by kernel_rfl⟩
instance : CCall Tryz.prog 61 := ⟨by kernel_rfl⟩
instance : CCall Tryz.prog 62 := ⟨by kernel_rfl⟩
instance : CCall Tryz.prog 63 := ⟨by kernel_rfl⟩
instance : CCall Tryz.prog 64 := ⟨by kernel_rfl⟩
instance : CCall Tryz.prog 65 := ⟨by kernel_rfl⟩
instance : CCall Tryz.prog 66 := ⟨by kernel_rfl⟩
instance : CCall Tryz.prog 67 := ⟨by kernel_rfl⟩
instance : CCall Tryz.prog 68 := ⟨by kernel_rfl⟩
instance : CCall Tryz.prog 69 := ⟨by kernel_rfl⟩
instance : CCall Tryz.prog 70 := ⟨by kernel_rfl⟩
instance : CCall Tryz.prog 71 := ⟨by kernel_rfl⟩
instance : CCall Tryz.prog 72 := ⟨by kernel_rfl⟩
instance : CCall Tryz.prog 73 := ⟨by kernel_rfl⟩
instance : CCall Tryz.prog 74 := ⟨by kernel_rfl⟩
instance : CCall Tryz.prog 75 := ⟨by kernel_rfl⟩
instance : CCall Tryz.prog 76 := ⟨by kernel_rfl⟩
instance : CCall Tryz.prog 77 := ⟨by kernel_rfl⟩
instance : CCall Tryz.prog 78 := ⟨by kernel_rfl⟩
instance : CCall Tryz.prog 79 := ⟨by kernel_rfl⟩
instance : CCall Tryz.prog 80 := ⟨by kernel_rfl⟩
instance : CCall Tryz.prog 81 := ⟨by kernel_rfl⟩
instance : CCall Tryz.prog 82 := ⟨by kernel_rfl⟩
instance : CCall Tryz.prog 83 := ⟨by kernel_rfl⟩
instance : CCall Tryz.prog 84 := ⟨by kernel_rfl⟩
instance : CCall Tryz.prog 85 := ⟨by kernel_rfl⟩
instance : CCall Tryz.prog 86 := ⟨by kernel_rfl⟩
instance : CCall Tryz.prog 87 := ⟨by kernel_rfl⟩
instance : CCall Tryz.prog 88 := ⟨by kernel_rfl⟩
instance : CCall Tryz.prog 89 := ⟨by kernel_rfl⟩
instance : CCall Tryz.prog 90 := ⟨by kernel_rfl⟩
instance : CCall Tryz.prog 91 := ⟨by kernel_rfl⟩
instance : CCall Tryz.prog 92 := ⟨by kernel_rfl⟩
instance : CCall Tryz.prog 93 := ⟨by kernel_rfl⟩
instance : CCall Tryz.prog 94 := ⟨by kernel_rfl⟩
instance : CCall Tryz.prog 95 := ⟨by kernel_rfl⟩
instance : CCall Tryz.prog 96 := ⟨by kernel_rfl⟩
instance : CCall Tryz.prog 97 := ⟨by kernel_rfl⟩
instance : CCall Tryz.prog 98 := ⟨by kernel_rfl⟩
instance : CCall Tryz.prog 99 := ⟨by kernel_rfl⟩
instance : CCall Tryz.prog 100 := ⟨by kernel_rfl⟩
instance : CCall Tryz.prog 101 := ⟨by kernel_rfl⟩
instance : CCall Tryz.prog 102 := ⟨by kernel_rfl⟩
instance : CCall Tryz.prog 103 := ⟨by kernel_rfl⟩
instance : CCall Tryz.prog 104 := ⟨by kernel_rfl⟩
instance : CCall Tryz.prog 105 := ⟨by kernel_rfl⟩
instance : CCall Tryz.prog 106 := ⟨by kernel_rfl⟩
instance : CCall Tryz.prog 107 := ⟨by kernel_rfl⟩
instance : CCall Tryz.prog 108 := ⟨by kernel_rfl⟩
instance : CCall Tryz.prog 109 := ⟨by kernel_rfl⟩
instance : CCall Tryz.prog 110 := ⟨by kernel_rfl⟩
instance : CCall Tryz.prog 111 := ⟨by kernel_rfl⟩
instance : CCall Tryz.prog 112 := ⟨by kernel_rfl⟩
instance : CCall Tryz.prog 113 := ⟨by kernel_rfl⟩
instance : CCall Tryz.prog 114 := ⟨by kernel_rfl⟩
instance : CCall Tryz.prog 115 := ⟨by kernel_rfl⟩
instance : CCall Tryz.prog 116 := ⟨by kernel_rfl⟩
instance : CCall Tryz.prog 117 := ⟨by kernel_rfl⟩
instance : CCall Tryz.prog 118 := ⟨by kernel_rfl⟩
instance : CCall Tryz.prog 119 := ⟨by kernel_rfl⟩
instance : CCall Tryz.prog 120 := ⟨by kernel_rfl⟩
instance : CCall Tryz.prog 121 := ⟨by kernel_rfl⟩
instance : CCall Tryz.prog 122 := ⟨by kernel_rfl⟩
instance : CCall Tryz.prog 123 := ⟨by kernel_rfl⟩
instance : CCall Tryz.prog 124 := ⟨by kernel_rfl⟩
instance : CCall Tryz.prog 125 := ⟨by kernel_rfl⟩
instance : CCall Tryz.prog 126 := ⟨by kernel_rfl⟩
instance : CCall Tryz.prog 127 := ⟨by kernel_rfl⟩
instance : CCall Tryz.prog 128 := ⟨by kernel_rfl⟩
instance : CCall Tryz.prog 129 := ⟨by kernel_rfl⟩
instance : CCall Tryz.prog 130 := ⟨by kernel_rfl⟩
instance : CCall Tryz.prog 131 := ⟨by kernel_rfl⟩
instance : CCall Tryz.prog 132 := ⟨by kernel_rfl⟩
instance : CCall Tryz.prog 133 := ⟨by kernel_rfl⟩
instance : CCall Tryz.prog 134 := ⟨by kernel_rfl⟩
instance : CCall Tryz.prog 135 := ⟨by kernel_rfl⟩
instance : CCall Tryz.prog 136 := ⟨by kernel_rfl⟩
instance : CCall Tryz.prog 137 := ⟨by kernel_rfl⟩
instance : CCall Tryz.prog 138 := ⟨by kernel_rfl⟩
instance : CCall Tryz.prog 139 := ⟨by kernel_rfl⟩
instance : CCall Tryz.prog 140 := ⟨by kernel_rfl⟩
instance : CCall Tryz.prog 141 := ⟨by kernel_rfl⟩
instance : CCall Tryz.prog 142 := ⟨by kernel_rfl⟩
instance : CCall Tryz.prog 143 := ⟨by kernel_rfl⟩
instance : CCall Tryz.prog 144 := ⟨by kernel_rfl⟩
instance : CCall Tryz.prog 145 := ⟨by kernel_rfl⟩
instance : CCall Tryz.prog 146 := ⟨by kernel_rfl⟩
instance : CCall Tryz.prog 147 := ⟨by kernel_rfl⟩
instance : CCall Tryz.prog 148 := ⟨by kernel_rfl⟩
instance : CCall Tryz.prog 149 := ⟨by kernel_rfl⟩
instance : CCall Tryz.prog 150 := ⟨by kernel_rfl⟩
instance : CCall Tryz.prog 151 := ⟨by kernel_rfl⟩
instance : CCall Tryz.prog 152 := ⟨by kernel_rfl⟩
instance : CCall Tryz.prog 153 := ⟨by kernel_rfl⟩
instance : CCall Tryz.prog 154 := ⟨by kernel_rfl⟩
instance : CCall Tryz.prog 155 := ⟨by kernel_rfl⟩
instance : CCall Tryz.prog 156 := ⟨by kernel_rfl⟩
instance : CCall Tryz.prog 157 := ⟨by kernel_rfl⟩
instance : CCall Tryz.prog 158 := ⟨by kernel_rfl⟩
instance : CCall Tryz.prog 159 := ⟨by kernel_rfl⟩
instance : CCall Tryz.prog 160 := ⟨by kernel_rfl⟩
instance : CCall Tryz.prog 161 := ⟨by kernel_rfl⟩
instance : CCall Tryz.prog 162 := ⟨by kernel_rfl⟩
instance : CCall Tryz.prog 163 := ⟨by kernel_rfl⟩
instance : CCall Tryz.prog 164 := ⟨by kernel_rfl⟩
instance : CCall Tryz.prog 165 := ⟨by kernel_rfl⟩
instance : CCall Tryz.prog 166 := ⟨by kernel_rfl⟩
instance : CCall Tryz.prog 167 := ⟨by kernel_rfl⟩
instance : CCall Tryz.prog 168 := ⟨by kernel_rfl⟩
instance : CCall Tryz.prog 169 := ⟨by kernel_rfl⟩
instance : CCall Tryz.prog 170 := ⟨by kernel_rfl⟩
instance : CCall Tryz.prog 171 := ⟨by kernel_rfl⟩
instance : CCall Tryz.prog 172 := ⟨by kernel_rfl⟩
instance : CCall Tryz.prog 173 := ⟨by kernel_rfl⟩
instance : CCall Tryz.prog 174 := ⟨by kernel_rfl⟩
instance : CCall Tryz.prog 175 := ⟨by kernel_rfl⟩
instance : CCall Tryz.prog 176 := ⟨by kernel_rfl⟩
instance : CCall Tryz.prog 177 := ⟨by kernel_rfl⟩
instance : CCall Tryz.prog 178 := ⟨by kernel_rfl⟩
instance : CCall Tryz.prog 179 := ⟨by kernel_rfl⟩
instance : CCall Tryz.prog 180 := ⟨by kernel_rfl⟩
instance : CCall Tryz.prog 181 := ⟨by kernel_rfl⟩
instance : CCall Tryz.prog 182 := ⟨by kernel_rfl⟩
instance : CCall Tryz.prog 183 := ⟨by kernel_rfl⟩
instance : CCall Tryz.prog 184 := ⟨by kernel_rfl⟩
instance : CCall Tryz.prog 185 := ⟨by kernel_rfl⟩
instance : CCall Tryz.prog 186 := ⟨by kernel_rfl⟩
instance : CCall Tryz.prog 187 := ⟨by kernel_rfl⟩
instance : CCall Tryz.prog 188 := ⟨by kernel_rfl⟩
instance : CCall Tryz.prog 189 := ⟨by kernel_rfl⟩
instance : CCall Tryz.prog 190 := ⟨by kernel_rfl⟩
instance : CCall Tryz.prog 191 := ⟨by kernel_rfl⟩
instance : CCall Tryz.prog 192 := ⟨by kernel_rfl⟩
instance : CCall Tryz.prog 193 := ⟨by kernel_rfl⟩
instance : CCall Tryz.prog 194 := ⟨by kernel_rfl⟩
instance : CCall Tryz.prog 195 := ⟨by kernel_rfl⟩
instance : CCall Tryz.prog 196 := ⟨by kernel_rfl⟩
instance : CCall Tryz.prog 197 := ⟨by kernel_rfl⟩
instance : CCall Tryz.prog 198 := ⟨by kernel_rfl⟩
instance : CCall Tryz.prog 199 := ⟨by kernel_rfl⟩
instance : CCall Tryz.prog 200 := ⟨by kernel_rfl⟩
instance : CCall Tryz.prog 201 := ⟨by kernel_rfl⟩
instance : CCall Tryz.prog 202 := ⟨by kernel_rfl⟩
instance : CCall Tryz.prog 203 := ⟨by kernel_rfl⟩
instance : CCall Tryz.prog 204 := ⟨by kernel_rfl⟩
instance : CCall Tryz.prog 205 := ⟨by kernel_rfl⟩
instance : CCall Tryz.prog 206 := ⟨by kernel_rfl⟩
instance : CCall Tryz.prog 207 := ⟨by kernel_rfl⟩
instance : CCall Tryz.prog 208 := ⟨by kernel_rfl⟩
instance : CCall Tryz.prog 209 := ⟨by kernel_rfl⟩
instance : CCall Tryz.prog 210 := ⟨by kernel_rfl⟩
instance : CCall Tryz.prog 211 := ⟨by kernel_rfl⟩
instance : CCall Tryz.prog 212 := ⟨by kernel_rfl⟩
instance : CCall Tryz.prog 213 := ⟨by kernel_rfl⟩
instance : CCall Tryz.prog 214 := ⟨by kernel_rfl⟩
instance : CCall Tryz.prog 215 := ⟨by kernel_rfl⟩
instance : CCall Tryz.prog 216 := ⟨by kernel_rfl⟩
instance : CCall Tryz.prog 217 := ⟨by kernel_rfl⟩
instance : CCall Tryz.prog 218 := ⟨by kernel_rfl⟩
instance : CCall Tryz.prog 219 := ⟨by kernel_rfl⟩
instance : CCall Tryz.prog 220 := ⟨by kernel_rfl⟩
instance : CCall Tryz.prog 221 := ⟨by kernel_rfl⟩
instance : CCall Tryz.prog 222 := ⟨by kernel_rfl⟩
instance : CCall Tryz.prog 223 := ⟨by kernel_rfl⟩
instance : CCall Tryz.prog 224 := ⟨by kernel_rfl⟩
instance : CCall Tryz.prog 225 := ⟨by kernel_rfl⟩
instance : CCall Tryz.prog 226 := ⟨by kernel_rfl⟩
instance : CCall Tryz.prog 227 := ⟨by kernel_rfl⟩
instance : CCall Tryz.prog 228 := ⟨by kernel_rfl⟩
instance : CCall Tryz.prog 229 := ⟨by kernel_rfl⟩
instance : CCall Tryz.prog 230 := ⟨by kernel_rfl⟩
instance : CCall Tryz.prog 231 := ⟨by kernel_rfl⟩
instance : CCall Tryz.prog 232 := ⟨by kernel_rfl⟩
instance : CCall Tryz.prog 253 := ⟨by kernel_rfl⟩
instance : CInts Tryz.prog 35 2 := ⟨by kernel_rfl⟩
instance : CInts Tryz.prog 36 2 := ⟨by kernel_rfl⟩
instance : CInts Tryz.prog 43 6 := ⟨by kernel_rfl⟩
instance : CInts Tryz.prog 44 6 := ⟨by kernel_rfl⟩
instance : CInts Tryz.prog 45 3 := ⟨by kernel_rfl⟩
instance : CInts Tryz.prog 46 3 := ⟨by kernel_rfl⟩
instance : CInts Tryz.prog 50 4 := ⟨by kernel_rfl⟩
instance : CInts Tryz.prog 51 4 := ⟨by kernel_rfl⟩
instance : CInts Tryz.prog 56 5 := ⟨by kernel_rfl⟩
instance : CInts Tryz.prog 57 5 := ⟨by kernel_rfl⟩
instance : CInts Tryz.prog 89 3 := ⟨by kernel_rfl⟩
instance : CInts Tryz.prog 90 3 := ⟨by kernel_rfl⟩
instance : CInts Tryz.prog 105 2 := ⟨by kernel_rfl⟩
instance : CInts Tryz.prog 106 2 := ⟨by kernel_rfl⟩
instance : CInts Tryz.prog 182 2 := ⟨by kernel_rfl⟩
instance : CInts Tryz.prog 183 2 := ⟨by kernel_rfl⟩
end Go.Proofs.YtckhibfbdnoigaaGreatDoor

/- Contracts: lengths in bits; square roots of the program. -/
namespace Go.Proofs.YtckhibfbdnoigaaGreatDoor
open Go.RowKit
set_option maxRecDepth 100000
set_option maxHeartbeats 4000000

def len8tab : ByteArray := ⟨#[0, 1, 2, 2, 3, 3, 3, 3, 4, 4, 4, 4, 4, 4, 4, 4, 5, 5, 5, 5, 5, 5, 5, 5, 5, 5, 5, 5, 5, 5, 5, 5, 6, 6, 6, 6, 6, 6, 6, 6, 6, 6, 6, 6, 6, 6, 6, 6, 6, 6, 6, 6, 6, 6, 6, 6, 6, 6, 6, 6, 6, 6, 6, 6, 7, 7, 7, 7, 7, 7, 7, 7, 7, 7, 7, 7, 7, 7, 7, 7, 7, 7, 7, 7, 7, 7, 7, 7, 7, 7, 7, 7, 7, 7, 7, 7, 7, 7, 7, 7, 7, 7, 7, 7, 7, 7, 7, 7, 7, 7, 7, 7, 7, 7, 7, 7, 7, 7, 7, 7, 7, 7, 7, 7, 7, 7, 7, 7, 8, 8, 8, 8, 8, 8, 8, 8, 8, 8, 8, 8, 8, 8, 8, 8, 8, 8, 8, 8, 8, 8, 8, 8, 8, 8, 8, 8, 8, 8, 8, 8, 8, 8, 8, 8, 8, 8, 8, 8, 8, 8, 8, 8, 8, 8, 8, 8, 8, 8, 8, 8, 8, 8, 8, 8, 8, 8, 8, 8, 8, 8, 8, 8, 8, 8, 8, 8, 8, 8, 8, 8, 8, 8, 8, 8, 8, 8, 8, 8, 8, 8, 8, 8, 8, 8, 8, 8, 8, 8, 8, 8, 8, 8, 8, 8, 8, 8, 8, 8, 8, 8, 8, 8, 8, 8, 8, 8, 8, 8, 8, 8, 8, 8, 8, 8, 8, 8, 8, 8, 8, 8, 8, 8, 8, 8, 8, 8]⟩
def l8 (z : Nat) : Nat := (bAt len8tab z).toNat
def l16 (z : Nat) : Nat := if 256 ≤ z then l8 (z / 256) + 8 else l8 z
def l32 (z : Nat) : Nat := if 65536 ≤ z then l16 (z / 65536) + 16 else l16 z
def l64 (z : Nat) : Nat := if 4294967296 ≤ z then l32 (z / 4294967296) + 32 else l32 z
theorem l8_all : ((List.range 256).all fun z => decide (z < 2 ^ l8 z) && decide (l8 z ≤ 8)) = true := by kernel_rfl
theorem l8_lt {z : Nat} (h : z < 256) : z < 2 ^ l8 z ∧ l8 z ≤ 8 := by
  have := List.all_eq_true.1 l8_all z (List.mem_range.2 h)
  simpa using this
theorem up_lt {z k a b : Nat} (hb : b = 2 ^ a) (h : z / b < 2 ^ k) : z < 2 ^ (k + a) := by
  have hp : 0 < b := by rw [hb]; exact Nat.two_pow_pos a
  rw [Nat.pow_add, ← hb]
  exact (Nat.div_lt_iff_lt_mul hp).1 h
theorem l16_lt {z : Nat} (h : z < 65536) : z < 2 ^ l16 z ∧ l16 z ≤ 16 := by
  unfold l16
  split
  · have := l8_lt (z := z / 256) (by omega)
    exact ⟨up_lt (by decide) this.1, by omega⟩
  · have := l8_lt (z := z) (by omega)
    exact ⟨this.1, by omega⟩
theorem l32_lt {z : Nat} (h : z < 4294967296) : z < 2 ^ l32 z ∧ l32 z ≤ 32 := by
  unfold l32
  split
  · have := l16_lt (z := z / 65536) (by omega)
    exact ⟨up_lt (by decide) this.1, by omega⟩
  · have := l16_lt (z := z) (by omega)
    exact ⟨this.1, by omega⟩
theorem l64_lt {z : Nat} (h : z < 18446744073709551616) : z < 2 ^ l64 z ∧ l64 z ≤ 64 := by
  unfold l64
  split
  · have := l32_lt (z := z / 4294967296) (by omega)
    exact ⟨up_lt (by decide) this.1, by omega⟩
  · have := l32_lt (z := z) (by omega)
    exact ⟨this.1, by omega⟩
theorem l8_val {z : Nat} : (l8 z : Int) = bAt len8tab z := by
  unfold l8
  have := (bAt_range len8tab z).1
  omega
theorem fdiv_nat (z b : Nat) : ((z : Int).fdiv (b : Int)) = ((z / b : Nat) : Int) := by
  rw [Int.fdiv_eq_ediv_of_nonneg _ (by omega)]
  rfl
theorem wrap_u8 {z : Nat} (h : z < 256) : IntKind.u8.wrap (z : Int) = z := by
  have : IntKind.u8.wrap (z : Int) = (z : Int) % 256 := rfl
  rw [this]
  omega
theorem wrap_i8 {z : Nat} : IntKind.i64.wrap (bAt len8tab z) = (l8 z : Int) := by
  have h := bAt_range len8tab z
  rw [← l8_val, IntKind.wrap_i64]
  have := l8_val (z := z)
  omega
theorem l8_le (z : Nat) : l8 z ≤ 255 := by
  have h := bAt_range len8tab z
  have := l8_val (z := z)
  omega
theorem tab_size : len8tab.size = 256 := by kernel_rfl
theorem len64_ok (w : World) (x : Nat) (hx : x < 18446744073709551616) : Ok Tryz.prog 217 [.int .u64 (x : Int)].toArray w fun r _ => r = .int .i64 (l64 x : Int) := by
  have b1 := l8_le x
  have b2 := l8_le (x / 256)
  have b3 := l8_le (x / 65536)
  have b4 := l8_le (x / 65536 / 256)
  have b5 := l8_le (x / 4294967296)
  have b6 := l8_le (x / 4294967296 / 256)
  have b7 := l8_le (x / 4294967296 / 65536)
  have b8 := l8_le (x / 4294967296 / 65536 / 256)
  refine ok_enter Tryz.func217 rfl Tryz.ntmps217 rfl ?_
  focus (refine gc_seq ?_; refine gc_region ?_; refine gM rfl rfl (by conv => (lhs; whnf)) ?_; refine gO ?_; refine gc_seq ?_; refine gc_seq ?_; refine gc_region ?_; refine gM rfl rfl (by conv => (lhs; whnf)) ?_; refine gC rfl rfl rfl rfl rfl ?_; refine gO ?_; refine gc_if_dec rfl (fun _ => ?_) (fun _ => ?_); refine gc_seq ?_; refine gc_region ?_; refine gM rfl rfl (by conv => (lhs; whnf)) ?_; apply gw_d; exact det_shr rfl rfl rfl rfl (by decide) (fdiv_nat _ 4294967296); refine gM rfl rfl (by conv => (lhs; whnf)) ?_; refine gO ?_; refine gc_region ?_; refine gM rfl rfl (by conv => (lhs; whnf)) ?_; refine gO ?_; refine gc_seq ?_; refine gc_seq ?_; refine gc_region ?_; refine gM rfl rfl (by conv => (lhs; whnf)) ?_; refine gC rfl rfl rfl rfl rfl ?_; refine gO ?_; refine gc_if_dec rfl (fun _ => ?_) (fun _ => ?_); refine gc_seq ?_; refine gc_region ?_; refine gM rfl rfl (by conv => (lhs; whnf)) ?_; apply gw_d; exact det_shr rfl rfl rfl rfl (by decide) (fdiv_nat _ 65536); refine gM rfl rfl (by conv => (lhs; whnf)) ?_; refine gO ?_; refine gc_region ?_; refine gM rfl rfl (by conv => (lhs; whnf)) ?_; apply gw_d; exact det_ar rfl rfl rfl rfl rfl (by omega); refine gM rfl rfl (by conv => (lhs; whnf)) ?_; refine gO ?_; refine gc_seq ?_; refine gc_seq ?_; refine gc_region ?_; refine gM rfl rfl (by conv => (lhs; whnf)) ?_; refine gC rfl rfl rfl rfl rfl ?_; refine gO ?_; refine gc_if_dec rfl (fun _ => ?_) (fun _ => ?_); refine gc_seq ?_; refine gc_region ?_; refine gM rfl rfl (by conv => (lhs; whnf)) ?_; apply gw_d; exact det_shr rfl rfl rfl rfl (by decide) (fdiv_nat _ 256); refine gM rfl rfl (by conv => (lhs; whnf)) ?_; refine gO ?_; refine gc_region ?_; refine gM rfl rfl (by conv => (lhs; whnf)) ?_; apply gw_d; exact det_ar rfl rfl rfl rfl rfl (by omega); refine gM rfl rfl (by conv => (lhs; whnf)) ?_; refine gN ?_; refine gM rfl rfl (by conv => (lhs; whnf)) ?_; refine gM rfl rfl (by conv => (lhs; whnf)) ?_; apply gw_d; exact det_conv rfl rfl rfl (wrap_u8 (by omega)); apply gw_d; exact w_sidx (s := len8tab) rfl rfl rfl rfl rfl (by rw [tab_size]; omega); apply gw_d; exact det_conv rfl rfl rfl wrap_i8; apply gw_d; exact det_ar rfl rfl rfl rfl rfl (by omega); refine gM rfl rfl (by conv => (lhs; whnf)) ?_; refine gO ?_; refine gc_ret ?_; rotate_left; refine gc_skip ?_; refine gx_next ?_; refine gc_seq ?_; refine gc_region ?_; refine gM rfl rfl (by conv => (lhs; whnf)) ?_; refine gM rfl rfl (by conv => (lhs; whnf)) ?_; apply gw_d; exact det_conv rfl rfl rfl (wrap_u8 (by omega)); apply gw_d; exact w_sidx (s := len8tab) rfl rfl rfl rfl rfl (by rw [tab_size]; omega); apply gw_d; exact det_conv rfl rfl rfl wrap_i8; apply gw_d; exact det_ar rfl rfl rfl rfl rfl (by omega); refine gM rfl rfl (by conv => (lhs; whnf)) ?_; refine gO ?_; refine gc_ret ?_; rotate_left; refine gc_skip ?_; refine gx_next ?_; refine gc_seq ?_; refine gc_seq ?_; refine gc_region ?_; refine gM rfl rfl (by conv => (lhs; whnf)) ?_; refine gC rfl rfl rfl rfl rfl ?_; refine gO ?_; refine gc_if_dec rfl (fun _ => ?_) (fun _ => ?_); refine gc_seq ?_; refine gc_region ?_; refine gM rfl rfl (by conv => (lhs; whnf)) ?_; apply gw_d; exact det_shr rfl rfl rfl rfl (by decide) (fdiv_nat _ 256); refine gM rfl rfl (by conv => (lhs; whnf)) ?_; refine gO ?_; refine gc_region ?_; refine gM rfl rfl (by conv => (lhs; whnf)) ?_; apply gw_d; exact det_ar rfl rfl rfl rfl rfl (by omega); refine gM rfl rfl (by conv => (lhs; whnf)) ?_; refine gN ?_; refine gM rfl rfl (by conv => (lhs; whnf)) ?_; refine gM rfl rfl (by conv => (lhs; whnf)) ?_; apply gw_d; exact det_conv rfl rfl rfl (wrap_u8 (by omega)); apply gw_d; exact w_sidx (s := len8tab) rfl rfl rfl rfl rfl (by rw [tab_size]; omega); apply gw_d; exact det_conv rfl rfl rfl wrap_i8; apply gw_d; exact det_ar rfl rfl rfl rfl rfl (by omega); refine gM rfl rfl (by conv => (lhs; whnf)) ?_; refine gO ?_; refine gc_ret ?_; rotate_left; refine gc_skip ?_; refine gx_next ?_; refine gc_seq ?_; refine gc_region ?_; refine gM rfl rfl (by conv => (lhs; whnf)) ?_; refine gM rfl rfl (by conv => (lhs; whnf)) ?_; apply gw_d; exact det_conv rfl rfl rfl (wrap_u8 (by omega)); apply gw_d; exact w_sidx (s := len8tab) rfl rfl rfl rfl rfl (by rw [tab_size]; omega); apply gw_d; exact det_conv rfl rfl rfl wrap_i8; apply gw_d; exact det_ar rfl rfl rfl rfl rfl (by omega); refine gM rfl rfl (by conv => (lhs; whnf)) ?_; refine gO ?_; refine gc_ret ?_; rotate_left; refine gc_skip ?_; refine gx_next ?_; refine gc_seq ?_; refine gc_seq ?_; refine gc_region ?_; refine gM rfl rfl (by conv => (lhs; whnf)) ?_; refine gC rfl rfl rfl rfl rfl ?_; refine gO ?_; refine gc_if_dec rfl (fun _ => ?_) (fun _ => ?_); refine gc_seq ?_; refine gc_region ?_; refine gM rfl rfl (by conv => (lhs; whnf)) ?_; apply gw_d; exact det_shr rfl rfl rfl rfl (by decide) (fdiv_nat _ 65536); refine gM rfl rfl (by conv => (lhs; whnf)) ?_; refine gO ?_; refine gc_region ?_; refine gM rfl rfl (by conv => (lhs; whnf)) ?_; apply gw_d; exact det_ar rfl rfl rfl rfl rfl (by omega); refine gM rfl rfl (by conv => (lhs; whnf)) ?_; refine gO ?_; refine gc_seq ?_; refine gc_seq ?_; refine gc_region ?_; refine gM rfl rfl (by conv => (lhs; whnf)) ?_; refine gC rfl rfl rfl rfl rfl ?_; refine gO ?_; refine gc_if_dec rfl (fun _ => ?_) (fun _ => ?_); refine gc_seq ?_; refine gc_region ?_; refine gM rfl rfl (by conv => (lhs; whnf)) ?_; apply gw_d; exact det_shr rfl rfl rfl rfl (by decide) (fdiv_nat _ 256); refine gM rfl rfl (by conv => (lhs; whnf)) ?_; refine gO ?_; refine gc_region ?_; refine gM rfl rfl (by conv => (lhs; whnf)) ?_; apply gw_d; exact det_ar rfl rfl rfl rfl rfl (by omega); refine gM rfl rfl (by conv => (lhs; whnf)) ?_; refine gN ?_; refine gM rfl rfl (by conv => (lhs; whnf)) ?_; refine gM rfl rfl (by conv => (lhs; whnf)) ?_; apply gw_d; exact det_conv rfl rfl rfl (wrap_u8 (by omega)); apply gw_d; exact w_sidx (s := len8tab) rfl rfl rfl rfl rfl (by rw [tab_size]; omega); apply gw_d; exact det_conv rfl rfl rfl wrap_i8; apply gw_d; exact det_ar rfl rfl rfl rfl rfl (by omega); refine gM rfl rfl (by conv => (lhs; whnf)) ?_; refine gO ?_; refine gc_ret ?_; rotate_left; refine gc_skip ?_; refine gx_next ?_; refine gc_seq ?_; refine gc_region ?_; refine gM rfl rfl (by conv => (lhs; whnf)) ?_; refine gM rfl rfl (by conv => (lhs; whnf)) ?_; apply gw_d; exact det_conv rfl rfl rfl (wrap_u8 (by omega)); apply gw_d; exact w_sidx (s := len8tab) rfl rfl rfl rfl rfl (by rw [tab_size]; omega); apply gw_d; exact det_conv rfl rfl rfl wrap_i8; apply gw_d; exact det_ar rfl rfl rfl rfl rfl (by omega); refine gM rfl rfl (by conv => (lhs; whnf)) ?_; refine gO ?_; refine gc_ret ?_; rotate_left; refine gc_skip ?_; refine gx_next ?_; refine gc_seq ?_; refine gc_seq ?_; refine gc_region ?_; refine gM rfl rfl (by conv => (lhs; whnf)) ?_; refine gC rfl rfl rfl rfl rfl ?_; refine gO ?_; refine gc_if_dec rfl (fun _ => ?_) (fun _ => ?_); refine gc_seq ?_; refine gc_region ?_; refine gM rfl rfl (by conv => (lhs; whnf)) ?_; apply gw_d; exact det_shr rfl rfl rfl rfl (by decide) (fdiv_nat _ 256); refine gM rfl rfl (by conv => (lhs; whnf)) ?_; refine gO ?_; refine gc_region ?_; refine gM rfl rfl (by conv => (lhs; whnf)) ?_; apply gw_d; exact det_ar rfl rfl rfl rfl rfl (by omega); refine gM rfl rfl (by conv => (lhs; whnf)) ?_; refine gN ?_; refine gM rfl rfl (by conv => (lhs; whnf)) ?_; refine gM rfl rfl (by conv => (lhs; whnf)) ?_; apply gw_d; exact det_conv rfl rfl rfl (wrap_u8 (by omega)); apply gw_d; exact w_sidx (s := len8tab) rfl rfl rfl rfl rfl (by rw [tab_size]; omega); apply gw_d; exact det_conv rfl rfl rfl wrap_i8; apply gw_d; exact det_ar rfl rfl rfl rfl rfl (by omega); refine gM rfl rfl (by conv => (lhs; whnf)) ?_; refine gO ?_; refine gc_ret ?_; rotate_left; refine gc_skip ?_; refine gx_next ?_; refine gc_seq ?_; refine gc_region ?_; refine gM rfl rfl (by conv => (lhs; whnf)) ?_; refine gM rfl rfl (by conv => (lhs; whnf)) ?_; apply gw_d; exact det_conv rfl rfl rfl (wrap_u8 (by omega)); apply gw_d; exact w_sidx (s := len8tab) rfl rfl rfl rfl rfl (by rw [tab_size]; omega); apply gw_d; exact det_conv rfl rfl rfl wrap_i8; apply gw_d; exact det_ar rfl rfl rfl rfl rfl (by omega); refine gM rfl rfl (by conv => (lhs; whnf)) ?_; refine gO ?_; refine gc_ret ?_; rotate_left)
  (set_option pp.maxSteps 60 in set_option pp.deepTerms false in trace_state)
  all_goals (refine gx_ret1 (v := .int _ _) rfl rfl (fun _ _ => ?_); congr 1; unfold l64 l32 l16; split <;> split <;> split <;> omega)
theorem len_ok (w : World) (x : Nat) (hx : x < 18446744073709551616) : Ok Tryz.prog 216 [.int .u64 (x : Int)].toArray w fun r _ => r = .int .i64 (l64 x : Int) := by
  refine ok_enter Tryz.func216 rfl Tryz.ntmps216 rfl ?_
  focus (refine gc_seq ?_; refine gc_region ?_; refine gM rfl rfl (by conv => (lhs; whnf)) ?_; refine gO ?_; refine gc_seq ?_)
  refine gc_if_false rfl ?_
  focus (refine gc_skip ?_; refine gx_next ?_; refine gc_seq ?_; refine gc_region ?_; refine gM rfl rfl (by conv => (lhs; whnf)) ?_; apply gw_d; exact w_call rfl rfl (fun w _ => len64_ok w x hx) rfl; refine gM rfl rfl (by conv => (lhs; whnf)) ?_; refine gO ?_; refine gc_ret ?_)
  refine gx_ret1 (v := .int _ _) rfl rfl (fun _ _ => ?_)
  rfl
end Go.Proofs.YtckhibfbdnoigaaGreatDoor

/- Numbers of 64 bits without a sign; the product of two of them in two words. -/
namespace Go.Proofs.YtckhibfbdnoigaaGreatDoor
open Go.RowKit
set_option maxRecDepth 100000
set_option maxHeartbeats 4000000

theorem u64w (i : Int) : IntKind.u64.wrap i = i % 18446744073709551616 := rfl
section
variable {P : Program} {ops : Array Oper} {N : Nat} {w0 : World} {L : List Res} {e : Env} {o : Oper} {t : TypeId} {x y : Operand}
theorem det_mulU {i j : Nat} {yt : TypeId} (hop : o.op = .binOp .mul t x y yt) (hw : wantedE N ops e o = true) (hx : ev N e x = .int .u64 (i : Int)) (hy : ev N e y = .int .u64 (j : Int)) : Det P ops N w0 L o e (.int .u64 ((i * j % 18446744073709551616 : Nat) : Int)) :=
  det_eq (det_ar_wrap (r := IntKind.u64.wrap ((i : Int) * (j : Int))) hop hw hx hy rfl) (by rw [u64w, Int.natCast_emod, Int.natCast_mul]; rfl)
theorem det_addU {i j : Nat} {yt : TypeId} (hop : o.op = .binOp .add t x y yt) (hw : wantedE N ops e o = true) (hx : ev N e x = .int .u64 (i : Int)) (hy : ev N e y = .int .u64 (j : Int)) : Det P ops N w0 L o e (.int .u64 (((i + j) % 18446744073709551616 : Nat) : Int)) :=
  det_eq (det_ar_wrap (r := IntKind.u64.wrap ((i : Int) + (j : Int))) hop hw hx hy rfl) (by rw [u64w, Int.natCast_emod, Int.natCast_add]; rfl)
theorem det_subU {i j : Nat} {yt : TypeId} (hj : j ≤ 18446744073709551616) (hop : o.op = .binOp .sub t x y yt) (hw : wantedE N ops e o = true) (hx : ev N e x = .int .u64 (i : Int)) (hy : ev N e y = .int .u64 (j : Int)) : Det P ops N w0 L o e (.int .u64 (((i + (18446744073709551616 - j)) % 18446744073709551616 : Nat) : Int)) :=
  det_eq (det_ar_wrap (r := IntKind.u64.wrap ((i : Int) - (j : Int))) hop hw hx hy rfl) (by
    rw [u64w]
    congr 1
    omega)
theorem run_bits {b : BinOp} {k : IntKind} {i j : Int} {yt : TypeId} {v : Value} {w : World} (hb : b = .and ∨ b = .or) (hop : o.op = .binOp b t x y yt) (hx : ev N e x = .int k i) (hy : ev N e y = .int k j) (hr : (Op.intBits b k i j).run P w = .ok v w) : (execOp (ev N e) o).run P w = .ok (.value v) w := by
  unfold execOp
  rcases hb with rfl | rfl <;> simp [hop, hx, hy, eqGuard, binOp, hr]
theorem det_andM {i : Nat} {yt : TypeId} (hi : i < 18446744073709551616) (hop : o.op = .binOp .and t x y yt) (hw : wantedE N ops e o = true) (hx : ev N e x = .int .u64 (i : Int)) (hy : ev N e y = .int .u64 4294967295) : Det P ops N w0 L o e (.int .u64 ((i % 4294967296 : Nat) : Int)) :=
  det_pure hw fun w => run_bits (.inl rfl) hop hx hy (by
    have h1 : (BitVec.ofInt IntKind.u64.bits (i : Int) &&& BitVec.ofInt IntKind.u64.bits 4294967295).toNat = i % 4294967296 := by
      show (BitVec.ofInt 64 (i : Int) &&& BitVec.ofInt 64 4294967295).toNat = i % 4294967296
      rw [BitVec.toNat_and, BitVec.toNat_ofInt, BitVec.toNat_ofInt]
      have e1 : ((i : Int) % ((2 ^ 64 : Nat) : Int)).toNat = i := by
        have : ((2 ^ 64 : Nat) : Int) = 18446744073709551616 := rfl
        rw [this]
        omega
      have e2 : ((4294967295 : Int) % ((2 ^ 64 : Nat) : Int)).toNat = 2 ^ 32 - 1 := rfl
      rw [e1, e2, Nat.and_two_pow_sub_one_eq_mod]
    simp only [Op.intBits, h1]
    have h2 : IntKind.u64.wrap ((i % 4294967296 : Nat) : Int) = ((i % 4294967296 : Nat) : Int) := by
      rw [u64w]
      omega
    rw [h2]
    rfl)
def orW (i j : Nat) : Nat := (BitVec.ofInt 64 (i : Int) ||| BitVec.ofInt 64 (j : Int)).toNat
theorem orW_lt (i j : Nat) : orW i j < 18446744073709551616 := (BitVec.ofInt 64 (i : Int) ||| BitVec.ofInt 64 (j : Int)).isLt
theorem det_orU {i j : Nat} {yt : TypeId} (hop : o.op = .binOp .or t x y yt) (hw : wantedE N ops e o = true) (hx : ev N e x = .int .u64 (i : Int)) (hy : ev N e y = .int .u64 (j : Int)) : Det P ops N w0 L o e (.int .u64 ((orW i j : Nat) : Int)) :=
  det_pure hw fun w => run_bits (.inr rfl) hop hx hy (by
    have h1 : (BitVec.ofInt IntKind.u64.bits (i : Int) ||| BitVec.ofInt IntKind.u64.bits (j : Int)).toNat = orW i j := rfl
    simp only [Op.intBits, h1]
    have h2 : IntKind.u64.wrap ((orW i j : Nat) : Int) = ((orW i j : Nat) : Int) := by
      have := orW_lt i j
      rw [u64w]
      omega
    rw [h2]
    rfl)
end
theorem mul64_law {x y : Nat} : x * y = (x / 4294967296) * (y / 4294967296) * 18446744073709551616 + (x / 4294967296) * (y % 4294967296) * 4294967296 + (x % 4294967296) * (y / 4294967296) * 4294967296 + (x % 4294967296) * (y % 4294967296) := by
  have hx : x = x / 4294967296 * 4294967296 + x % 4294967296 := by omega
  have hy : y = y / 4294967296 * 4294967296 + y % 4294967296 := by omega
  generalize x / 4294967296 = a at *
  generalize x % 4294967296 = b at *
  generalize y / 4294967296 = c at *
  generalize y % 4294967296 = d at *
  subst hx hy
  simp only [Nat.add_mul, Nat.mul_add]
  have e1 : a * 4294967296 * (c * 4294967296) = a * c * 18446744073709551616 := by
    rw [Nat.mul_mul_mul_comm]
  have e2 : a * 4294967296 * d = a * d * 4294967296 := Nat.mul_right_comm _ _ _
  have e3 : b * (c * 4294967296) = b * c * 4294967296 := (Nat.mul_assoc _ _ _).symm
  omega
theorem mul64_ok (w : World) (x y : Nat) (hx : x ≤ 1099511627776) (hy : y ≤ 1099511627776) : Ok Tryz.prog 170 [.int .u64 (x : Int), .int .u64 (y : Int)].toArray w fun r _ => r = .tuple #[.int .u64 ((x * y / 18446744073709551616 : Nat) : Int), .int .u64 ((x * y % 18446744073709551616 : Nat) : Int)] := by
  have hlaw := mul64_law (x := x) (y := y)
  have a1 : x / 4294967296 ≤ 256 := by omega
  have a2 : y / 4294967296 ≤ 256 := by omega
  have a3 : x % 4294967296 ≤ 4294967295 := by omega
  have a4 : y % 4294967296 ≤ 4294967295 := by omega
  have m1 : (x / 4294967296) * (y / 4294967296) ≤ 256 * 256 := Nat.mul_le_mul a1 a2
  have m2 : (x / 4294967296) * (y % 4294967296) ≤ 256 * 4294967295 := Nat.mul_le_mul a1 a4
  have m3 : (x % 4294967296) * (y / 4294967296) ≤ 4294967295 * 256 := Nat.mul_le_mul a3 a2
  have m4 : (x % 4294967296) * (y % 4294967296) ≤ 4294967295 * 4294967295 := Nat.mul_le_mul a3 a4
  generalize hA : (x / 4294967296) * (y / 4294967296) = A at *
  generalize hB : (x / 4294967296) * (y % 4294967296) = B at *
  generalize hC : (x % 4294967296) * (y / 4294967296) = C at *
  generalize hD : (x % 4294967296) * (y % 4294967296) = D at *
  refine ok_enter Tryz.func170 rfl Tryz.ntmps170 rfl ?_
  focus (refine gc_seq ?_; refine gc_region ?_; refine gM rfl rfl (by conv => (lhs; whnf)) ?_; refine gM rfl rfl (by conv => (lhs; whnf)) ?_; refine gN ?_; refine gM rfl rfl (by conv => (lhs; whnf)) ?_; apply gw_d; exact det_andM (by omega) rfl rfl rfl rfl; refine gM rfl rfl (by conv => (lhs; whnf)) ?_; refine gN ?_; refine gM rfl rfl (by conv => (lhs; whnf)) ?_; apply gw_d; exact det_shr rfl rfl rfl rfl (by decide) (fdiv_nat _ 4294967296); refine gM rfl rfl (by conv => (lhs; whnf)) ?_; refine gN ?_; refine gM rfl rfl (by conv => (lhs; whnf)) ?_; apply gw_d; exact det_andM (by omega) rfl rfl rfl rfl; refine gM rfl rfl (by conv => (lhs; whnf)) ?_; refine gN ?_; refine gM rfl rfl (by conv => (lhs; whnf)) ?_; apply gw_d; exact det_shr rfl rfl rfl rfl (by decide) (fdiv_nat _ 4294967296); refine gM rfl rfl (by conv => (lhs; whnf)) ?_; refine gN ?_; refine gM rfl rfl (by conv => (lhs; whnf)) ?_; refine gM rfl rfl (by conv => (lhs; whnf)) ?_; apply gw_d; exact det_mulU rfl rfl rfl rfl; refine gM rfl rfl (by conv => (lhs; whnf)) ?_; refine gN ?_; refine gM rfl rfl (by conv => (lhs; whnf)) ?_; refine gM rfl rfl (by conv => (lhs; whnf)) ?_; apply gw_d; exact det_mulU rfl rfl rfl rfl; refine gM rfl rfl (by conv => (lhs; whnf)) ?_; apply gw_d; exact det_shr rfl rfl rfl rfl (by decide) (fdiv_nat _ 4294967296); apply gw_d; exact det_addU rfl rfl rfl rfl; refine gM rfl rfl (by conv => (lhs; whnf)) ?_; refine gN ?_; refine gM rfl rfl (by conv => (lhs; whnf)) ?_; apply gw_d; exact det_andM (by omega) rfl rfl rfl rfl; refine gM rfl rfl (by conv => (lhs; whnf)) ?_; refine gN ?_; refine gM rfl rfl (by conv => (lhs; whnf)) ?_; apply gw_d; exact det_shr rfl rfl rfl rfl (by decide) (fdiv_nat _ 4294967296); refine gM rfl rfl (by conv => (lhs; whnf)) ?_; refine gN ?_; refine gM rfl rfl (by conv => (lhs; whnf)) ?_; refine gM rfl rfl (by conv => (lhs; whnf)) ?_; refine gM rfl rfl (by conv => (lhs; whnf)) ?_; apply gw_d; exact det_mulU rfl rfl rfl rfl; apply gw_d; exact det_addU rfl rfl rfl rfl; refine gM rfl rfl (by conv => (lhs; whnf)) ?_; refine gN ?_; refine gM rfl rfl (by conv => (lhs; whnf)) ?_; refine gM rfl rfl (by conv => (lhs; whnf)) ?_; apply gw_d; exact det_mulU rfl rfl rfl rfl; refine gM rfl rfl (by conv => (lhs; whnf)) ?_; apply gw_d; exact det_addU rfl rfl rfl rfl; refine gM rfl rfl (by conv => (lhs; whnf)) ?_; apply gw_d; exact det_shr rfl rfl rfl rfl (by decide) (fdiv_nat _ 4294967296); apply gw_d; exact det_addU rfl rfl rfl rfl; refine gM rfl rfl (by conv => (lhs; whnf)) ?_; refine gN ?_; refine gM rfl rfl (by conv => (lhs; whnf)) ?_; refine gM rfl rfl (by conv => (lhs; whnf)) ?_; apply gw_d; exact det_mulU rfl rfl rfl rfl; refine gM rfl rfl (by conv => (lhs; whnf)) ?_; refine gO ?_; refine gc_ret ?_)
  (set_option pp.maxSteps 60 in set_option pp.deepTerms false in trace_state)
  refine gx_ret2 (u := .int _ _) (v := .int _ _) rfl rfl rfl (fun _ _ => ?_)
  rw [hA, hB, hC, hD]
  have hlo : x * y % 18446744073709551616 = x * y % 18446744073709551616 := rfl
  have hhi : ((A % 18446744073709551616 + (B % 18446744073709551616 + D % 18446744073709551616 / 4294967296) % 18446744073709551616 / 4294967296) % 18446744073709551616 + ((B % 18446744073709551616 + D % 18446744073709551616 / 4294967296) % 18446744073709551616 % 4294967296 + C % 18446744073709551616) % 18446744073709551616 / 4294967296) % 18446744073709551616 = x * y / 18446744073709551616 := by
    rw [hlaw]
    omega
  rw [hhi]
end Go.Proofs.YtckhibfbdnoigaaGreatDoor

/- The quotient of two words by one: it comes back. -/
namespace Go.Proofs.YtckhibfbdnoigaaGreatDoor
open Go.RowKit
set_option maxRecDepth 100000
set_option maxHeartbeats 8000000

section
variable {P : Program} {ops : Array Oper} {N : Nat} {w0 : World} {L : List Res} {e : Env} {o : Oper} {t : TypeId} {x y : Operand}
theorem pow_cast (k : Nat) : (2 : Int) ^ k = ((2 ^ k : Nat) : Int) := by
  rw [Int.natCast_pow]
  rfl
theorem det_quoU {i j : Nat} {yt : TypeId} (hi : i < 18446744073709551616) (hj : 0 < j) (hop : o.op = .binOp .quo t x y yt) (hw : wantedE N ops e o = true) (hx : ev N e x = .int .u64 (i : Int)) (hy : ev N e y = .int .u64 (j : Int)) : Det P ops N w0 L o e (.int .u64 ((i / j : Nat) : Int)) :=
  det_pure hw fun _ => by
    have h0 : ¬ (j : Int) = 0 := by omega
    have h1 : (i : Int).tdiv (j : Int) = ((i / j : Nat) : Int) := by rw [Int.tdiv_eq_ediv_of_nonneg (by omega)]; rfl
    have h2 : i / j ≤ i := Nat.div_le_self _ _
    have h : IntKind.u64.wrap ((i / j : Nat) : Int) = ((i / j : Nat) : Int) := by rw [u64w]; exact Int.emod_eq_of_lt (Int.natCast_nonneg _) (by have : ((i / j : Nat) : Int) ≤ (i : Int) := Int.ofNat_le.2 h2; omega)
    have h0' : ¬ j = 0 := by omega
    unfold execOp
    simp only [hop, hx, hy, eqGuard, binOp, Op.intDiv, h1]
    simp [h0']
    exact h
theorem rhat_lt {u d : Nat} (_hu : u < 18446744073709551616) (hd : 0 < d) : (u + (18446744073709551616 - u / d * d % 18446744073709551616)) % 18446744073709551616 < d := by
  have h1 : u / d * d ≤ u := Nat.div_mul_le_self _ _
  have h2 : u < u / d * d + d := by
    have := Nat.lt_div_mul_add (a := u) hd
    omega
  omega
theorem det_remU {i j : Nat} {yt : TypeId} (hj : 0 < j) (hop : o.op = .binOp .rem t x y yt) (hw : wantedE N ops e o = true) (hx : ev N e x = .int .u64 (i : Int)) (hy : ev N e y = .int .u64 (j : Int)) : Det P ops N w0 L o e (.int .u64 ((i % j : Nat) : Int)) :=
  det_pure hw fun _ => by
    have h1 : (i : Int).tmod (j : Int) = ((i % j : Nat) : Int) := by rw [Int.tmod_eq_emod_of_nonneg (by omega)]; rfl
    have h0' : ¬ j = 0 := by omega
    unfold execOp
    simp only [hop, hx, hy, eqGuard, binOp, Op.intDiv, h1]
    simp [h0']
theorem det_shlU {i s : Nat} {yt : TypeId} (hop : o.op = .binOp .shl t x y yt) (hw : wantedE N ops e o = true) (hx : ev N e x = .int .u64 (i : Int)) (hy : ev N e y = .int .u64 (s : Int)) : Det P ops N w0 L o e (.int .u64 ((i * 2 ^ (min s 64) % 18446744073709551616 : Nat) : Int)) :=
  det_pure hw fun w => by
    have h0 : ¬ (s : Int) < 0 := by omega
    have h1 : IntKind.u64.wrap ((i : Int) * 2 ^ (min s 64)) = ((i * 2 ^ (min s 64) % 18446744073709551616 : Nat) : Int) := by
      rw [u64w, pow_cast, Int.natCast_emod, Int.natCast_mul]
      rfl
    have h2 : IntKind.u64.bits = 64 := rfl
    unfold execOp
    simp only [hop, hx, hy, binOp, Op.shift, eqGuard, if_neg h0, h2, Int.toNat_natCast, h1]
    rfl
theorem det_shrU {i s : Nat} {yt : TypeId} (hop : o.op = .binOp .shr t x y yt) (hw : wantedE N ops e o = true) (hx : ev N e x = .int .u64 (i : Int)) (hy : ev N e y = .int .u64 (s : Int)) : Det P ops N w0 L o e (.int .u64 ((i / 2 ^ (min s 64) : Nat) : Int)) :=
  det_pure hw fun w => by
    have h0 : ¬ (s : Int) < 0 := by omega
    have h1 : ((i : Int).fdiv (2 ^ (min s 64))) = ((i / 2 ^ (min s 64) : Nat) : Int) := by rw [pow_cast]; exact fdiv_nat _ _
    have h2 : IntKind.u64.bits = 64 := rfl
    unfold execOp
    simp only [hop, hx, hy, binOp, Op.shift, eqGuard, if_neg h0, h2, Int.toNat_natCast, h1]
    rfl
end
theorem l8_low_all : ((List.range 256).all fun z => Nat.beq z 0 || decide (2 ^ l8 z ≤ 2 * z)) = true := by kernel_rfl
theorem l8_low {z : Nat} (h : z < 256) (h0 : 0 < z) : 2 ^ l8 z ≤ 2 * z := by
  have := List.all_eq_true.1 l8_low_all z (List.mem_range.2 h)
  rw [Bool.or_eq_true] at this
  rcases this with h1 | h1
  · have := Nat.eq_of_beq_eq_true h1; omega
  · exact of_decide_eq_true h1
theorem up_low {z k a b : Nat} (hb : b = 2 ^ a) (h : 2 ^ k ≤ 2 * (z / b)) : 2 ^ (k + a) ≤ 2 * z := by
  rw [Nat.pow_add, ← hb]
  have h1 := Nat.mul_le_mul_right b h
  have h2 : z / b * b ≤ z := Nat.div_mul_le_self _ _
  have h3 : 2 * (z / b) * b = 2 * (z / b * b) := Nat.mul_assoc _ _ _
  omega
theorem l64_low {z : Nat} (h : z < 18446744073709551616) (h0 : 0 < z) : 2 ^ l64 z ≤ 2 * z := by
  have s16 : ∀ z, z < 65536 → 0 < z → 2 ^ l16 z ≤ 2 * z := fun z h h0 => by
    unfold l16
    split
    · exact up_low (by decide) (l8_low (by omega) (by omega))
    · exact l8_low (by omega) h0
  have s32 : ∀ z, z < 4294967296 → 0 < z → 2 ^ l32 z ≤ 2 * z := fun z h h0 => by
    unfold l32
    split
    · exact up_low (by decide) (s16 _ (by omega) (by omega))
    · exact s16 _ (by omega) h0
  unfold l64
  split
  · exact up_low (by decide) (s32 _ (by omega) (by omega))
  · exact s32 _ (by omega) h0
theorem lz64_ok (w : World) (x : Nat) (hx : x < 18446744073709551616) : Ok Tryz.prog 196 [.int .u64 (x : Int)].toArray w fun r _ => r = .int .i64 ((64 - l64 x : Nat) : Int) := by
  have hl := (l64_lt hx).2
  refine ok_enter Tryz.func196 rfl Tryz.ntmps196 rfl ?_
  (repeat (first | (apply gw_d; (first | exact det_not rfl | (apply of_move; exact rfl; first | exact det_m rfl rfl (by conv => (lhs; whnf))) | (apply of_field; exact rfl; first | exact w_field rfl rfl rfl) | (apply of_load; exact rfl; first | exact w_load_box rfl rfl rfl .here rfl | exact w_load_box rfl rfl rfl (.there .here) rfl | exact w_load_at rfl rfl rfl (by assumption) (by assumption) | exact w_load_fld rfl rfl rfl (by assumption) (by assumption) | exact w_load_box rfl rfl rfl (.there (.there .here)) rfl | exact w_load_box rfl rfl rfl (.there (.there (.there .here))) rfl | exact w_load_box rfl rfl rfl (.there (.there (.there (.there .here)))) rfl | exact w_load_boxN rfl rfl rfl .here rfl | exact w_load_boxN rfl rfl rfl (.there .here) rfl | exact w_load_boxN rfl rfl rfl (.there (.there .here)) rfl | exact w_load_boxN rfl rfl rfl (.there (.there (.there .here))) rfl | exact w_load_boxN rfl rfl rfl (.there (.there (.there (.there .here)))) rfl | exact w_load_elem rfl rfl rfl (by assumption) (by assumption) (by rfl) | exact w_load_part rfl rfl rfl .here rfl rfl | exact w_load_part rfl rfl rfl (.there .here) rfl rfl | exact w_load_part rfl rfl rfl (.there (.there .here)) rfl rfl | exact w_load_part rfl rfl rfl (.there (.there (.there .here))) rfl rfl | exact w_load_part rfl rfl rfl (.there (.there (.there (.there .here)))) rfl rfl) | (apply of_bin; exact rfl; first | exact det_cmp rfl rfl rfl rfl rfl | exact det_ar rfl rfl rfl rfl rfl (by omega) | exact w_eq2 rfl rfl rfl rfl | exact w_ne2 rfl rfl rfl rfl | exact det_rem rfl rfl rfl rfl (by omega) (by omega) | exact det_quo rfl rfl rfl rfl (by omega) (by omega) (by omega) | exact det_seq rfl rfl rfl rfl | exact det_sne rfl rfl rfl rfl | exact det_beq rfl rfl rfl rfl rfl | exact det_bne rfl rfl rfl rfl rfl) | exact w_call rfl rfl (fun w _ => len64_ok w x hx) rfl | (apply of_call; exact rfl; first | exact w_call rfl rfl (fun w _ => len64_ok w x hx) rfl | exact w_len rfl rfl rfl | exact w_len_str rfl rfl rfl | exact w_max rfl rfl rfl rfl | exact w_min rfl rfl rfl rfl) | (apply of_index; exact rfl; first | exact w_index rfl rfl rfl rfl (by first | with_reducible exact rfl | with_reducible exact castA _ | with_reducible exact castS (by omega) | with_reducible exact castM _ _ | with_reducible exact cast0 | with_reducible exact castC _ _ | with_reducible exact castN _ _ | with_reducible exact castR _ _ | with_reducible exact castB _ | with_reducible exact cast1 | exact rfl) (by first | omega | exact Nat.mod_lt _ (by omega))) | (apply of_un; exact rfl; first | exact det_not_dec rfl rfl rfl | exact det_not_ rfl rfl rfl) | (apply of_pick; exact rfl; first | exact det_pick_t (v := .bool _) rfl rfl rfl rfl | exact det_pick_f (v := .bool _) rfl rfl rfl rfl) | (apply of_extract; exact rfl; first | exact det_extract rfl rfl rfl (by conv => (lhs; whnf))) | (apply of_cut; exact rfl; first | exact w_cut_hi rfl rfl rfl rfl (by first | with_reducible exact rfl | with_reducible exact castA _ | with_reducible exact castS (by omega) | with_reducible exact castM _ _ | with_reducible exact cast0 | with_reducible exact castC _ _ | with_reducible exact castN _ _ | with_reducible exact castR _ _ | with_reducible exact castB _ | with_reducible exact cast1 | exact rfl) (by omega)) | (apply of_sidx; exact rfl; first | exact w_sidx rfl rfl rfl rfl (by first | with_reducible exact rfl | with_reducible exact castA _ | with_reducible exact castS (by omega) | with_reducible exact castM _ _ | with_reducible exact cast0 | with_reducible exact castC _ _ | with_reducible exact castN _ _ | with_reducible exact castR _ _ | with_reducible exact castB _ | with_reducible exact cast1 | exact rfl) (by first | omega | exact Nat.mod_lt _ (by omega))))) | (apply gd_d; (first | exact det_not rfl | (apply of_move; exact rfl; first | exact det_m rfl rfl (by conv => (lhs; whnf))) | (apply of_field; exact rfl; first | exact w_field rfl rfl rfl) | (apply of_load; exact rfl; first | exact w_load_box rfl rfl rfl .here rfl | exact w_load_box rfl rfl rfl (.there .here) rfl | exact w_load_at rfl rfl rfl (by assumption) (by assumption) | exact w_load_fld rfl rfl rfl (by assumption) (by assumption) | exact w_load_box rfl rfl rfl (.there (.there .here)) rfl | exact w_load_box rfl rfl rfl (.there (.there (.there .here))) rfl | exact w_load_box rfl rfl rfl (.there (.there (.there (.there .here)))) rfl | exact w_load_boxN rfl rfl rfl .here rfl | exact w_load_boxN rfl rfl rfl (.there .here) rfl | exact w_load_boxN rfl rfl rfl (.there (.there .here)) rfl | exact w_load_boxN rfl rfl rfl (.there (.there (.there .here))) rfl | exact w_load_boxN rfl rfl rfl (.there (.there (.there (.there .here)))) rfl | exact w_load_elem rfl rfl rfl (by assumption) (by assumption) (by rfl) | exact w_load_part rfl rfl rfl .here rfl rfl | exact w_load_part rfl rfl rfl (.there .here) rfl rfl | exact w_load_part rfl rfl rfl (.there (.there .here)) rfl rfl | exact w_load_part rfl rfl rfl (.there (.there (.there .here))) rfl rfl | exact w_load_part rfl rfl rfl (.there (.there (.there (.there .here)))) rfl rfl) | (apply of_bin; exact rfl; first | exact det_cmp rfl rfl rfl rfl rfl | exact det_ar rfl rfl rfl rfl rfl (by omega) | exact w_eq2 rfl rfl rfl rfl | exact w_ne2 rfl rfl rfl rfl | exact det_rem rfl rfl rfl rfl (by omega) (by omega) | exact det_quo rfl rfl rfl rfl (by omega) (by omega) (by omega) | exact det_seq rfl rfl rfl rfl | exact det_sne rfl rfl rfl rfl | exact det_beq rfl rfl rfl rfl rfl | exact det_bne rfl rfl rfl rfl rfl) | exact w_call rfl rfl (fun w _ => len64_ok w x hx) rfl | (apply of_call; exact rfl; first | exact w_call rfl rfl (fun w _ => len64_ok w x hx) rfl | exact w_len rfl rfl rfl | exact w_len_str rfl rfl rfl | exact w_max rfl rfl rfl rfl | exact w_min rfl rfl rfl rfl) | (apply of_index; exact rfl; first | exact w_index rfl rfl rfl rfl (by first | with_reducible exact rfl | with_reducible exact castA _ | with_reducible exact castS (by omega) | with_reducible exact castM _ _ | with_reducible exact cast0 | with_reducible exact castC _ _ | with_reducible exact castN _ _ | with_reducible exact castR _ _ | with_reducible exact castB _ | with_reducible exact cast1 | exact rfl) (by first | omega | exact Nat.mod_lt _ (by omega))) | (apply of_un; exact rfl; first | exact det_not_dec rfl rfl rfl | exact det_not_ rfl rfl rfl) | (apply of_pick; exact rfl; first | exact det_pick_t (v := .bool _) rfl rfl rfl rfl | exact det_pick_f (v := .bool _) rfl rfl rfl rfl) | (apply of_extract; exact rfl; first | exact det_extract rfl rfl rfl (by conv => (lhs; whnf))) | (apply of_cut; exact rfl; first | exact w_cut_hi rfl rfl rfl rfl (by first | with_reducible exact rfl | with_reducible exact castA _ | with_reducible exact castS (by omega) | with_reducible exact castM _ _ | with_reducible exact cast0 | with_reducible exact castC _ _ | with_reducible exact castN _ _ | with_reducible exact castR _ _ | with_reducible exact castB _ | with_reducible exact cast1 | exact rfl) (by omega)) | (apply of_sidx; exact rfl; first | exact w_sidx rfl rfl rfl rfl (by first | with_reducible exact rfl | with_reducible exact castA _ | with_reducible exact castS (by omega) | with_reducible exact castM _ _ | with_reducible exact cast0 | with_reducible exact castC _ _ | with_reducible exact castN _ _ | with_reducible exact castR _ _ | with_reducible exact castB _ | with_reducible exact cast1 | exact rfl) (by first | omega | exact Nat.mod_lt _ (by omega))))) | refine gw_nil ?_ | refine gx_next ?_ | refine gc_seq ?_ | refine gc_region ?_ | refine gc_block ?_ | refine gc_skip ?_ | refine gc_exit ?_ | refine gc_ret ?_ | refine gx_block ?_ | refine gx_block_exit ?_ | refine gx_block_ret ?_ | refine gx_then_ret ?_ | refine gx_then_exit ?_ | refine gx_block_other rfl ?_ | refine gd_nil ?_))
  refine gx_ret1 (v := .int _ _) rfl rfl (fun _ _ => ?_)
  congr 1
  omega
/-- The divisor, moved up. -/
theorem norm_y {y : Nat} (h : y < 18446744073709551616) (h0 : 0 < y) : y * 2 ^ (64 - l64 y) < 18446744073709551616 ∧ 9223372036854775808 ≤ y * 2 ^ (64 - l64 y) := by
  obtain ⟨h1, h2⟩ := l64_lt h
  have h3 := l64_low h h0
  have hp : 2 ^ l64 y * 2 ^ (64 - l64 y) = 18446744073709551616 := by
    rw [← Nat.pow_add, show l64 y + (64 - l64 y) = 64 by omega]
  have hpos : 0 < 2 ^ (64 - l64 y) := Nat.two_pow_pos _
  have a := Nat.mul_lt_mul_of_pos_right h1 hpos
  have b := Nat.mul_le_mul_right (2 ^ (64 - l64 y)) h3
  have c : 2 * y * 2 ^ (64 - l64 y) = 2 * (y * 2 ^ (64 - l64 y)) := Nat.mul_assoc _ _ _
  omega
end Go.Proofs.YtckhibfbdnoigaaGreatDoor

/- The quotient of two words by one: it comes back. -/
namespace Go.Proofs.YtckhibfbdnoigaaGreatDoor
open Go.RowKit
set_option maxRecDepth 100000
set_option maxHeartbeats 8000000

theorem div64_ok (w : World) (hi lo y : Nat) (hlo : lo < 18446744073709551616) (hy : y < 18446744073709551616) (h : hi < y) : OkM Tryz.prog 171 [.int .u64 (hi : Int), .int .u64 (lo : Int), .int .u64 (y : Int)].toArray w (fun x : Nat × Nat => .tuple #[.int .u64 (x.1 : Int), .int .u64 (x.2 : Int)]) (fun _ => []) := by
  unfold OkM
  refine ok_enter Tryz.func171 rfl Tryz.ntmps171 rfl ?_
  focus (refine gc_seq ?_; refine gc_region ?_; refine gM rfl rfl (by conv => (lhs; whnf)) ?_; refine gM rfl rfl (by conv => (lhs; whnf)) ?_; refine gO ?_; refine gc_seq ?_; refine gc_seq ?_; refine gc_region ?_; refine gM rfl rfl (by conv => (lhs; whnf)) ?_; refine gC rfl rfl rfl rfl rfl ?_; refine gO ?_)
  refine gc_if_dec rfl (fun h1 => by omega) (fun _ => ?_)
  focus (refine gc_skip ?_; refine gx_next ?_; refine gc_seq ?_; refine gc_seq ?_; refine gc_region ?_; refine gM rfl rfl (by conv => (lhs; whnf)) ?_; refine gM rfl rfl (by conv => (lhs; whnf)) ?_; refine gC rfl rfl rfl rfl rfl ?_; refine gO ?_)
  refine gc_if_dec rfl (fun h1 => by omega) (fun _ => ?_)
  focus (refine gc_skip ?_; refine gx_next ?_; refine gc_seq ?_; refine gc_seq ?_; refine gc_region ?_; refine gM rfl rfl (by conv => (lhs; whnf)) ?_; refine gC rfl rfl rfl rfl rfl ?_; refine gO ?_)
  refine gc_if_dec rfl (fun h1 => ?_) (fun h1 => ?_)
  · focus (refine gc_seq ?_)
    refine gc_draw2 7 (by kernel_rfl) (by kernel_rfl) ?_
    focus (apply gd_d; exact det_m rfl rfl (by conv => (lhs; whnf)); apply gd_d; exact det_m rfl rfl (by conv => (lhs; whnf)); apply gd_d; exact det_quoU hlo (by omega) rfl rfl rfl rfl; apply gd_d; exact det_m rfl rfl (by conv => (lhs; whnf)); apply gd_d; exact det_m rfl rfl (by conv => (lhs; whnf)); apply gd_d; exact det_remU (by omega) rfl rfl rfl rfl; apply gd_d; exact det_m rfl rfl (by conv => (lhs; whnf)); refine gd_nil ?_; refine gM rfl rfl (by conv => (lhs; whnf)) ?_; refine gO ?_; refine gc_ret ?_; refine gx_then_ret ?_)
    exact gx_ret2 (u := .int _ _) (v := .int _ _) rfl rfl rfl (fun w' s => ⟨(lo / y, lo % y), rfl, trivial⟩)
  obtain ⟨n1, n2⟩ := norm_y hy (by omega)
  have hl := (l64_lt hy).2
  have hs : 64 - l64 y ≤ 64 := by omega
  have hsw : IntKind.u64.wrap ((64 - l64 y : Nat) : Int) = ((64 - l64 y : Nat) : Int) := by rw [u64w]; omega
  have hY : y * 2 ^ (min (64 - l64 y) 64) % 18446744073709551616 = y * 2 ^ (64 - l64 y) := by rw [Nat.min_eq_left hs]; omega
  generalize hsv : 64 - l64 y = s at *
  focus (refine gc_skip ?_; refine gx_next ?_; refine gc_seq ?_; refine gc_region ?_; refine gM rfl rfl (by conv => (lhs; whnf)) ?_; apply gw_d; exact w_call rfl rfl (fun w _ => by have := lz64_ok w y hy; rw [hsv] at this; exact this) rfl; apply gw_d; exact det_conv rfl rfl rfl hsw; refine gM rfl rfl (by conv => (lhs; whnf)) ?_; refine gN ?_; refine gM rfl rfl (by conv => (lhs; whnf)) ?_; refine gM rfl rfl (by conv => (lhs; whnf)) ?_; apply gw_d; exact det_eq (det_shlU rfl rfl rfl rfl) (by rw [hY]); refine gM rfl rfl (by conv => (lhs; whnf)) ?_; refine gN ?_; refine gM rfl rfl (by conv => (lhs; whnf)) ?_)
  generalize y * 2 ^ s = Y at *
  have hd0 : 0 < Y / 4294967296 := by omega
  have hd1 : Y / 4294967296 < 4294967296 := by omega
  focus (apply gw_d; exact det_shr rfl rfl rfl rfl (by decide) (fdiv_nat _ 4294967296); refine gM rfl rfl (by conv => (lhs; whnf)) ?_; refine gN ?_; refine gM rfl rfl (by conv => (lhs; whnf)) ?_; apply gw_d; exact det_andM (by omega) rfl rfl rfl rfl; refine gM rfl rfl (by conv => (lhs; whnf)) ?_; refine gN ?_; refine gM rfl rfl (by conv => (lhs; whnf)) ?_; refine gM rfl rfl (by conv => (lhs; whnf)) ?_; apply gw_d; exact det_shlU rfl rfl rfl rfl; refine gM rfl rfl (by conv => (lhs; whnf)) ?_; refine gM rfl rfl (by conv => (lhs; whnf)) ?_; apply gw_d; exact det_subU (by omega) rfl rfl rfl rfl; apply gw_d; exact det_shrU rfl rfl rfl rfl; apply gw_d; exact det_orU rfl rfl rfl rfl; refine gM rfl rfl (by conv => (lhs; whnf)) ?_; refine gN ?_; refine gM rfl rfl (by conv => (lhs; whnf)) ?_; refine gM rfl rfl (by conv => (lhs; whnf)) ?_; apply gw_d; exact det_shlU rfl rfl rfl rfl; refine gM rfl rfl (by conv => (lhs; whnf)) ?_; refine gN ?_; refine gM rfl rfl (by conv => (lhs; whnf)) ?_; apply gw_d; exact det_shr rfl rfl rfl rfl (by decide) (fdiv_nat _ 4294967296); refine gM rfl rfl (by conv => (lhs; whnf)) ?_; refine gN ?_; refine gM rfl rfl (by conv => (lhs; whnf)) ?_; apply gw_d; exact det_andM (by omega) rfl rfl rfl rfl; refine gM rfl rfl (by conv => (lhs; whnf)) ?_; refine gN ?_; refine gM rfl rfl (by conv => (lhs; whnf)) ?_; refine gM rfl rfl (by conv => (lhs; whnf)) ?_)
  generalize hu : orW (hi * 2 ^ min s 64 % 18446744073709551616) (lo / 2 ^ min ((64 + (18446744073709551616 - s)) % 18446744073709551616) 64) = U at *
  have hU : U < 18446744073709551616 := by rw [← hu]; exact orW_lt _ _
  generalize lo * 2 ^ min s 64 % 18446744073709551616 = T at *
  generalize Y / 4294967296 = D at *
  obtain ⟨M, hM⟩ : ∃ M : Nat, M = 4294967296 := ⟨_, rfl⟩
  have hdM : D < M := by omega
  generalize Y % 4294967296 = E0 at *
  focus (apply gw_d; exact det_quoU hU hd0 rfl rfl rfl rfl; refine gM rfl rfl (by conv => (lhs; whnf)) ?_; refine gN ?_; refine gM rfl rfl (by conv => (lhs; whnf)) ?_; refine gM rfl rfl (by conv => (lhs; whnf)) ?_; refine gM rfl rfl (by conv => (lhs; whnf)) ?_; apply gw_d; exact det_mulU rfl rfl rfl rfl; apply gw_d; exact det_subU (by omega) rfl rfl rfl rfl; refine gM rfl rfl (by conv => (lhs; whnf)) ?_; refine gO ?_; refine gc_seq ?_; refine gc_block ?_)
  have hR := rhat_lt hU hd0
  generalize U / D = Q at *
  generalize (U + (18446744073709551616 - Q * D % 18446744073709551616)) % 18446744073709551616 = R0 at *
  refine gc_loopK (σ := Nat × Nat) [67, 68, 69, 70, 71, 72, 73, 74, 75, 76, 77, 78, 79, 80, 15, 81, 82, 83, 16, 84, 85] (fun s => [(15, .int .u64 (s.1 : Int)), (16, .int .u64 (s.2 : Int))]) (fun s => s.2 < M) (fun s => M - s.2) (Q, R0) (by dsimp only; omega) ⟨rfl, rfl, trivial⟩ ?_
  rintro ⟨q, r⟩ base hr
  dsimp only at hr ⊢
  focus (refine gc_seq ?_; refine gc_seq ?_; refine gc_region ?_; refine gM rfl rfl (by conv => (lhs; whnf)) ?_; refine gC rfl rfl rfl rfl rfl ?_; refine gM rfl rfl (by conv => (lhs; whnf)) ?_; refine gw_guard_dec rfl rfl (fun _ => ?_) (fun _ => ?_); refine gU rfl ?_; refine gU rfl ?_; refine gU rfl ?_; refine gU rfl ?_; refine gU rfl ?_; refine gU rfl ?_; refine gU rfl ?_; refine gU rfl ?_; apply gw_d; exact det_pick_t (v := .bool _) rfl rfl rfl rfl; refine gO ?_; refine gc_if_true rfl ?_; refine gc_skip ?_; refine gx_next ?_; refine gc_block ?_; refine gc_seq ?_; refine gc_region ?_; refine gM rfl rfl (by conv => (lhs; whnf)) ?_; apply gw_d; exact det_subU (j := 1) (by omega) rfl rfl rfl rfl; refine gM rfl rfl (by conv => (lhs; whnf)) ?_; refine gN ?_; refine gM rfl rfl (by conv => (lhs; whnf)) ?_; refine gM rfl rfl (by conv => (lhs; whnf)) ?_; apply gw_d; exact det_addU rfl rfl rfl rfl; refine gM rfl rfl (by conv => (lhs; whnf)) ?_; refine gN ?_; refine gM rfl rfl (by conv => (lhs; whnf)) ?_; refine gC rfl rfl rfl rfl rfl ?_; refine gO ?_; refine gc_if_dec rfl (fun _ => ?_) (fun _ => ?_); refine gc_exit ?_; refine gx_block_other rfl ?_; refine gx_then_exit ?_; refine gx_block_exit ?_; refine gx_next ?_; refine gc_seq ?_; refine gc_region ?_; refine gM rfl rfl (by conv => (lhs; whnf)) ?_; apply gw_d; exact det_mulU rfl rfl rfl rfl; refine gM rfl rfl (by conv => (lhs; whnf)) ?_; apply gw_d; exact det_addU rfl rfl rfl rfl; refine gM rfl rfl (by conv => (lhs; whnf)) ?_; refine gM rfl rfl (by conv => (lhs; whnf)) ?_; apply gw_d; exact det_mulU rfl rfl rfl rfl; rotate_left; refine gc_skip ?_; refine gx_block ?_; rotate_left; refine gM rfl rfl (by conv => (lhs; whnf)) ?_; refine gM rfl rfl (by conv => (lhs; whnf)) ?_; apply gw_d; exact det_mulU rfl rfl rfl rfl; refine gM rfl rfl (by conv => (lhs; whnf)) ?_; apply gw_d; exact det_mulU rfl rfl rfl rfl; refine gM rfl rfl (by conv => (lhs; whnf)) ?_; apply gw_d; exact det_addU rfl rfl rfl rfl; refine gC rfl rfl rfl rfl rfl ?_; apply gw_d; exact det_pick_f (v := .bool _) rfl rfl rfl rfl; refine gO ?_; refine gc_if_dec rfl (fun _ => ?_) (fun _ => ?_); refine gc_skip ?_; refine gx_next ?_; refine gc_block ?_; refine gc_seq ?_; refine gc_region ?_; refine gM rfl rfl (by conv => (lhs; whnf)) ?_; apply gw_d; exact det_subU (j := 1) (by omega) rfl rfl rfl rfl; refine gM rfl rfl (by conv => (lhs; whnf)) ?_; refine gN ?_; refine gM rfl rfl (by conv => (lhs; whnf)) ?_; refine gM rfl rfl (by conv => (lhs; whnf)) ?_; apply gw_d; exact det_addU rfl rfl rfl rfl; refine gM rfl rfl (by conv => (lhs; whnf)) ?_; refine gN ?_; refine gM rfl rfl (by conv => (lhs; whnf)) ?_; refine gC rfl rfl rfl rfl rfl ?_; refine gO ?_; refine gc_if_dec rfl (fun _ => ?_) (fun _ => ?_); refine gc_exit ?_; refine gx_block_other rfl ?_; refine gx_then_exit ?_; refine gx_block_exit ?_; refine gx_next ?_; refine gc_seq ?_; refine gc_region ?_; refine gM rfl rfl (by conv => (lhs; whnf)) ?_; apply gw_d; exact det_mulU rfl rfl rfl rfl; refine gM rfl rfl (by conv => (lhs; whnf)) ?_; apply gw_d; exact det_addU rfl rfl rfl rfl; refine gM rfl rfl (by conv => (lhs; whnf)) ?_; refine gM rfl rfl (by conv => (lhs; whnf)) ?_; apply gw_d; exact det_mulU rfl rfl rfl rfl; rotate_left; refine gc_skip ?_; refine gx_block ?_; rotate_left; refine gc_exit ?_; refine gx_then_exit ?_; refine gx_then_exit ?_; refine gx_block_exit ?_; refine gx_next ?_; refine gc_seq ?_; refine gc_region ?_; refine gM rfl rfl (by conv => (lhs; whnf)) ?_; apply gw_d; exact det_mulU rfl rfl rfl rfl; refine gM rfl rfl (by conv => (lhs; whnf)) ?_; apply gw_d; exact det_addU rfl rfl rfl rfl; refine gM rfl rfl (by conv => (lhs; whnf)) ?_; refine gM rfl rfl (by conv => (lhs; whnf)) ?_; apply gw_d; exact det_mulU rfl rfl rfl rfl; rotate_left)
  · focus (apply gw_d; exact det_subU (Nat.le_of_lt (Nat.mod_lt _ (by omega))) rfl rfl rfl rfl; refine gM rfl rfl (by conv => (lhs; whnf)) ?_; refine gN ?_; refine gM rfl rfl (by conv => (lhs; whnf)) ?_; refine gM rfl rfl (by conv => (lhs; whnf)) ?_; apply gw_d; exact det_quoU (Nat.mod_lt _ (by omega)) hd0 rfl rfl rfl rfl; refine gM rfl rfl (by conv => (lhs; whnf)) ?_; refine gN ?_; refine gM rfl rfl (by conv => (lhs; whnf)) ?_; refine gM rfl rfl (by conv => (lhs; whnf)) ?_; refine gM rfl rfl (by conv => (lhs; whnf)) ?_; apply gw_d; exact det_mulU rfl rfl rfl rfl; apply gw_d; exact det_subU (Nat.le_of_lt (Nat.mod_lt _ (by omega))) rfl rfl rfl rfl; refine gM rfl rfl (by conv => (lhs; whnf)) ?_; refine gO ?_; refine gc_seq ?_; refine gc_block ?_)
    refine gc_loopK (σ := Nat × Nat) [102, 103, 104, 105, 106, 107, 108, 109, 110, 111, 112, 113, 114, 115, 18, 116, 117, 118, 16, 119, 120] (fun s => [(18, .int .u64 (s.1 : Int)), (16, .int .u64 (s.2 : Int))]) (fun s => s.2 < M) (fun s => M - s.2) (_, _) (Nat.lt_trans (rhat_lt (Nat.mod_lt _ (by omega)) hd0) hdM) ⟨rfl, rfl, trivial⟩ ?_
    rintro ⟨q2, r2⟩ base2 hr2
    dsimp only at hr2 ⊢
    focus (refine gc_seq ?_; refine gc_seq ?_; refine gc_region ?_; refine gM rfl rfl (by conv => (lhs; whnf)) ?_; refine gC rfl rfl rfl rfl rfl ?_; refine gM rfl rfl (by conv => (lhs; whnf)) ?_; refine gw_guard_dec rfl rfl (fun _ => ?_) (fun _ => ?_); refine gU rfl ?_; refine gU rfl ?_; refine gU rfl ?_; refine gU rfl ?_; refine gU rfl ?_; refine gU rfl ?_; refine gU rfl ?_; refine gU rfl ?_; apply gw_d; exact det_pick_t (v := .bool _) rfl rfl rfl rfl; refine gO ?_; refine gc_if_true rfl ?_; refine gc_skip ?_; refine gx_next ?_; refine gc_block ?_; refine gc_seq ?_; refine gc_region ?_; refine gM rfl rfl (by conv => (lhs; whnf)) ?_; apply gw_d; exact det_subU (j := 1) (by omega) rfl rfl rfl rfl; refine gM rfl rfl (by conv => (lhs; whnf)) ?_; refine gN ?_; refine gM rfl rfl (by conv => (lhs; whnf)) ?_; refine gM rfl rfl (by conv => (lhs; whnf)) ?_; apply gw_d; exact det_addU rfl rfl rfl rfl; refine gM rfl rfl (by conv => (lhs; whnf)) ?_; refine gN ?_; refine gM rfl rfl (by conv => (lhs; whnf)) ?_; refine gC rfl rfl rfl rfl rfl ?_; refine gO ?_; refine gc_if_dec rfl (fun _ => ?_) (fun _ => ?_); refine gc_exit ?_; refine gx_block_other rfl ?_; refine gx_then_exit ?_; refine gx_block_exit ?_; refine gx_next ?_; refine gc_seq ?_; refine gc_region ?_; refine gM rfl rfl (by conv => (lhs; whnf)) ?_; apply gw_d; exact det_mulU rfl rfl rfl rfl; refine gM rfl rfl (by conv => (lhs; whnf)) ?_; apply gw_d; exact det_addU rfl rfl rfl rfl; refine gM rfl rfl (by conv => (lhs; whnf)) ?_; apply gw_d; exact det_mulU rfl rfl rfl rfl; refine gM rfl rfl (by conv => (lhs; whnf)) ?_; apply gw_d; exact det_addU rfl rfl rfl rfl; refine gM rfl rfl (by conv => (lhs; whnf)) ?_; refine gM rfl rfl (by conv => (lhs; whnf)) ?_; apply gw_d; exact det_mulU rfl rfl rfl rfl; rotate_left; refine gc_skip ?_; refine gx_block ?_; rotate_left; refine gM rfl rfl (by conv => (lhs; whnf)) ?_; refine gM rfl rfl (by conv => (lhs; whnf)) ?_; apply gw_d; exact det_mulU rfl rfl rfl rfl; refine gM rfl rfl (by conv => (lhs; whnf)) ?_; apply gw_d; exact det_mulU rfl rfl rfl rfl; refine gM rfl rfl (by conv => (lhs; whnf)) ?_; apply gw_d; exact det_addU rfl rfl rfl rfl; refine gC rfl rfl rfl rfl rfl ?_; apply gw_d; exact det_pick_f (v := .bool _) rfl rfl rfl rfl; refine gO ?_; refine gc_if_dec rfl (fun _ => ?_) (fun _ => ?_); refine gc_skip ?_; refine gx_next ?_; refine gc_block ?_; refine gc_seq ?_; refine gc_region ?_; refine gM rfl rfl (by conv => (lhs; whnf)) ?_; apply gw_d; exact det_subU (j := 1) (by omega) rfl rfl rfl rfl; refine gM rfl rfl (by conv => (lhs; whnf)) ?_; refine gN ?_; refine gM rfl rfl (by conv => (lhs; whnf)) ?_; refine gM rfl rfl (by conv => (lhs; whnf)) ?_; apply gw_d; exact det_addU rfl rfl rfl rfl; refine gM rfl rfl (by conv => (lhs; whnf)) ?_; refine gN ?_; refine gM rfl rfl (by conv => (lhs; whnf)) ?_; refine gC rfl rfl rfl rfl rfl ?_; refine gO ?_; refine gc_if_dec rfl (fun _ => ?_) (fun _ => ?_); refine gc_exit ?_; refine gx_block_other rfl ?_; refine gx_then_exit ?_; refine gx_block_exit ?_; refine gx_next ?_; refine gc_seq ?_; refine gc_region ?_; refine gM rfl rfl (by conv => (lhs; whnf)) ?_; apply gw_d; exact det_mulU rfl rfl rfl rfl; refine gM rfl rfl (by conv => (lhs; whnf)) ?_; apply gw_d; exact det_addU rfl rfl rfl rfl; refine gM rfl rfl (by conv => (lhs; whnf)) ?_; apply gw_d; exact det_mulU rfl rfl rfl rfl; refine gM rfl rfl (by conv => (lhs; whnf)) ?_; apply gw_d; exact det_addU rfl rfl rfl rfl; refine gM rfl rfl (by conv => (lhs; whnf)) ?_; refine gM rfl rfl (by conv => (lhs; whnf)) ?_; apply gw_d; exact det_mulU rfl rfl rfl rfl; rotate_left; refine gc_skip ?_; refine gx_block ?_; rotate_left; refine gc_exit ?_; refine gx_then_exit ?_; refine gx_then_exit ?_; refine gx_block_exit ?_; refine gx_next ?_; refine gc_seq ?_; refine gc_region ?_; refine gM rfl rfl (by conv => (lhs; whnf)) ?_; apply gw_d; exact det_mulU rfl rfl rfl rfl; refine gM rfl rfl (by conv => (lhs; whnf)) ?_; apply gw_d; exact det_addU rfl rfl rfl rfl; refine gM rfl rfl (by conv => (lhs; whnf)) ?_; apply gw_d; exact det_mulU rfl rfl rfl rfl; refine gM rfl rfl (by conv => (lhs; whnf)) ?_; apply gw_d; exact det_addU rfl rfl rfl rfl; refine gM rfl rfl (by conv => (lhs; whnf)) ?_; refine gM rfl rfl (by conv => (lhs; whnf)) ?_; apply gw_d; exact det_mulU rfl rfl rfl rfl; rotate_left)
    · focus (apply gw_d; exact det_subU (Nat.le_of_lt (Nat.mod_lt _ (by omega))) rfl rfl rfl rfl; refine gM rfl rfl (by conv => (lhs; whnf)) ?_; apply gw_d; exact det_shrU rfl rfl rfl rfl; refine gM rfl rfl (by conv => (lhs; whnf)) ?_; refine gM rfl rfl (by conv => (lhs; whnf)) ?_; refine gO ?_; refine gc_ret ?_)
      exact gx_ret2 (u := .int _ _) (v := .int _ _) rfl rfl rfl (fun w' s => ⟨(_, _), rfl, trivial⟩)
    · have h1 : (r2 + D) % 18446744073709551616 < M := by omega
      have h2 : M - (r2 + D) % 18446744073709551616 < M - r2 := by omega
      exact gx_round (_, (r2 + D) % 18446744073709551616) h1 h2 (by repeat (first | with_reducible exact Keeps.refl | refine Keeps.upd rfl ?_ | refine Keeps.sets rfl ?_ | refine Keeps.havoc rfl ?_)) ⟨rfl, rfl, trivial⟩ (Sub.all _)
    · focus (apply gw_d; exact det_subU (Nat.le_of_lt (Nat.mod_lt _ (by omega))) rfl rfl rfl rfl; refine gM rfl rfl (by conv => (lhs; whnf)) ?_; apply gw_d; exact det_shrU rfl rfl rfl rfl; refine gM rfl rfl (by conv => (lhs; whnf)) ?_; refine gM rfl rfl (by conv => (lhs; whnf)) ?_; refine gO ?_; refine gc_ret ?_)
      exact gx_ret2 (u := .int _ _) (v := .int _ _) rfl rfl rfl (fun w' s => ⟨(_, _), rfl, trivial⟩)
    · have h1 : (r2 + D) % 18446744073709551616 < M := by omega
      have h2 : M - (r2 + D) % 18446744073709551616 < M - r2 := by omega
      exact gx_round (_, (r2 + D) % 18446744073709551616) h1 h2 (by repeat (first | with_reducible exact Keeps.refl | refine Keeps.upd rfl ?_ | refine Keeps.sets rfl ?_ | refine Keeps.havoc rfl ?_)) ⟨rfl, rfl, trivial⟩ (Sub.all _)
    · focus (apply gw_d; exact det_subU (Nat.le_of_lt (Nat.mod_lt _ (by omega))) rfl rfl rfl rfl; refine gM rfl rfl (by conv => (lhs; whnf)) ?_; apply gw_d; exact det_shrU rfl rfl rfl rfl; refine gM rfl rfl (by conv => (lhs; whnf)) ?_; refine gM rfl rfl (by conv => (lhs; whnf)) ?_; refine gO ?_; refine gc_ret ?_)
      exact gx_ret2 (u := .int _ _) (v := .int _ _) rfl rfl rfl (fun w' s => ⟨(_, _), rfl, trivial⟩)
  · have h1 : (r + D) % 18446744073709551616 < M := by omega
    have h2 : M - (r + D) % 18446744073709551616 < M - r := by omega
    exact gx_round (_, (r + D) % 18446744073709551616) h1 h2 (by repeat (first | with_reducible exact Keeps.refl | refine Keeps.upd rfl ?_ | refine Keeps.sets rfl ?_ | refine Keeps.havoc rfl ?_)) ⟨rfl, rfl, trivial⟩ (Sub.all _)
  · focus (apply gw_d; exact det_subU (Nat.le_of_lt (Nat.mod_lt _ (by omega))) rfl rfl rfl rfl; refine gM rfl rfl (by conv => (lhs; whnf)) ?_; refine gN ?_; refine gM rfl rfl (by conv => (lhs; whnf)) ?_; refine gM rfl rfl (by conv => (lhs; whnf)) ?_; apply gw_d; exact det_quoU (Nat.mod_lt _ (by omega)) hd0 rfl rfl rfl rfl; refine gM rfl rfl (by conv => (lhs; whnf)) ?_; refine gN ?_; refine gM rfl rfl (by conv => (lhs; whnf)) ?_; refine gM rfl rfl (by conv => (lhs; whnf)) ?_; refine gM rfl rfl (by conv => (lhs; whnf)) ?_; apply gw_d; exact det_mulU rfl rfl rfl rfl; apply gw_d; exact det_subU (Nat.le_of_lt (Nat.mod_lt _ (by omega))) rfl rfl rfl rfl; refine gM rfl rfl (by conv => (lhs; whnf)) ?_; refine gO ?_; refine gc_seq ?_; refine gc_block ?_)
    refine gc_loopK (σ := Nat × Nat) [102, 103, 104, 105, 106, 107, 108, 109, 110, 111, 112, 113, 114, 115, 18, 116, 117, 118, 16, 119, 120] (fun s => [(18, .int .u64 (s.1 : Int)), (16, .int .u64 (s.2 : Int))]) (fun s => s.2 < M) (fun s => M - s.2) (_, _) (Nat.lt_trans (rhat_lt (Nat.mod_lt _ (by omega)) hd0) hdM) ⟨rfl, rfl, trivial⟩ ?_
    rintro ⟨q2, r2⟩ base2 hr2
    dsimp only at hr2 ⊢
    focus (refine gc_seq ?_; refine gc_seq ?_; refine gc_region ?_; refine gM rfl rfl (by conv => (lhs; whnf)) ?_; refine gC rfl rfl rfl rfl rfl ?_; refine gM rfl rfl (by conv => (lhs; whnf)) ?_; refine gw_guard_dec rfl rfl (fun _ => ?_) (fun _ => ?_); refine gU rfl ?_; refine gU rfl ?_; refine gU rfl ?_; refine gU rfl ?_; refine gU rfl ?_; refine gU rfl ?_; refine gU rfl ?_; refine gU rfl ?_; apply gw_d; exact det_pick_t (v := .bool _) rfl rfl rfl rfl; refine gO ?_; refine gc_if_true rfl ?_; refine gc_skip ?_; refine gx_next ?_; refine gc_block ?_; refine gc_seq ?_; refine gc_region ?_; refine gM rfl rfl (by conv => (lhs; whnf)) ?_; apply gw_d; exact det_subU (j := 1) (by omega) rfl rfl rfl rfl; refine gM rfl rfl (by conv => (lhs; whnf)) ?_; refine gN ?_; refine gM rfl rfl (by conv => (lhs; whnf)) ?_; refine gM rfl rfl (by conv => (lhs; whnf)) ?_; apply gw_d; exact det_addU rfl rfl rfl rfl; refine gM rfl rfl (by conv => (lhs; whnf)) ?_; refine gN ?_; refine gM rfl rfl (by conv => (lhs; whnf)) ?_; refine gC rfl rfl rfl rfl rfl ?_; refine gO ?_; refine gc_if_dec rfl (fun _ => ?_) (fun _ => ?_); refine gc_exit ?_; refine gx_block_other rfl ?_; refine gx_then_exit ?_; refine gx_block_exit ?_; refine gx_next ?_; refine gc_seq ?_; refine gc_region ?_; refine gM rfl rfl (by conv => (lhs; whnf)) ?_; apply gw_d; exact det_mulU rfl rfl rfl rfl; refine gM rfl rfl (by conv => (lhs; whnf)) ?_; apply gw_d; exact det_addU rfl rfl rfl rfl; refine gM rfl rfl (by conv => (lhs; whnf)) ?_; apply gw_d; exact det_mulU rfl rfl rfl rfl; refine gM rfl rfl (by conv => (lhs; whnf)) ?_; apply gw_d; exact det_addU rfl rfl rfl rfl; refine gM rfl rfl (by conv => (lhs; whnf)) ?_; refine gM rfl rfl (by conv => (lhs; whnf)) ?_; apply gw_d; exact det_mulU rfl rfl rfl rfl; rotate_left; refine gc_skip ?_; refine gx_block ?_; rotate_left; refine gM rfl rfl (by conv => (lhs; whnf)) ?_; refine gM rfl rfl (by conv => (lhs; whnf)) ?_; apply gw_d; exact det_mulU rfl rfl rfl rfl; refine gM rfl rfl (by conv => (lhs; whnf)) ?_; apply gw_d; exact det_mulU rfl rfl rfl rfl; refine gM rfl rfl (by conv => (lhs; whnf)) ?_; apply gw_d; exact det_addU rfl rfl rfl rfl; refine gC rfl rfl rfl rfl rfl ?_; apply gw_d; exact det_pick_f (v := .bool _) rfl rfl rfl rfl; refine gO ?_; refine gc_if_dec rfl (fun _ => ?_) (fun _ => ?_); refine gc_skip ?_; refine gx_next ?_; refine gc_block ?_; refine gc_seq ?_; refine gc_region ?_; refine gM rfl rfl (by conv => (lhs; whnf)) ?_; apply gw_d; exact det_subU (j := 1) (by omega) rfl rfl rfl rfl; refine gM rfl rfl (by conv => (lhs; whnf)) ?_; refine gN ?_; refine gM rfl rfl (by conv => (lhs; whnf)) ?_; refine gM rfl rfl (by conv => (lhs; whnf)) ?_; apply gw_d; exact det_addU rfl rfl rfl rfl; refine gM rfl rfl (by conv => (lhs; whnf)) ?_; refine gN ?_; refine gM rfl rfl (by conv => (lhs; whnf)) ?_; refine gC rfl rfl rfl rfl rfl ?_; refine gO ?_; refine gc_if_dec rfl (fun _ => ?_) (fun _ => ?_); refine gc_exit ?_; refine gx_block_other rfl ?_; refine gx_then_exit ?_; refine gx_block_exit ?_; refine gx_next ?_; refine gc_seq ?_; refine gc_region ?_; refine gM rfl rfl (by conv => (lhs; whnf)) ?_; apply gw_d; exact det_mulU rfl rfl rfl rfl; refine gM rfl rfl (by conv => (lhs; whnf)) ?_; apply gw_d; exact det_addU rfl rfl rfl rfl; refine gM rfl rfl (by conv => (lhs; whnf)) ?_; apply gw_d; exact det_mulU rfl rfl rfl rfl; refine gM rfl rfl (by conv => (lhs; whnf)) ?_; apply gw_d; exact det_addU rfl rfl rfl rfl; refine gM rfl rfl (by conv => (lhs; whnf)) ?_; refine gM rfl rfl (by conv => (lhs; whnf)) ?_; apply gw_d; exact det_mulU rfl rfl rfl rfl; rotate_left; refine gc_skip ?_; refine gx_block ?_; rotate_left; refine gc_exit ?_; refine gx_then_exit ?_; refine gx_then_exit ?_; refine gx_block_exit ?_; refine gx_next ?_; refine gc_seq ?_; refine gc_region ?_; refine gM rfl rfl (by conv => (lhs; whnf)) ?_; apply gw_d; exact det_mulU rfl rfl rfl rfl; refine gM rfl rfl (by conv => (lhs; whnf)) ?_; apply gw_d; exact det_addU rfl rfl rfl rfl; refine gM rfl rfl (by conv => (lhs; whnf)) ?_; apply gw_d; exact det_mulU rfl rfl rfl rfl; refine gM rfl rfl (by conv => (lhs; whnf)) ?_; apply gw_d; exact det_addU rfl rfl rfl rfl; refine gM rfl rfl (by conv => (lhs; whnf)) ?_; refine gM rfl rfl (by conv => (lhs; whnf)) ?_; apply gw_d; exact det_mulU rfl rfl rfl rfl; rotate_left)
    · focus (apply gw_d; exact det_subU (Nat.le_of_lt (Nat.mod_lt _ (by omega))) rfl rfl rfl rfl; refine gM rfl rfl (by conv => (lhs; whnf)) ?_; apply gw_d; exact det_shrU rfl rfl rfl rfl; refine gM rfl rfl (by conv => (lhs; whnf)) ?_; refine gM rfl rfl (by conv => (lhs; whnf)) ?_; refine gO ?_; refine gc_ret ?_)
      exact gx_ret2 (u := .int _ _) (v := .int _ _) rfl rfl rfl (fun w' s => ⟨(_, _), rfl, trivial⟩)
    · have h1 : (r2 + D) % 18446744073709551616 < M := by omega
      have h2 : M - (r2 + D) % 18446744073709551616 < M - r2 := by omega
      exact gx_round (_, (r2 + D) % 18446744073709551616) h1 h2 (by repeat (first | with_reducible exact Keeps.refl | refine Keeps.upd rfl ?_ | refine Keeps.sets rfl ?_ | refine Keeps.havoc rfl ?_)) ⟨rfl, rfl, trivial⟩ (Sub.all _)
    · focus (apply gw_d; exact det_subU (Nat.le_of_lt (Nat.mod_lt _ (by omega))) rfl rfl rfl rfl; refine gM rfl rfl (by conv => (lhs; whnf)) ?_; apply gw_d; exact det_shrU rfl rfl rfl rfl; refine gM rfl rfl (by conv => (lhs; whnf)) ?_; refine gM rfl rfl (by conv => (lhs; whnf)) ?_; refine gO ?_; refine gc_ret ?_)
      exact gx_ret2 (u := .int _ _) (v := .int _ _) rfl rfl rfl (fun w' s => ⟨(_, _), rfl, trivial⟩)
    · have h1 : (r2 + D) % 18446744073709551616 < M := by omega
      have h2 : M - (r2 + D) % 18446744073709551616 < M - r2 := by omega
      exact gx_round (_, (r2 + D) % 18446744073709551616) h1 h2 (by repeat (first | with_reducible exact Keeps.refl | refine Keeps.upd rfl ?_ | refine Keeps.sets rfl ?_ | refine Keeps.havoc rfl ?_)) ⟨rfl, rfl, trivial⟩ (Sub.all _)
    · focus (apply gw_d; exact det_subU (Nat.le_of_lt (Nat.mod_lt _ (by omega))) rfl rfl rfl rfl; refine gM rfl rfl (by conv => (lhs; whnf)) ?_; apply gw_d; exact det_shrU rfl rfl rfl rfl; refine gM rfl rfl (by conv => (lhs; whnf)) ?_; refine gM rfl rfl (by conv => (lhs; whnf)) ?_; refine gO ?_; refine gc_ret ?_)
      exact gx_ret2 (u := .int _ _) (v := .int _ _) rfl rfl rfl (fun w' s => ⟨(_, _), rfl, trivial⟩)
  · have h1 : (r + D) % 18446744073709551616 < M := by omega
    have h2 : M - (r + D) % 18446744073709551616 < M - r := by omega
    exact gx_round (_, (r + D) % 18446744073709551616) h1 h2 (by repeat (first | with_reducible exact Keeps.refl | refine Keeps.upd rfl ?_ | refine Keeps.sets rfl ?_ | refine Keeps.havoc rfl ?_)) ⟨rfl, rfl, trivial⟩ (Sub.all _)
  · focus (apply gw_d; exact det_subU (Nat.le_of_lt (Nat.mod_lt _ (by omega))) rfl rfl rfl rfl; refine gM rfl rfl (by conv => (lhs; whnf)) ?_; refine gN ?_; refine gM rfl rfl (by conv => (lhs; whnf)) ?_; refine gM rfl rfl (by conv => (lhs; whnf)) ?_; apply gw_d; exact det_quoU (Nat.mod_lt _ (by omega)) hd0 rfl rfl rfl rfl; refine gM rfl rfl (by conv => (lhs; whnf)) ?_; refine gN ?_; refine gM rfl rfl (by conv => (lhs; whnf)) ?_; refine gM rfl rfl (by conv => (lhs; whnf)) ?_; refine gM rfl rfl (by conv => (lhs; whnf)) ?_; apply gw_d; exact det_mulU rfl rfl rfl rfl; apply gw_d; exact det_subU (Nat.le_of_lt (Nat.mod_lt _ (by omega))) rfl rfl rfl rfl; refine gM rfl rfl (by conv => (lhs; whnf)) ?_; refine gO ?_; refine gc_seq ?_; refine gc_block ?_)
    refine gc_loopK (σ := Nat × Nat) [102, 103, 104, 105, 106, 107, 108, 109, 110, 111, 112, 113, 114, 115, 18, 116, 117, 118, 16, 119, 120] (fun s => [(18, .int .u64 (s.1 : Int)), (16, .int .u64 (s.2 : Int))]) (fun s => s.2 < M) (fun s => M - s.2) (_, _) (Nat.lt_trans (rhat_lt (Nat.mod_lt _ (by omega)) hd0) hdM) ⟨rfl, rfl, trivial⟩ ?_
    rintro ⟨q2, r2⟩ base2 hr2
    dsimp only at hr2 ⊢
    focus (refine gc_seq ?_; refine gc_seq ?_; refine gc_region ?_; refine gM rfl rfl (by conv => (lhs; whnf)) ?_; refine gC rfl rfl rfl rfl rfl ?_; refine gM rfl rfl (by conv => (lhs; whnf)) ?_; refine gw_guard_dec rfl rfl (fun _ => ?_) (fun _ => ?_); refine gU rfl ?_; refine gU rfl ?_; refine gU rfl ?_; refine gU rfl ?_; refine gU rfl ?_; refine gU rfl ?_; refine gU rfl ?_; refine gU rfl ?_; apply gw_d; exact det_pick_t (v := .bool _) rfl rfl rfl rfl; refine gO ?_; refine gc_if_true rfl ?_; refine gc_skip ?_; refine gx_next ?_; refine gc_block ?_; refine gc_seq ?_; refine gc_region ?_; refine gM rfl rfl (by conv => (lhs; whnf)) ?_; apply gw_d; exact det_subU (j := 1) (by omega) rfl rfl rfl rfl; refine gM rfl rfl (by conv => (lhs; whnf)) ?_; refine gN ?_; refine gM rfl rfl (by conv => (lhs; whnf)) ?_; refine gM rfl rfl (by conv => (lhs; whnf)) ?_; apply gw_d; exact det_addU rfl rfl rfl rfl; refine gM rfl rfl (by conv => (lhs; whnf)) ?_; refine gN ?_; refine gM rfl rfl (by conv => (lhs; whnf)) ?_; refine gC rfl rfl rfl rfl rfl ?_; refine gO ?_; refine gc_if_dec rfl (fun _ => ?_) (fun _ => ?_); refine gc_exit ?_; refine gx_block_other rfl ?_; refine gx_then_exit ?_; refine gx_block_exit ?_; refine gx_next ?_; refine gc_seq ?_; refine gc_region ?_; refine gM rfl rfl (by conv => (lhs; whnf)) ?_; apply gw_d; exact det_mulU rfl rfl rfl rfl; refine gM rfl rfl (by conv => (lhs; whnf)) ?_; apply gw_d; exact det_addU rfl rfl rfl rfl; refine gM rfl rfl (by conv => (lhs; whnf)) ?_; apply gw_d; exact det_mulU rfl rfl rfl rfl; refine gM rfl rfl (by conv => (lhs; whnf)) ?_; apply gw_d; exact det_addU rfl rfl rfl rfl; refine gM rfl rfl (by conv => (lhs; whnf)) ?_; refine gM rfl rfl (by conv => (lhs; whnf)) ?_; apply gw_d; exact det_mulU rfl rfl rfl rfl; rotate_left; refine gc_skip ?_; refine gx_block ?_; rotate_left; refine gM rfl rfl (by conv => (lhs; whnf)) ?_; refine gM rfl rfl (by conv => (lhs; whnf)) ?_; apply gw_d; exact det_mulU rfl rfl rfl rfl; refine gM rfl rfl (by conv => (lhs; whnf)) ?_; apply gw_d; exact det_mulU rfl rfl rfl rfl; refine gM rfl rfl (by conv => (lhs; whnf)) ?_; apply gw_d; exact det_addU rfl rfl rfl rfl; refine gC rfl rfl rfl rfl rfl ?_; apply gw_d; exact det_pick_f (v := .bool _) rfl rfl rfl rfl; refine gO ?_; refine gc_if_dec rfl (fun _ => ?_) (fun _ => ?_); refine gc_skip ?_; refine gx_next ?_; refine gc_block ?_; refine gc_seq ?_; refine gc_region ?_; refine gM rfl rfl (by conv => (lhs; whnf)) ?_; apply gw_d; exact det_subU (j := 1) (by omega) rfl rfl rfl rfl; refine gM rfl rfl (by conv => (lhs; whnf)) ?_; refine gN ?_; refine gM rfl rfl (by conv => (lhs; whnf)) ?_; refine gM rfl rfl (by conv => (lhs; whnf)) ?_; apply gw_d; exact det_addU rfl rfl rfl rfl; refine gM rfl rfl (by conv => (lhs; whnf)) ?_; refine gN ?_; refine gM rfl rfl (by conv => (lhs; whnf)) ?_; refine gC rfl rfl rfl rfl rfl ?_; refine gO ?_; refine gc_if_dec rfl (fun _ => ?_) (fun _ => ?_); refine gc_exit ?_; refine gx_block_other rfl ?_; refine gx_then_exit ?_; refine gx_block_exit ?_; refine gx_next ?_; refine gc_seq ?_; refine gc_region ?_; refine gM rfl rfl (by conv => (lhs; whnf)) ?_; apply gw_d; exact det_mulU rfl rfl rfl rfl; refine gM rfl rfl (by conv => (lhs; whnf)) ?_; apply gw_d; exact det_addU rfl rfl rfl rfl; refine gM rfl rfl (by conv => (lhs; whnf)) ?_; apply gw_d; exact det_mulU rfl rfl rfl rfl; refine gM rfl rfl (by conv => (lhs; whnf)) ?_; apply gw_d; exact det_addU rfl rfl rfl rfl; refine gM rfl rfl (by conv => (lhs; whnf)) ?_; refine gM rfl rfl (by conv => (lhs; whnf)) ?_; apply gw_d; exact det_mulU rfl rfl rfl rfl; rotate_left; refine gc_skip ?_; refine gx_block ?_; rotate_left; refine gc_exit ?_; refine gx_then_exit ?_; refine gx_then_exit ?_; refine gx_block_exit ?_; refine gx_next ?_; refine gc_seq ?_; refine gc_region ?_; refine gM rfl rfl (by conv => (lhs; whnf)) ?_; apply gw_d; exact det_mulU rfl rfl rfl rfl; refine gM rfl rfl (by conv => (lhs; whnf)) ?_; apply gw_d; exact det_addU rfl rfl rfl rfl; refine gM rfl rfl (by conv => (lhs; whnf)) ?_; apply gw_d; exact det_mulU rfl rfl rfl rfl; refine gM rfl rfl (by conv => (lhs; whnf)) ?_; apply gw_d; exact det_addU rfl rfl rfl rfl; refine gM rfl rfl (by conv => (lhs; whnf)) ?_; refine gM rfl rfl (by conv => (lhs; whnf)) ?_; apply gw_d; exact det_mulU rfl rfl rfl rfl; rotate_left)
    · focus (apply gw_d; exact det_subU (Nat.le_of_lt (Nat.mod_lt _ (by omega))) rfl rfl rfl rfl; refine gM rfl rfl (by conv => (lhs; whnf)) ?_; apply gw_d; exact det_shrU rfl rfl rfl rfl; refine gM rfl rfl (by conv => (lhs; whnf)) ?_; refine gM rfl rfl (by conv => (lhs; whnf)) ?_; refine gO ?_; refine gc_ret ?_)
      exact gx_ret2 (u := .int _ _) (v := .int _ _) rfl rfl rfl (fun w' s => ⟨(_, _), rfl, trivial⟩)
    · have h1 : (r2 + D) % 18446744073709551616 < M := by omega
      have h2 : M - (r2 + D) % 18446744073709551616 < M - r2 := by omega
      exact gx_round (_, (r2 + D) % 18446744073709551616) h1 h2 (by repeat (first | with_reducible exact Keeps.refl | refine Keeps.upd rfl ?_ | refine Keeps.sets rfl ?_ | refine Keeps.havoc rfl ?_)) ⟨rfl, rfl, trivial⟩ (Sub.all _)
    · focus (apply gw_d; exact det_subU (Nat.le_of_lt (Nat.mod_lt _ (by omega))) rfl rfl rfl rfl; refine gM rfl rfl (by conv => (lhs; whnf)) ?_; apply gw_d; exact det_shrU rfl rfl rfl rfl; refine gM rfl rfl (by conv => (lhs; whnf)) ?_; refine gM rfl rfl (by conv => (lhs; whnf)) ?_; refine gO ?_; refine gc_ret ?_)
      exact gx_ret2 (u := .int _ _) (v := .int _ _) rfl rfl rfl (fun w' s => ⟨(_, _), rfl, trivial⟩)
    · have h1 : (r2 + D) % 18446744073709551616 < M := by omega
      have h2 : M - (r2 + D) % 18446744073709551616 < M - r2 := by omega
      exact gx_round (_, (r2 + D) % 18446744073709551616) h1 h2 (by repeat (first | with_reducible exact Keeps.refl | refine Keeps.upd rfl ?_ | refine Keeps.sets rfl ?_ | refine Keeps.havoc rfl ?_)) ⟨rfl, rfl, trivial⟩ (Sub.all _)
    · focus (apply gw_d; exact det_subU (Nat.le_of_lt (Nat.mod_lt _ (by omega))) rfl rfl rfl rfl; refine gM rfl rfl (by conv => (lhs; whnf)) ?_; apply gw_d; exact det_shrU rfl rfl rfl rfl; refine gM rfl rfl (by conv => (lhs; whnf)) ?_; refine gM rfl rfl (by conv => (lhs; whnf)) ?_; refine gO ?_; refine gc_ret ?_)
      exact gx_ret2 (u := .int _ _) (v := .int _ _) rfl rfl rfl (fun w' s => ⟨(_, _), rfl, trivial⟩)
end Go.Proofs.YtckhibfbdnoigaaGreatDoor

/- Contracts: a place on an edge of the same length. -/
namespace Go.Proofs.YtckhibfbdnoigaaGreatDoor
open Go.RowKit
set_option maxRecDepth 100000
set_option maxHeartbeats 4000000

theorem partner_bad (w : World) (L a : Int) (_hL : 1 ≤ L ∧ L ≤ 1099511627776) (h : a < 0 ∨ a > L) : Ok Tryz.prog 144 [.int .i64 L, .int .i64 L, .bool false, .int .i64 a].toArray w fun r _ => r = .tuple #[.int .i64 0, .int .i64 3] := by
  refine ok_enter Tryz.func144 rfl Tryz.ntmps144 rfl ?_
  focus (refine gc_seq ?_; refine gc_region ?_; refine gM rfl rfl (by conv => (lhs; whnf)) ?_; refine gM rfl rfl (by conv => (lhs; whnf)) ?_; refine gO ?_; refine gc_seq ?_; refine gc_seq ?_; refine gc_region ?_; refine gM rfl rfl (by conv => (lhs; whnf)) ?_; refine gC rfl rfl rfl rfl rfl ?_; refine gM rfl rfl (by conv => (lhs; whnf)) ?_; refine gw_guard_dec rfl rfl (fun _ => ?_) (fun _ => ?_); refine gU rfl ?_; refine gU rfl ?_; apply gw_d; exact det_pick_t (v := .bool _) rfl rfl rfl rfl; refine gM rfl rfl (by conv => (lhs; whnf)) ?_; refine gU rfl ?_; refine gU rfl ?_; apply gw_d; exact det_pick_t (v := .bool _) rfl rfl rfl rfl; refine gM rfl rfl (by conv => (lhs; whnf)) ?_; refine gU rfl ?_; refine gU rfl ?_; apply gw_d; exact det_pick_t (v := .bool _) rfl rfl rfl rfl; refine gM rfl rfl (by conv => (lhs; whnf)) ?_; refine gU rfl ?_; refine gU rfl ?_; apply gw_d; exact det_pick_t (v := .bool _) rfl rfl rfl rfl; refine gM rfl rfl (by conv => (lhs; whnf)) ?_; refine gU rfl ?_; refine gU rfl ?_; refine gU rfl ?_; apply gw_d; exact det_pick_t (v := .bool _) rfl rfl rfl rfl; refine gO ?_; refine gc_if_true rfl ?_; refine gc_seq ?_; refine gc_region ?_; refine gM rfl rfl (by conv => (lhs; whnf)) ?_; refine gM rfl rfl (by conv => (lhs; whnf)) ?_; refine gO ?_; refine gc_ret ?_; refine gx_then_ret ?_; rotate_left; refine gM rfl rfl (by conv => (lhs; whnf)) ?_; refine gC rfl rfl rfl rfl rfl ?_; apply gw_d; exact det_pick_f (v := .bool _) rfl rfl rfl rfl; refine gM rfl rfl (by conv => (lhs; whnf)) ?_; refine gw_guard_dec rfl rfl (fun _ => ?_) (fun _ => ?_); refine gU rfl ?_; refine gU rfl ?_; apply gw_d; exact det_pick_t (v := .bool _) rfl rfl rfl rfl; refine gM rfl rfl (by conv => (lhs; whnf)) ?_; refine gU rfl ?_; refine gU rfl ?_; apply gw_d; exact det_pick_t (v := .bool _) rfl rfl rfl rfl; refine gM rfl rfl (by conv => (lhs; whnf)) ?_; refine gU rfl ?_; refine gU rfl ?_; apply gw_d; exact det_pick_t (v := .bool _) rfl rfl rfl rfl; refine gM rfl rfl (by conv => (lhs; whnf)) ?_; refine gU rfl ?_; refine gU rfl ?_; refine gU rfl ?_; apply gw_d; exact det_pick_t (v := .bool _) rfl rfl rfl rfl; refine gO ?_; refine gc_if_true rfl ?_; refine gc_seq ?_; refine gc_region ?_; refine gM rfl rfl (by conv => (lhs; whnf)) ?_; refine gM rfl rfl (by conv => (lhs; whnf)) ?_; refine gO ?_; refine gc_ret ?_; refine gx_then_ret ?_; rotate_left; refine gM rfl rfl (by conv => (lhs; whnf)) ?_; refine gC rfl rfl rfl rfl rfl ?_; apply gw_d; exact det_pick_f (v := .bool _) rfl rfl rfl rfl; refine gM rfl rfl (by conv => (lhs; whnf)) ?_; refine gw_guard_dec rfl rfl (fun _ => ?_) (fun _ => ?_); refine gU rfl ?_; refine gU rfl ?_; apply gw_d; exact det_pick_t (v := .bool _) rfl rfl rfl rfl; refine gM rfl rfl (by conv => (lhs; whnf)) ?_; refine gU rfl ?_; refine gU rfl ?_; apply gw_d; exact det_pick_t (v := .bool _) rfl rfl rfl rfl; refine gM rfl rfl (by conv => (lhs; whnf)) ?_; refine gU rfl ?_; refine gU rfl ?_; refine gU rfl ?_; apply gw_d; exact det_pick_t (v := .bool _) rfl rfl rfl rfl; refine gO ?_; refine gc_if_true rfl ?_; refine gc_seq ?_; refine gc_region ?_; refine gM rfl rfl (by conv => (lhs; whnf)) ?_; refine gM rfl rfl (by conv => (lhs; whnf)) ?_; refine gO ?_; refine gc_ret ?_; refine gx_then_ret ?_; rotate_left; refine gM rfl rfl (by conv => (lhs; whnf)) ?_; refine gC rfl rfl rfl rfl rfl ?_; apply gw_d; exact det_pick_f (v := .bool _) rfl rfl rfl rfl; refine gM rfl rfl (by conv => (lhs; whnf)) ?_; refine gw_guard_dec rfl rfl (fun _ => ?_) (fun _ => ?_); refine gU rfl ?_; refine gU rfl ?_; apply gw_d; exact det_pick_t (v := .bool _) rfl rfl rfl rfl; refine gM rfl rfl (by conv => (lhs; whnf)) ?_; refine gU rfl ?_; refine gU rfl ?_; refine gU rfl ?_; apply gw_d; exact det_pick_t (v := .bool _) rfl rfl rfl rfl; refine gO ?_; refine gc_if_true rfl ?_; refine gc_seq ?_; refine gc_region ?_; refine gM rfl rfl (by conv => (lhs; whnf)) ?_; refine gM rfl rfl (by conv => (lhs; whnf)) ?_; refine gO ?_; refine gc_ret ?_; refine gx_then_ret ?_; rotate_left; refine gM rfl rfl (by conv => (lhs; whnf)) ?_; refine gC rfl rfl rfl rfl rfl ?_; apply gw_d; exact det_pick_f (v := .bool _) rfl rfl rfl rfl; refine gM rfl rfl (by conv => (lhs; whnf)) ?_; refine gw_guard_dec rfl rfl (fun _ => ?_) (fun _ => ?_); refine gU rfl ?_; refine gU rfl ?_; refine gU rfl ?_; apply gw_d; exact det_pick_t (v := .bool _) rfl rfl rfl rfl; refine gO ?_; refine gc_if_true rfl ?_; refine gc_seq ?_; refine gc_region ?_; refine gM rfl rfl (by conv => (lhs; whnf)) ?_; refine gM rfl rfl (by conv => (lhs; whnf)) ?_; refine gO ?_; refine gc_ret ?_; refine gx_then_ret ?_; rotate_left; refine gM rfl rfl (by conv => (lhs; whnf)) ?_; refine gM rfl rfl (by conv => (lhs; whnf)) ?_; refine gC rfl rfl rfl rfl rfl ?_; apply gw_d; exact det_pick_f (v := .bool _) rfl rfl rfl rfl; refine gO ?_; refine gc_if_dec rfl (fun _ => ?_) (fun _ => ?_); refine gc_seq ?_; refine gc_region ?_; refine gM rfl rfl (by conv => (lhs; whnf)) ?_; refine gM rfl rfl (by conv => (lhs; whnf)) ?_; refine gO ?_; refine gc_ret ?_; refine gx_then_ret ?_; rotate_left; refine gc_skip ?_; refine gx_next ?_; refine gc_seq ?_; refine gc_region ?_; refine gM rfl rfl (by conv => (lhs; whnf)) ?_; rotate_left)
  all_goals first | (refine gx_ret2 (u := .int _ _) (v := .int _ _) rfl rfl rfl (fun _ _ => ?_); rfl) | skip
  all_goals (exfalso; omega)
theorem partner_ok (w : World) (L a : Nat) (hL : 1 ≤ L ∧ L ≤ 1099511627776) (h : a ≤ L) : OkM Tryz.prog 144 [.int .i64 (L : Int), .int .i64 (L : Int), .bool false, .int .i64 (a : Int)].toArray w (fun x : Int => .tuple #[.int .i64 x, .int .i64 0]) (fun _ => []) := by
  have wL : IntKind.u64.wrap (L : Int) = (L : Int) := by rw [u64w]; omega
  have wa : IntKind.u64.wrap (a : Int) = (a : Int) := by rw [u64w]; omega
  have hhi : a * L / 18446744073709551616 < L := by
    rw [Nat.div_lt_iff_lt_mul (by omega)]
    have h1 : a * L ≤ L * L := Nat.mul_le_mul_right _ h
    have h2 : L * L < L * 18446744073709551616 := Nat.mul_lt_mul_of_pos_left (by omega) (by omega)
    omega
  have hM : ∀ (K : List Res) (w' : World), St w K w' → Ok Tryz.prog 170 [.int .u64 (a : Int), .int .u64 (L : Int)].toArray w' fun r _ => r = .tuple #[.int .u64 ((a * L / 18446744073709551616 : Nat) : Int), .int .u64 ((a * L % 18446744073709551616 : Nat) : Int)] := fun K w' _ => mul64_ok w' a L (by omega) (by omega)
  have hlo : a * L % 18446744073709551616 < 18446744073709551616 := Nat.mod_lt _ (by omega)
  generalize a * L / 18446744073709551616 = hi at *
  generalize a * L % 18446744073709551616 = lo at *
  unfold OkM
  refine ok_enter Tryz.func144 rfl Tryz.ntmps144 rfl ?_
  focus (refine gc_seq ?_; refine gc_region ?_; refine gM rfl rfl (by conv => (lhs; whnf)) ?_; refine gM rfl rfl (by conv => (lhs; whnf)) ?_; refine gO ?_; refine gc_seq ?_; refine gc_seq ?_; refine gc_region ?_; refine gM rfl rfl (by conv => (lhs; whnf)) ?_; refine gC rfl rfl rfl rfl rfl ?_; refine gM rfl rfl (by conv => (lhs; whnf)) ?_; refine gw_guard_dec rfl rfl (fun _ => ?_) (fun _ => ?_); refine gU rfl ?_; refine gU rfl ?_; apply gw_d; exact det_pick_t (v := .bool _) rfl rfl rfl rfl; refine gM rfl rfl (by conv => (lhs; whnf)) ?_; refine gU rfl ?_; refine gU rfl ?_; apply gw_d; exact det_pick_t (v := .bool _) rfl rfl rfl rfl; refine gM rfl rfl (by conv => (lhs; whnf)) ?_; refine gU rfl ?_; refine gU rfl ?_; apply gw_d; exact det_pick_t (v := .bool _) rfl rfl rfl rfl; refine gM rfl rfl (by conv => (lhs; whnf)) ?_; refine gU rfl ?_; refine gU rfl ?_; apply gw_d; exact det_pick_t (v := .bool _) rfl rfl rfl rfl; refine gM rfl rfl (by conv => (lhs; whnf)) ?_; refine gU rfl ?_; refine gU rfl ?_; refine gU rfl ?_; apply gw_d; exact det_pick_t (v := .bool _) rfl rfl rfl rfl; refine gO ?_; refine gc_if_true rfl ?_; refine gc_seq ?_; refine gc_region ?_; refine gM rfl rfl (by conv => (lhs; whnf)) ?_; refine gM rfl rfl (by conv => (lhs; whnf)) ?_; refine gO ?_; refine gc_ret ?_; refine gx_then_ret ?_; rotate_left; refine gM rfl rfl (by conv => (lhs; whnf)) ?_; refine gC rfl rfl rfl rfl rfl ?_; apply gw_d; exact det_pick_f (v := .bool _) rfl rfl rfl rfl; refine gM rfl rfl (by conv => (lhs; whnf)) ?_; refine gw_guard_dec rfl rfl (fun _ => ?_) (fun _ => ?_); refine gU rfl ?_; refine gU rfl ?_; apply gw_d; exact det_pick_t (v := .bool _) rfl rfl rfl rfl; refine gM rfl rfl (by conv => (lhs; whnf)) ?_; refine gU rfl ?_; refine gU rfl ?_; apply gw_d; exact det_pick_t (v := .bool _) rfl rfl rfl rfl; refine gM rfl rfl (by conv => (lhs; whnf)) ?_; refine gU rfl ?_; refine gU rfl ?_; apply gw_d; exact det_pick_t (v := .bool _) rfl rfl rfl rfl; refine gM rfl rfl (by conv => (lhs; whnf)) ?_; refine gU rfl ?_; refine gU rfl ?_; refine gU rfl ?_; apply gw_d; exact det_pick_t (v := .bool _) rfl rfl rfl rfl; refine gO ?_; refine gc_if_true rfl ?_; refine gc_seq ?_; refine gc_region ?_; refine gM rfl rfl (by conv => (lhs; whnf)) ?_; refine gM rfl rfl (by conv => (lhs; whnf)) ?_; refine gO ?_; refine gc_ret ?_; refine gx_then_ret ?_; rotate_left; refine gM rfl rfl (by conv => (lhs; whnf)) ?_; refine gC rfl rfl rfl rfl rfl ?_; apply gw_d; exact det_pick_f (v := .bool _) rfl rfl rfl rfl; refine gM rfl rfl (by conv => (lhs; whnf)) ?_; refine gM rfl rfl (by conv => (lhs; whnf)) ?_; refine gC rfl rfl rfl rfl rfl ?_; apply gw_d; exact det_pick_f (v := .bool _) rfl rfl rfl rfl; refine gM rfl rfl (by conv => (lhs; whnf)) ?_; refine gw_guard_dec rfl rfl (fun _ => ?_) (fun _ => ?_); refine gU rfl ?_; refine gU rfl ?_; apply gw_d; exact det_pick_t (v := .bool _) rfl rfl rfl rfl; refine gM rfl rfl (by conv => (lhs; whnf)) ?_; refine gU rfl ?_; refine gU rfl ?_; refine gU rfl ?_; apply gw_d; exact det_pick_t (v := .bool _) rfl rfl rfl rfl; refine gO ?_; refine gc_if_true rfl ?_; refine gc_seq ?_; refine gc_region ?_; refine gM rfl rfl (by conv => (lhs; whnf)) ?_; refine gM rfl rfl (by conv => (lhs; whnf)) ?_; refine gO ?_; refine gc_ret ?_; refine gx_then_ret ?_; rotate_left; refine gM rfl rfl (by conv => (lhs; whnf)) ?_; refine gC rfl rfl rfl rfl rfl ?_; apply gw_d; exact det_pick_f (v := .bool _) rfl rfl rfl rfl; refine gM rfl rfl (by conv => (lhs; whnf)) ?_; refine gM rfl rfl (by conv => (lhs; whnf)) ?_; refine gM rfl rfl (by conv => (lhs; whnf)) ?_; refine gC rfl rfl rfl rfl rfl ?_; apply gw_d; exact det_pick_f (v := .bool _) rfl rfl rfl rfl; refine gO ?_; refine gc_if_dec rfl (fun _ => ?_) (fun _ => ?_); refine gc_seq ?_; refine gc_region ?_; refine gM rfl rfl (by conv => (lhs; whnf)) ?_; refine gM rfl rfl (by conv => (lhs; whnf)) ?_; refine gO ?_; refine gc_ret ?_; refine gx_then_ret ?_; rotate_left; refine gc_skip ?_; refine gx_next ?_; refine gc_seq ?_; refine gc_region ?_; refine gM rfl rfl (by conv => (lhs; whnf)) ?_; apply gw_d; exact det_conv rfl rfl rfl wa; refine gM rfl rfl (by conv => (lhs; whnf)) ?_; apply gw_d; exact det_conv rfl rfl rfl wL; apply gw_d; exact w_call rfl rfl (hM _) rfl; refine gM rfl rfl (by conv => (lhs; whnf)) ?_; apply gw_d; exact det_extract rfl rfl rfl (by conv => (lhs; whnf)); apply gw_d; exact det_extract rfl rfl rfl (by conv => (lhs; whnf)); refine gM rfl rfl (by conv => (lhs; whnf)) ?_; refine gM rfl rfl (by conv => (lhs; whnf)) ?_; refine gN ?_; refine gM rfl rfl (by conv => (lhs; whnf)) ?_; refine gM rfl rfl (by conv => (lhs; whnf)) ?_; refine gM rfl rfl (by conv => (lhs; whnf)) ?_; apply gw_d; exact det_conv rfl rfl rfl wL; rotate_left)
  all_goals first | (exfalso; omega) | skip
  refine gw_callm rfl (fun w s => div64_ok w hi lo L hlo (by omega) hhi) rfl (fun x => ?_)
  focus (refine gM rfl rfl (by conv => (lhs; whnf)) ?_; apply gw_d; exact det_extract rfl rfl rfl (by conv => (lhs; whnf)); apply gw_d; exact det_extract rfl rfl rfl (by conv => (lhs; whnf)); refine gM rfl rfl (by conv => (lhs; whnf)) ?_; refine gM rfl rfl (by conv => (lhs; whnf)) ?_; refine gO ?_; refine gc_seq ?_; refine gc_seq ?_; refine gc_region ?_; refine gM rfl rfl (by conv => (lhs; whnf)) ?_; apply gw_d; exact det_mulU (i := 2) rfl rfl rfl rfl; refine gM rfl rfl (by conv => (lhs; whnf)) ?_; apply gw_d; exact det_conv rfl rfl rfl wL; refine gC rfl rfl rfl rfl rfl ?_; refine gO ?_; refine gc_if_dec rfl (fun _ => ?_) (fun _ => ?_); refine gc_region ?_; refine gM rfl rfl (by conv => (lhs; whnf)) ?_; apply gw_d; exact det_addU (j := 1) rfl rfl rfl rfl; refine gM rfl rfl (by conv => (lhs; whnf)) ?_; refine gN ?_; refine gM rfl rfl (by conv => (lhs; whnf)) ?_; apply gw_d; exact det_conv rfl rfl rfl rfl; refine gM rfl rfl (by conv => (lhs; whnf)) ?_; refine gO ?_; refine gc_seq ?_; refine gc_seq ?_; refine gc_region ?_; refine gM rfl rfl (by conv => (lhs; whnf)) ?_; refine gO ?_; refine gc_if_false rfl ?_; refine gc_skip ?_; refine gx_next ?_; refine gc_seq ?_; refine gc_region ?_; refine gM rfl rfl (by conv => (lhs; whnf)) ?_; refine gM rfl rfl (by conv => (lhs; whnf)) ?_; refine gM rfl rfl (by conv => (lhs; whnf)) ?_; refine gO ?_; refine gc_ret ?_; rotate_left; refine gc_skip ?_; refine gx_next ?_; refine gc_seq ?_; refine gc_region ?_; refine gM rfl rfl (by conv => (lhs; whnf)) ?_; apply gw_d; exact det_conv rfl rfl rfl rfl; refine gM rfl rfl (by conv => (lhs; whnf)) ?_; refine gO ?_; refine gc_seq ?_; refine gc_seq ?_; refine gc_region ?_; refine gM rfl rfl (by conv => (lhs; whnf)) ?_; refine gO ?_; refine gc_if_false rfl ?_; refine gc_skip ?_; refine gx_next ?_; refine gc_seq ?_; refine gc_region ?_; refine gM rfl rfl (by conv => (lhs; whnf)) ?_; refine gM rfl rfl (by conv => (lhs; whnf)) ?_; refine gM rfl rfl (by conv => (lhs; whnf)) ?_; refine gO ?_; refine gc_ret ?_; rotate_left)
  all_goals exact gx_ret2 (u := .int _ _) (v := .int _ _) rfl rfl rfl (fun w' s => ⟨_, rfl, trivial⟩)
end Go.Proofs.YtckhibfbdnoigaaGreatDoor

/- Contracts: plane geometry on the grid. -/
namespace Go.Proofs.YtckhibfbdnoigaaGreatDoor
open Go.RowKit
set_option maxRecDepth 100000
set_option profiler true
set_option profiler.threshold 2000

def Bd (x : Int) : Prop := -1048576 ≤ x ∧ x ≤ 1048576
theorem mul_bd {x y B C : Int} (h1 : -B ≤ x) (h2 : x ≤ B) (h3 : -C ≤ y) (h4 : y ≤ C) : -(B * C) ≤ x * y ∧ x * y ≤ B * C := by
  have hB : 0 ≤ B := by omega
  have hC : 0 ≤ C := by omega
  have a1 : 0 ≤ (B - x) * (C - y) := Int.mul_nonneg (by omega) (by omega)
  have a2 : 0 ≤ (B + x) * (C + y) := Int.mul_nonneg (by omega) (by omega)
  have a3 : 0 ≤ (B - x) * (C + y) := Int.mul_nonneg (by omega) (by omega)
  have a4 : 0 ≤ (B + x) * (C - y) := Int.mul_nonneg (by omega) (by omega)
  simp only [Int.sub_mul, Int.add_mul, Int.mul_sub, Int.mul_add] at a1 a2 a3 a4
  omega

def spot (x y : Int) : Value := .agg #[.int .i64 x, .int .i64 y]
def outB (x y : Int) : Bool := decide (x < -1048576) || decide (x > 1048576) || decide (y < -1048576) || decide (y > 1048576)
def crossI (ax ay bx by_ cx cy : Int) : Int := (bx - ax) * (cy - ay) - (by_ - ay) * (cx - ax)

theorem outside_ok (w : World) (x y : Int) : Ok Tryz.prog 167 [.agg #[.int .i64 x, .int .i64 y]].toArray w fun r _ => r = .bool (outB x y) := by
  refine ok_enter Tryz.func167 rfl Tryz.ntmps167 rfl ?_
  focus (refine gc_seq ?_; refine gc_region ?_; refine gw_boxd (v := .agg _) rfl rfl (fun _ => ?_); refine gM rfl rfl (by conv => (lhs; whnf)) ?_; refine gN ?_; refine gF rfl rfl rfl ?_; apply gw_d; exact w_load_box rfl rfl rfl .here rfl; refine gC rfl rfl rfl rfl rfl ?_; refine gM rfl rfl (by conv => (lhs; whnf)) ?_; refine gw_guard_dec rfl rfl (fun _ => ?_) (fun _ => ?_); refine gU rfl ?_; refine gU rfl ?_; refine gU rfl ?_; apply gw_d; exact det_pick_t (v := .bool _) rfl rfl rfl rfl; refine gM rfl rfl (by conv => (lhs; whnf)) ?_; refine gU rfl ?_; refine gU rfl ?_; refine gU rfl ?_; apply gw_d; exact det_pick_t (v := .bool _) rfl rfl rfl rfl; refine gM rfl rfl (by conv => (lhs; whnf)) ?_; refine gU rfl ?_; refine gU rfl ?_; refine gU rfl ?_; apply gw_d; exact det_pick_t (v := .bool _) rfl rfl rfl rfl; refine gM rfl rfl (by conv => (lhs; whnf)) ?_; refine gO ?_; refine gc_ret ?_; rotate_left; refine gF rfl rfl rfl ?_; apply gw_d; exact w_load_box rfl rfl rfl .here rfl; refine gC rfl rfl rfl rfl rfl ?_; apply gw_d; exact det_pick_f (v := .bool _) rfl rfl rfl rfl; refine gM rfl rfl (by conv => (lhs; whnf)) ?_; refine gw_guard_dec rfl rfl (fun _ => ?_) (fun _ => ?_); refine gU rfl ?_; refine gU rfl ?_; refine gU rfl ?_; apply gw_d; exact det_pick_t (v := .bool _) rfl rfl rfl rfl; refine gM rfl rfl (by conv => (lhs; whnf)) ?_; refine gU rfl ?_; refine gU rfl ?_; refine gU rfl ?_; apply gw_d; exact det_pick_t (v := .bool _) rfl rfl rfl rfl; refine gM rfl rfl (by conv => (lhs; whnf)) ?_; refine gO ?_; refine gc_ret ?_; rotate_left; refine gF rfl rfl rfl ?_; apply gw_d; exact w_load_box rfl rfl rfl .here rfl; refine gC rfl rfl rfl rfl rfl ?_; apply gw_d; exact det_pick_f (v := .bool _) rfl rfl rfl rfl; refine gM rfl rfl (by conv => (lhs; whnf)) ?_; refine gw_guard_dec rfl rfl (fun _ => ?_) (fun _ => ?_); refine gU rfl ?_; refine gU rfl ?_; refine gU rfl ?_; apply gw_d; exact det_pick_t (v := .bool _) rfl rfl rfl rfl; refine gM rfl rfl (by conv => (lhs; whnf)) ?_; refine gO ?_; refine gc_ret ?_; rotate_left; refine gF rfl rfl rfl ?_; apply gw_d; exact w_load_box rfl rfl rfl .here rfl; refine gC rfl rfl rfl rfl rfl ?_; apply gw_d; exact det_pick_f (v := .bool _) rfl rfl rfl rfl; refine gM rfl rfl (by conv => (lhs; whnf)) ?_; refine gO ?_; refine gc_ret ?_; rotate_left)
  all_goals (refine gx_ret1 (v := .bool _) rfl rfl (fun _ _ => ?_); simp [outB, *])

set_option maxHeartbeats 1000000 in
theorem cross_ok (w : World) (ax ay bx by_ cx cy : Int) (h1 : Bd ax) (h2 : Bd ay) (h3 : Bd bx) (h4 : Bd by_) (h5 : Bd cx) (h6 : Bd cy) :
    Ok Tryz.prog 213 [.agg #[.int .i64 ax, .int .i64 ay], .agg #[.int .i64 bx, .int .i64 by_], .agg #[.int .i64 cx, .int .i64 cy]].toArray w fun r _ => r = .int .i64 (crossI ax ay bx by_ cx cy) := by
  unfold Bd at *
  have m1 := mul_bd (x := bx - ax) (y := cy - ay) (B := 2097152) (C := 2097152) (by omega) (by omega) (by omega) (by omega)
  have m2 := mul_bd (x := by_ - ay) (y := cx - ax) (B := 2097152) (C := 2097152) (by omega) (by omega) (by omega) (by omega)
  refine ok_enter Tryz.func213 rfl Tryz.ntmps213 rfl ?_
  focus (refine gc_seq ?_; refine gc_region ?_; refine gw_boxd (v := .agg _) rfl rfl (fun _ => ?_); refine gw_boxd (v := .agg _) rfl rfl (fun _ => ?_); refine gw_boxd (v := .agg _) rfl rfl (fun _ => ?_); refine gM rfl rfl (by conv => (lhs; whnf)) ?_; refine gN ?_; refine gF rfl rfl rfl ?_; apply gw_d; exact w_load_box rfl rfl rfl (.there .here) rfl; refine gF rfl rfl rfl ?_; apply gw_d; exact w_load_box rfl rfl rfl (.there (.there .here)) rfl; apply gw_d; exact det_ar rfl rfl rfl rfl rfl (by omega); refine gF rfl rfl rfl ?_; apply gw_d; exact w_load_box rfl rfl rfl .here rfl; refine gF rfl rfl rfl ?_; apply gw_d; exact w_load_box rfl rfl rfl (.there (.there .here)) rfl; apply gw_d; exact det_ar rfl rfl rfl rfl rfl (by omega); apply gw_d; exact det_ar rfl rfl rfl rfl rfl (by omega); refine gF rfl rfl rfl ?_; apply gw_d; exact w_load_box rfl rfl rfl (.there .here) rfl; refine gF rfl rfl rfl ?_; apply gw_d; exact w_load_box rfl rfl rfl (.there (.there .here)) rfl; apply gw_d; exact det_ar rfl rfl rfl rfl rfl (by omega); refine gF rfl rfl rfl ?_; apply gw_d; exact w_load_box rfl rfl rfl .here rfl; refine gF rfl rfl rfl ?_; apply gw_d; exact w_load_box rfl rfl rfl (.there (.there .here)) rfl; apply gw_d; exact det_ar rfl rfl rfl rfl rfl (by omega); apply gw_d; exact det_ar rfl rfl rfl rfl rfl (by omega); apply gw_d; exact det_ar rfl rfl rfl rfl rfl (by omega); refine gM rfl rfl (by conv => (lhs; whnf)) ?_; refine gO ?_; refine gc_ret ?_)
  refine gx_ret1 (v := .int _ _) rfl rfl (fun _ _ => ?_)
  simp only [crossI]
def onB (ax ay bx by_ px py : Int) : Bool := decide (crossI ax ay bx by_ px py = 0) && decide (min ax bx ≤ px) && decide (px ≤ max ax bx) && decide (min ay by_ ≤ py) && decide (py ≤ max ay by_)

set_option maxHeartbeats 400000 in
theorem on_ok (w : World) (ax ay bx by_ cx cy : Int) (h1 : Bd ax) (h2 : Bd ay) (h3 : Bd bx) (h4 : Bd by_) (h5 : Bd cx) (h6 : Bd cy) :
    Ok Tryz.prog 214 [.agg #[.int .i64 ax, .int .i64 ay], .agg #[.int .i64 bx, .int .i64 by_], .agg #[.int .i64 cx, .int .i64 cy]].toArray w fun r _ => r = .bool (onB ax ay bx by_ cx cy) := by
  refine ok_enter Tryz.func214 rfl Tryz.ntmps214 rfl ?_
  focus (refine gc_seq ?_; refine gc_region ?_; refine gw_boxd (v := .agg _) rfl rfl (fun _ => ?_); refine gw_boxd (v := .agg _) rfl rfl (fun _ => ?_); refine gw_boxd (v := .agg _) rfl rfl (fun _ => ?_); refine gM rfl rfl (by conv => (lhs; whnf)) ?_; refine gN ?_; apply gw_d; exact w_load_boxN rfl rfl rfl (.there (.there .here)) rfl; apply gw_d; exact w_load_boxN rfl rfl rfl (.there .here) rfl; apply gw_d; exact w_load_boxN rfl rfl rfl .here rfl; apply gw_d; exact w_call rfl rfl (fun w _ => cross_ok w _ _ _ _ _ _ h1 h2 h3 h4 h5 h6) rfl; refine gC rfl rfl rfl rfl rfl ?_; refine gM rfl rfl (by conv => (lhs; whnf)) ?_; refine gw_guard_dec rfl rfl (fun _ => ?_) (fun _ => ?_); refine gF rfl rfl rfl ?_; apply gw_d; exact w_load_box rfl rfl rfl (.there (.there .here)) rfl; refine gF rfl rfl rfl ?_; apply gw_d; exact w_load_box rfl rfl rfl (.there .here) rfl; apply gw_d; exact w_min rfl rfl rfl rfl; refine gF rfl rfl rfl ?_; apply gw_d; exact w_load_box rfl rfl rfl .here rfl; refine gC rfl rfl rfl rfl rfl ?_; apply gw_d; exact det_pick_t (v := .bool _) rfl rfl rfl rfl; refine gM rfl rfl (by conv => (lhs; whnf)) ?_; refine gw_guard_dec rfl rfl (fun _ => ?_) (fun _ => ?_); refine gF rfl rfl rfl ?_; apply gw_d; exact w_load_box rfl rfl rfl .here rfl; refine gF rfl rfl rfl ?_; apply gw_d; exact w_load_box rfl rfl rfl (.there (.there .here)) rfl; refine gF rfl rfl rfl ?_; apply gw_d; exact w_load_box rfl rfl rfl (.there .here) rfl; apply gw_d; exact w_max rfl rfl rfl rfl; refine gC rfl rfl rfl rfl rfl ?_; apply gw_d; exact det_pick_t (v := .bool _) rfl rfl rfl rfl; refine gM rfl rfl (by conv => (lhs; whnf)) ?_; refine gw_guard_dec rfl rfl (fun _ => ?_) (fun _ => ?_); refine gF rfl rfl rfl ?_; apply gw_d; exact w_load_box rfl rfl rfl (.there (.there .here)) rfl; refine gF rfl rfl rfl ?_; apply gw_d; exact w_load_box rfl rfl rfl (.there .here) rfl; apply gw_d; exact w_min rfl rfl rfl rfl; refine gF rfl rfl rfl ?_; apply gw_d; exact w_load_box rfl rfl rfl .here rfl; refine gC rfl rfl rfl rfl rfl ?_; apply gw_d; exact det_pick_t (v := .bool _) rfl rfl rfl rfl; refine gM rfl rfl (by conv => (lhs; whnf)) ?_; refine gw_guard_dec rfl rfl (fun _ => ?_) (fun _ => ?_); refine gF rfl rfl rfl ?_; apply gw_d; exact w_load_box rfl rfl rfl .here rfl; refine gF rfl rfl rfl ?_; apply gw_d; exact w_load_box rfl rfl rfl (.there (.there .here)) rfl; refine gF rfl rfl rfl ?_; apply gw_d; exact w_load_box rfl rfl rfl (.there .here) rfl; apply gw_d; exact w_max rfl rfl rfl rfl; refine gC rfl rfl rfl rfl rfl ?_; apply gw_d; exact det_pick_t (v := .bool _) rfl rfl rfl rfl; refine gM rfl rfl (by conv => (lhs; whnf)) ?_; refine gO ?_; refine gc_ret ?_; rotate_left; refine gU rfl ?_; refine gU rfl ?_; refine gU rfl ?_; refine gU rfl ?_; refine gU rfl ?_; refine gU rfl ?_; refine gU rfl ?_; refine gU rfl ?_; apply gw_d; exact det_pick_f (v := .bool _) rfl rfl rfl rfl; refine gM rfl rfl (by conv => (lhs; whnf)) ?_; refine gO ?_; refine gc_ret ?_; rotate_left; refine gU rfl ?_; refine gU rfl ?_; refine gU rfl ?_; refine gU rfl ?_; refine gU rfl ?_; refine gU rfl ?_; refine gU rfl ?_; refine gU rfl ?_; apply gw_d; exact det_pick_f (v := .bool _) rfl rfl rfl rfl; refine gM rfl rfl (by conv => (lhs; whnf)) ?_; refine gU rfl ?_; refine gU rfl ?_; refine gU rfl ?_; refine gU rfl ?_; refine gU rfl ?_; refine gU rfl ?_; refine gU rfl ?_; refine gU rfl ?_; apply gw_d; exact det_pick_f (v := .bool _) rfl rfl rfl rfl; refine gM rfl rfl (by conv => (lhs; whnf)) ?_; refine gO ?_; refine gc_ret ?_; rotate_left; refine gU rfl ?_; refine gU rfl ?_; refine gU rfl ?_; refine gU rfl ?_; refine gU rfl ?_; refine gU rfl ?_; refine gU rfl ?_; refine gU rfl ?_; apply gw_d; exact det_pick_f (v := .bool _) rfl rfl rfl rfl; refine gM rfl rfl (by conv => (lhs; whnf)) ?_; refine gU rfl ?_; refine gU rfl ?_; refine gU rfl ?_; refine gU rfl ?_; refine gU rfl ?_; refine gU rfl ?_; refine gU rfl ?_; refine gU rfl ?_; apply gw_d; exact det_pick_f (v := .bool _) rfl rfl rfl rfl; refine gM rfl rfl (by conv => (lhs; whnf)) ?_; refine gU rfl ?_; refine gU rfl ?_; refine gU rfl ?_; refine gU rfl ?_; refine gU rfl ?_; refine gU rfl ?_; refine gU rfl ?_; refine gU rfl ?_; apply gw_d; exact det_pick_f (v := .bool _) rfl rfl rfl rfl; refine gM rfl rfl (by conv => (lhs; whnf)) ?_; refine gO ?_; refine gc_ret ?_; rotate_left; refine gU rfl ?_; refine gU rfl ?_; refine gU rfl ?_; refine gU rfl ?_; refine gU rfl ?_; refine gU rfl ?_; refine gU rfl ?_; refine gU rfl ?_; apply gw_d; exact det_pick_f (v := .bool _) rfl rfl rfl rfl; refine gM rfl rfl (by conv => (lhs; whnf)) ?_; refine gU rfl ?_; refine gU rfl ?_; refine gU rfl ?_; refine gU rfl ?_; refine gU rfl ?_; refine gU rfl ?_; refine gU rfl ?_; refine gU rfl ?_; apply gw_d; exact det_pick_f (v := .bool _) rfl rfl rfl rfl; refine gM rfl rfl (by conv => (lhs; whnf)) ?_; refine gU rfl ?_; refine gU rfl ?_; refine gU rfl ?_; refine gU rfl ?_; refine gU rfl ?_; refine gU rfl ?_; refine gU rfl ?_; refine gU rfl ?_; apply gw_d; exact det_pick_f (v := .bool _) rfl rfl rfl rfl; refine gM rfl rfl (by conv => (lhs; whnf)) ?_; refine gU rfl ?_; refine gU rfl ?_; refine gU rfl ?_; refine gU rfl ?_; refine gU rfl ?_; refine gU rfl ?_; refine gU rfl ?_; refine gU rfl ?_; apply gw_d; exact det_pick_f (v := .bool _) rfl rfl rfl rfl; refine gM rfl rfl (by conv => (lhs; whnf)) ?_; refine gO ?_; refine gc_ret ?_; rotate_left)
  all_goals (refine gx_ret1 (v := .bool _) rfl rfl (fun _ _ => ?_); simp [onB, *])

theorem isNaN_ok (w : World) (x : Int) : Ok Tryz.prog 199 [.int .i64 x].toArray w fun r _ => r = .bool false := by
  refine ok_enter Tryz.func199 rfl Tryz.ntmps199 rfl ?_
  focus (refine gc_seq ?_; refine gc_region ?_; refine gM rfl rfl (by conv => (lhs; whnf)) ?_; refine gN ?_; refine gM rfl rfl (by conv => (lhs; whnf)) ?_; refine gM rfl rfl (by conv => (lhs; whnf)) ?_; refine gC rfl rfl rfl rfl rfl ?_; refine gM rfl rfl (by conv => (lhs; whnf)) ?_; refine gO ?_; refine gc_ret ?_)
  refine gx_ret1 (v := .bool _) rfl rfl (fun _ _ => ?_)
  simp
def signI (x y : Int) : Int := if x < y then -1 else if x > y then 1 else 0
theorem compare_ok (w : World) (x y : Int) : Ok Tryz.prog 176 [.int .i64 x, .int .i64 y].toArray w fun r _ => r = .int .i64 (signI x y) := by
  refine ok_enter Tryz.func176 rfl Tryz.ntmps176 rfl ?_
  focus (refine gc_seq ?_; refine gc_region ?_; refine gM rfl rfl (by conv => (lhs; whnf)) ?_; refine gN ?_; refine gM rfl rfl (by conv => (lhs; whnf)) ?_; apply gw_d; exact w_call rfl rfl (fun w _ => isNaN_ok w _) rfl; refine gM rfl rfl (by conv => (lhs; whnf)) ?_; refine gN ?_; refine gM rfl rfl (by conv => (lhs; whnf)) ?_; apply gw_d; exact w_call rfl rfl (fun w _ => isNaN_ok w _) rfl; refine gM rfl rfl (by conv => (lhs; whnf)) ?_; refine gO ?_; refine gc_seq ?_; refine gc_seq ?_; refine gc_region ?_; refine gM rfl rfl (by conv => (lhs; whnf)) ?_; refine gO ?_; refine gc_if_false rfl ?_; refine gc_skip ?_; refine gx_next ?_; refine gc_seq ?_; refine gc_seq ?_; refine gc_region ?_; refine gM rfl rfl (by conv => (lhs; whnf)) ?_; refine gO ?_; refine gc_if_false rfl ?_; refine gc_skip ?_; refine gx_next ?_; refine gc_seq ?_; refine gc_seq ?_; refine gc_region ?_; refine gM rfl rfl (by conv => (lhs; whnf)) ?_; refine gM rfl rfl (by conv => (lhs; whnf)) ?_; refine gC rfl rfl rfl rfl rfl ?_; refine gO ?_; refine gc_if_dec rfl (fun _ => ?_) (fun _ => ?_); refine gc_seq ?_; refine gc_region ?_; refine gM rfl rfl (by conv => (lhs; whnf)) ?_; refine gO ?_; refine gc_ret ?_; refine gx_then_ret ?_; rotate_left; refine gc_skip ?_; refine gx_next ?_; refine gc_seq ?_; refine gc_seq ?_; refine gc_region ?_; refine gM rfl rfl (by conv => (lhs; whnf)) ?_; refine gM rfl rfl (by conv => (lhs; whnf)) ?_; refine gC rfl rfl rfl rfl rfl ?_; refine gO ?_; refine gc_if_dec rfl (fun _ => ?_) (fun _ => ?_); refine gc_seq ?_; refine gc_region ?_; refine gM rfl rfl (by conv => (lhs; whnf)) ?_; refine gO ?_; refine gc_ret ?_; refine gx_then_ret ?_; rotate_left; refine gc_skip ?_; refine gx_next ?_; refine gc_seq ?_; refine gc_region ?_; refine gM rfl rfl (by conv => (lhs; whnf)) ?_; refine gO ?_; refine gc_ret ?_; rotate_left)
  all_goals (refine gx_ret1 (v := .int _ _) rfl rfl (fun _ _ => ?_); simp [signI, *])

def partB (ax ay bx by_ cx cy dx dy : Int) : Bool := decide (signI (crossI ax ay bx by_ cx cy) 0 * signI (crossI ax ay bx by_ dx dy) 0 < 0)
theorem sign_bd (x y : Int) : -1 ≤ signI x y ∧ signI x y ≤ 1 := by unfold signI; split <;> (try split) <;> omega

set_option maxHeartbeats 400000 in
theorem parted_ok (w : World) (ax ay bx by_ cx cy dx dy : Int) (h1 : Bd ax) (h2 : Bd ay) (h3 : Bd bx) (h4 : Bd by_) (h5 : Bd cx) (h6 : Bd cy) (h7 : Bd dx) (h8 : Bd dy) :
    Ok Tryz.prog 215 [.agg #[.int .i64 ax, .int .i64 ay], .agg #[.int .i64 bx, .int .i64 by_], .agg #[.int .i64 cx, .int .i64 cy], .agg #[.int .i64 dx, .int .i64 dy]].toArray w fun r _ => r = .bool (partB ax ay bx by_ cx cy dx dy) := by
  have s1 := sign_bd (crossI ax ay bx by_ cx cy) 0
  have s2 := sign_bd (crossI ax ay bx by_ dx dy) 0
  have m := mul_bd (B := 1) (C := 1) s1.1 s1.2 s2.1 s2.2
  refine ok_enter Tryz.func215 rfl Tryz.ntmps215 rfl ?_
  focus (refine gc_seq ?_; refine gc_region ?_; refine gw_boxd (v := .agg _) rfl rfl (fun _ => ?_); refine gw_boxd (v := .agg _) rfl rfl (fun _ => ?_); refine gw_boxd (v := .agg _) rfl rfl (fun _ => ?_); refine gw_boxd (v := .agg _) rfl rfl (fun _ => ?_); refine gM rfl rfl (by conv => (lhs; whnf)) ?_; refine gO ?_; refine gc_seq ?_)
  refine gc_draw 12 (by kernel_rfl) (by kernel_rfl) ?_
  focus (apply gd_d; exact w_load_boxN rfl rfl rfl (.there (.there (.there .here))) rfl; apply gd_d; exact w_load_boxN rfl rfl rfl (.there (.there .here)) rfl; apply gd_d; exact w_load_boxN rfl rfl rfl (.there .here) rfl; apply gd_d; exact w_call rfl rfl (fun w _ => cross_ok w _ _ _ _ _ _ h1 h2 h3 h4 h5 h6) rfl; apply gd_d; exact w_call rfl rfl (fun w _ => compare_ok w _ _) rfl; apply gd_d; exact w_load_boxN rfl rfl rfl (.there (.there (.there .here))) rfl; apply gd_d; exact w_load_boxN rfl rfl rfl (.there (.there .here)) rfl; apply gd_d; exact w_load_boxN rfl rfl rfl .here rfl; apply gd_d; exact w_call rfl rfl (fun w _ => cross_ok w _ _ _ _ _ _ h1 h2 h3 h4 h7 h8) rfl; apply gd_d; exact w_call rfl rfl (fun w _ => compare_ok w _ _) rfl; apply gd_d; exact det_ar rfl rfl rfl rfl rfl (by omega); apply gd_d; exact det_cmp rfl rfl rfl rfl rfl; refine gd_nil ?_; refine gM rfl rfl (by conv => (lhs; whnf)) ?_; refine gO ?_; refine gc_ret ?_)
  refine gx_ret1 (v := .bool _) rfl rfl (fun _ _ => ?_)
  simp only [partB]

def foldB (ax ay bx by_ cx cy : Int) : Bool := decide (crossI ax ay bx by_ cx cy = 0) && decide ((ax - bx) * (cx - bx) + (ay - by_) * (cy - by_) > 0)
set_option maxHeartbeats 400000 in
theorem folded_ok (w : World) (ax ay bx by_ cx cy : Int) (h1 : Bd ax) (h2 : Bd ay) (h3 : Bd bx) (h4 : Bd by_) (h5 : Bd cx) (h6 : Bd cy) :
    Ok Tryz.prog 193 [.agg #[.int .i64 ax, .int .i64 ay], .agg #[.int .i64 bx, .int .i64 by_], .agg #[.int .i64 cx, .int .i64 cy]].toArray w fun r _ => r = .bool (foldB ax ay bx by_ cx cy) := by
  have b1 := h1; have b2 := h2; have b3 := h3; have b4 := h4; have b5 := h5; have b6 := h6
  unfold Bd at b1 b2 b3 b4 b5 b6
  have m1 := mul_bd (x := ax - bx) (y := cx - bx) (B := 2097152) (C := 2097152) (by omega) (by omega) (by omega) (by omega)
  have m2 := mul_bd (x := ay - by_) (y := cy - by_) (B := 2097152) (C := 2097152) (by omega) (by omega) (by omega) (by omega)
  refine ok_enter Tryz.func193 rfl Tryz.ntmps193 rfl ?_
  focus (refine gc_seq ?_; refine gc_region ?_; refine gw_boxd (v := .agg _) rfl rfl (fun _ => ?_); refine gw_boxd (v := .agg _) rfl rfl (fun _ => ?_); refine gw_boxd (v := .agg _) rfl rfl (fun _ => ?_); refine gM rfl rfl (by conv => (lhs; whnf)) ?_; refine gN ?_; apply gw_d; exact w_load_boxN rfl rfl rfl (.there (.there .here)) rfl; apply gw_d; exact w_load_boxN rfl rfl rfl (.there .here) rfl; apply gw_d; exact w_load_boxN rfl rfl rfl .here rfl; apply gw_d; exact w_call rfl rfl (fun w _ => cross_ok w _ _ _ _ _ _ h1 h2 h3 h4 h5 h6) rfl; refine gC rfl rfl rfl rfl rfl ?_; refine gM rfl rfl (by conv => (lhs; whnf)) ?_; refine gw_guard_dec rfl rfl (fun _ => ?_) (fun _ => ?_); refine gF rfl rfl rfl ?_; apply gw_d; exact w_load_box rfl rfl rfl (.there (.there .here)) rfl; refine gF rfl rfl rfl ?_; apply gw_d; exact w_load_box rfl rfl rfl (.there .here) rfl; apply gw_d; exact det_ar rfl rfl rfl rfl rfl (by omega); refine gF rfl rfl rfl ?_; apply gw_d; exact w_load_box rfl rfl rfl .here rfl; refine gF rfl rfl rfl ?_; apply gw_d; exact w_load_box rfl rfl rfl (.there .here) rfl; apply gw_d; exact det_ar rfl rfl rfl rfl rfl (by omega); apply gw_d; exact det_ar rfl rfl rfl rfl rfl (by omega); refine gF rfl rfl rfl ?_; apply gw_d; exact w_load_box rfl rfl rfl (.there (.there .here)) rfl; refine gF rfl rfl rfl ?_; apply gw_d; exact w_load_box rfl rfl rfl (.there .here) rfl; apply gw_d; exact det_ar rfl rfl rfl rfl rfl (by omega); refine gF rfl rfl rfl ?_; apply gw_d; exact w_load_box rfl rfl rfl .here rfl; refine gF rfl rfl rfl ?_; apply gw_d; exact w_load_box rfl rfl rfl (.there .here) rfl; apply gw_d; exact det_ar rfl rfl rfl rfl rfl (by omega); apply gw_d; exact det_ar rfl rfl rfl rfl rfl (by omega); apply gw_d; exact det_ar rfl rfl rfl rfl rfl (by omega); refine gC rfl rfl rfl rfl rfl ?_; apply gw_d; exact det_pick_t (v := .bool _) rfl rfl rfl rfl; refine gM rfl rfl (by conv => (lhs; whnf)) ?_; refine gO ?_; refine gc_ret ?_; rotate_left; refine gU rfl ?_; refine gU rfl ?_; refine gU rfl ?_; refine gU rfl ?_; refine gU rfl ?_; refine gU rfl ?_; refine gU rfl ?_; refine gU rfl ?_; refine gU rfl ?_; refine gU rfl ?_; refine gU rfl ?_; refine gU rfl ?_; refine gU rfl ?_; refine gU rfl ?_; refine gU rfl ?_; refine gU rfl ?_; refine gU rfl ?_; refine gU rfl ?_; refine gU rfl ?_; refine gU rfl ?_; refine gU rfl ?_; refine gU rfl ?_; refine gU rfl ?_; refine gU rfl ?_; apply gw_d; exact det_pick_f (v := .bool _) rfl rfl rfl rfl; refine gM rfl rfl (by conv => (lhs; whnf)) ?_; refine gO ?_; refine gc_ret ?_; rotate_left)
  all_goals (refine gx_ret1 (v := .bool _) rfl rfl (fun _ _ => ?_); simp [foldB, *])

def meetB (ax ay bx by_ cx cy dx dy : Int) : Bool := onB ax ay bx by_ cx cy || onB ax ay bx by_ dx dy || onB cx cy dx dy ax ay || onB cx cy dx dy bx by_ || (partB ax ay bx by_ cx cy dx dy && partB cx cy dx dy ax ay bx by_)
set_option maxHeartbeats 400000 in
theorem meet_ok (w : World) (ax ay bx by_ cx cy dx dy : Int) (h1 : Bd ax) (h2 : Bd ay) (h3 : Bd bx) (h4 : Bd by_) (h5 : Bd cx) (h6 : Bd cy) (h7 : Bd dx) (h8 : Bd dy) :
    Ok Tryz.prog 194 [.agg #[.int .i64 ax, .int .i64 ay], .agg #[.int .i64 bx, .int .i64 by_], .agg #[.int .i64 cx, .int .i64 cy], .agg #[.int .i64 dx, .int .i64 dy]].toArray w fun r _ => r = .bool (meetB ax ay bx by_ cx cy dx dy) := by
  refine ok_enter Tryz.func194 rfl Tryz.ntmps194 rfl ?_
  focus (refine gc_seq ?_; refine gc_region ?_; refine gw_boxd (v := .agg _) rfl rfl (fun _ => ?_); refine gw_boxd (v := .agg _) rfl rfl (fun _ => ?_); refine gw_boxd (v := .agg _) rfl rfl (fun _ => ?_); refine gw_boxd (v := .agg _) rfl rfl (fun _ => ?_); refine gM rfl rfl (by conv => (lhs; whnf)) ?_; refine gN ?_; apply gw_d; exact w_load_boxN rfl rfl rfl (.there (.there (.there .here))) rfl; apply gw_d; exact w_load_boxN rfl rfl rfl (.there (.there .here)) rfl; apply gw_d; exact w_load_boxN rfl rfl rfl (.there .here) rfl; apply gw_d; exact w_call rfl rfl (fun w _ => on_ok w _ _ _ _ _ _ (by assumption) (by assumption) (by assumption) (by assumption) (by assumption) (by assumption)) rfl; refine gM rfl rfl (by conv => (lhs; whnf)) ?_; refine gw_guard rfl rfl (fun _ => ?_) (fun _ => ?_); refine gU rfl ?_; refine gU rfl ?_; refine gU rfl ?_; refine gU rfl ?_; apply gw_d; exact det_pick_t (v := .bool _) rfl rfl rfl rfl; refine gM rfl rfl (by conv => (lhs; whnf)) ?_; refine gU rfl ?_; refine gU rfl ?_; refine gU rfl ?_; refine gU rfl ?_; apply gw_d; exact det_pick_t (v := .bool _) rfl rfl rfl rfl; refine gM rfl rfl (by conv => (lhs; whnf)) ?_; refine gU rfl ?_; refine gU rfl ?_; refine gU rfl ?_; refine gU rfl ?_; apply gw_d; exact det_pick_t (v := .bool _) rfl rfl rfl rfl; refine gM rfl rfl (by conv => (lhs; whnf)) ?_; refine gU rfl ?_; refine gU rfl ?_; refine gU rfl ?_; refine gU rfl ?_; refine gU rfl ?_; refine gU rfl ?_; refine gU rfl ?_; refine gU rfl ?_; refine gU rfl ?_; refine gU rfl ?_; refine gU rfl ?_; refine gU rfl ?_; apply gw_d; exact det_pick_t (v := .bool _) rfl rfl rfl rfl; refine gM rfl rfl (by conv => (lhs; whnf)) ?_; refine gO ?_; refine gc_ret ?_; rotate_left; apply gw_d; exact w_load_boxN rfl rfl rfl (.there (.there (.there .here))) rfl; apply gw_d; exact w_load_boxN rfl rfl rfl (.there (.there .here)) rfl; apply gw_d; exact w_load_boxN rfl rfl rfl .here rfl; apply gw_d; exact w_call rfl rfl (fun w _ => on_ok w _ _ _ _ _ _ (by assumption) (by assumption) (by assumption) (by assumption) (by assumption) (by assumption)) rfl; apply gw_d; exact det_pick_f (v := .bool _) rfl rfl rfl rfl; refine gM rfl rfl (by conv => (lhs; whnf)) ?_; refine gw_guard rfl rfl (fun _ => ?_) (fun _ => ?_); refine gU rfl ?_; refine gU rfl ?_; refine gU rfl ?_; refine gU rfl ?_; apply gw_d; exact det_pick_t (v := .bool _) rfl rfl rfl rfl; refine gM rfl rfl (by conv => (lhs; whnf)) ?_; refine gU rfl ?_; refine gU rfl ?_; refine gU rfl ?_; refine gU rfl ?_; apply gw_d; exact det_pick_t (v := .bool _) rfl rfl rfl rfl; refine gM rfl rfl (by conv => (lhs; whnf)) ?_; refine gU rfl ?_; refine gU rfl ?_; refine gU rfl ?_; refine gU rfl ?_; refine gU rfl ?_; refine gU rfl ?_; refine gU rfl ?_; refine gU rfl ?_; refine gU rfl ?_; refine gU rfl ?_; refine gU rfl ?_; refine gU rfl ?_; apply gw_d; exact det_pick_t (v := .bool _) rfl rfl rfl rfl; refine gM rfl rfl (by conv => (lhs; whnf)) ?_; refine gO ?_; refine gc_ret ?_; rotate_left; apply gw_d; exact w_load_boxN rfl rfl rfl (.there .here) rfl; apply gw_d; exact w_load_boxN rfl rfl rfl .here rfl; apply gw_d; exact w_load_boxN rfl rfl rfl (.there (.there (.there .here))) rfl; apply gw_d; exact w_call rfl rfl (fun w _ => on_ok w _ _ _ _ _ _ (by assumption) (by assumption) (by assumption) (by assumption) (by assumption) (by assumption)) rfl; apply gw_d; exact det_pick_f (v := .bool _) rfl rfl rfl rfl; refine gM rfl rfl (by conv => (lhs; whnf)) ?_; refine gw_guard rfl rfl (fun _ => ?_) (fun _ => ?_); refine gU rfl ?_; refine gU rfl ?_; refine gU rfl ?_; refine gU rfl ?_; apply gw_d; exact det_pick_t (v := .bool _) rfl rfl rfl rfl; refine gM rfl rfl (by conv => (lhs; whnf)) ?_; refine gU rfl ?_; refine gU rfl ?_; refine gU rfl ?_; refine gU rfl ?_; refine gU rfl ?_; refine gU rfl ?_; refine gU rfl ?_; refine gU rfl ?_; refine gU rfl ?_; refine gU rfl ?_; refine gU rfl ?_; refine gU rfl ?_; apply gw_d; exact det_pick_t (v := .bool _) rfl rfl rfl rfl; refine gM rfl rfl (by conv => (lhs; whnf)) ?_; refine gO ?_; refine gc_ret ?_; rotate_left; apply gw_d; exact w_load_boxN rfl rfl rfl (.there .here) rfl; apply gw_d; exact w_load_boxN rfl rfl rfl .here rfl; apply gw_d; exact w_load_boxN rfl rfl rfl (.there (.there .here)) rfl; apply gw_d; exact w_call rfl rfl (fun w _ => on_ok w _ _ _ _ _ _ (by assumption) (by assumption) (by assumption) (by assumption) (by assumption) (by assumption)) rfl; apply gw_d; exact det_pick_f (v := .bool _) rfl rfl rfl rfl; refine gM rfl rfl (by conv => (lhs; whnf)) ?_; refine gw_guard rfl rfl (fun _ => ?_) (fun _ => ?_); refine gU rfl ?_; refine gU rfl ?_; refine gU rfl ?_; refine gU rfl ?_; refine gU rfl ?_; refine gU rfl ?_; refine gU rfl ?_; refine gU rfl ?_; refine gU rfl ?_; refine gU rfl ?_; refine gU rfl ?_; refine gU rfl ?_; apply gw_d; exact det_pick_t (v := .bool _) rfl rfl rfl rfl; refine gM rfl rfl (by conv => (lhs; whnf)) ?_; refine gO ?_; refine gc_ret ?_; rotate_left; apply gw_d; exact w_load_boxN rfl rfl rfl (.there (.there (.there .here))) rfl; apply gw_d; exact w_load_boxN rfl rfl rfl (.there (.there .here)) rfl; apply gw_d; exact w_load_boxN rfl rfl rfl (.there .here) rfl; apply gw_d; exact w_load_boxN rfl rfl rfl .here rfl; apply gw_d; exact w_call rfl rfl (fun w _ => parted_ok w _ _ _ _ _ _ _ _ (by assumption) (by assumption) (by assumption) (by assumption) (by assumption) (by assumption) (by assumption) (by assumption)) rfl; refine gM rfl rfl (by conv => (lhs; whnf)) ?_; refine gw_guard_dec rfl rfl (fun _ => ?_) (fun _ => ?_); apply gw_d; exact w_load_boxN rfl rfl rfl (.there .here) rfl; apply gw_d; exact w_load_boxN rfl rfl rfl .here rfl; apply gw_d; exact w_load_boxN rfl rfl rfl (.there (.there (.there .here))) rfl; apply gw_d; exact w_load_boxN rfl rfl rfl (.there (.there .here)) rfl; apply gw_d; exact w_call rfl rfl (fun w _ => parted_ok w _ _ _ _ _ _ _ _ (by assumption) (by assumption) (by assumption) (by assumption) (by assumption) (by assumption) (by assumption) (by assumption)) rfl; apply gw_d; exact det_pick_t (v := .bool _) rfl rfl rfl rfl; apply gw_d; exact det_pick_f (v := .bool _) rfl rfl rfl rfl; refine gM rfl rfl (by conv => (lhs; whnf)) ?_; refine gO ?_; refine gc_ret ?_; rotate_left; refine gU rfl ?_; refine gU rfl ?_; refine gU rfl ?_; refine gU rfl ?_; refine gU rfl ?_; apply gw_d; exact det_pick_f (v := .bool _) rfl rfl rfl rfl; apply gw_d; exact det_pick_f (v := .bool _) rfl rfl rfl rfl; refine gM rfl rfl (by conv => (lhs; whnf)) ?_; refine gO ?_; refine gc_ret ?_; rotate_left)
  all_goals (refine gx_ret1 (v := .bool _) rfl rfl (fun _ _ => ?_); simp [meetB, partB, *])
end Go.Proofs.YtckhibfbdnoigaaGreatDoor
