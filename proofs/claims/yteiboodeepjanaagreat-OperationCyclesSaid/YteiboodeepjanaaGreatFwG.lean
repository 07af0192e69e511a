/- Maps of the function's own, comparisons of structs of integers, conversions. No program in sight. -/
import Derived.Test.YteiboodeepjanaaGreatFwF
namespace Go.Proofs.YteiboodeepjanaaGreat
open Go.RowKit

/-! ### Association lists -/
section
variable {κ : Type} [DecidableEq κ]
def aget (l : List (κ × Value)) (k : κ) : Option Value := (l.find? (fun p => p.1 == k)).map (·.2)
def aset : List (κ × Value) → κ → Value → List (κ × Value)
  | [], k, v => [(k, v)]
  | p :: l, k, v => if p.1 = k then (k, v) :: l else p :: aset l k v
theorem aget_nil (k : κ) : aget ([] : List (κ × Value)) k = none := rfl
theorem aget_cons (p : κ × Value) (l : List (κ × Value)) (k : κ) : aget (p :: l) k = if p.1 = k then some p.2 else aget l k := by
  unfold aget
  rw [List.find?_cons]
  by_cases h : p.1 = k
  · simp [h]
  · have hb : (p.1 == k) = false := by simpa using h
    rw [hb, if_neg h]
theorem aget_aset (l : List (κ × Value)) (k k' : κ) (v : Value) : aget (aset l k v) k' = if k = k' then some v else aget l k' := by
  induction l with
  | nil => simp [aset, aget_cons, aget_nil]
  | cons p l ih =>
    unfold aset
    by_cases h : p.1 = k
    · rw [if_pos h, aget_cons, aget_cons]
      by_cases h2 : k = k'
      · simp [h2]
      · simp [h2]
        intro h3
        exact absurd (h.symm.trans h3) h2
    · rw [if_neg h, aget_cons, aget_cons, ih]
      by_cases h2 : p.1 = k'
      · have : ¬ k = k' := fun h3 => h (h2.trans h3.symm)
        simp [h2, this]
      · simp [h2]

/-- How a key is written as a value, and how the model holds two of them against each other. -/
structure KeyLaw (P : Program) (kt : TypeId) (kv : κ → Value) : Prop where
  kind : ∃ d, P.underlying kt = some d ∧ (∀ a b, Instr.sameNow d (kv a) (kv b) = some (decide (a = b)))
  check : ∀ (em : Bool) (k : κ) (w : World), (Instr.checkKey em 10000 kt (kv k)).run P w = .ok () w
  stays : ∀ (k : κ), Instr.sameBits 10000 (kv k) (kv k) = true

def ents (kv : κ → Value) (l : List (κ × Value)) (es : Array MapEntry) : Prop := es.toList.map (fun e => (e.key, e.val)) = l.map fun p => (kv p.1, p.2)

def MapR (b : Nat) (kv : κ → Value) (l : List (κ × Value)) : Res :=
  ⟨fun x => x = b, fun w => ∃ es clock, w.heap[b]? = some (.map es clock) ∧ ents kv l es ∧ (∀ x ∈ es.toList, x.born < clock) ∧ es.toList.Pairwise (fun x y => x.born < y.born), fun _ _ h ⟨es, clock, h1, h2⟩ => ⟨es, clock, (h b rfl).trans h1, h2⟩⟩

variable {P : Program} {kt : TypeId} {kv : κ → Value}

theorem findNow_spec {d : TypeDesc} (hd : ∀ a b : κ, Instr.sameNow d (kv a) (kv b) = some (decide (a = b))) (k : κ) : ∀ (es : List MapEntry) (l : List (κ × Value)) (i : Nat), es.map (fun e => (e.key, e.val)) = l.map (fun p => (kv p.1, p.2)) →
    Instr.findNow d (kv k) es i = some ((l.findIdx? (fun p => decide (k = p.1))).map fun j => (i + j, ((l[j]?).map (·.2)).getD undef))
  | [], [], i, _ => rfl
  | [], _ :: _, _, h => by simp at h
  | _ :: _, [], _, h => by simp at h
  | e :: es, p :: l, i, h => by
    simp only [List.map_cons, List.cons.injEq, Prod.mk.injEq] at h
    obtain ⟨⟨h1, h2⟩, h3⟩ := h
    unfold Instr.findNow
    rw [h1, hd k p.1, List.findIdx?_cons]
    by_cases hk : k = p.1
    · simp [hk, h2]
    · simp only [hk, decide_false, Bool.false_eq_true, if_false]
      rw [findNow_spec hd k es l (i + 1) h3]
      simp only [Option.map_map, Option.some.injEq]
      congr 1
      funext j
      simp [Nat.add_assoc, Nat.add_comm 1 j]

theorem aget_find (l : List (κ × Value)) (k : κ) : aget l k = (l.findIdx? (fun p => decide (k = p.1))).bind fun j => (l[j]?).map (·.2) := by
  induction l with
  | nil => rfl
  | cons p l ih =>
    rw [aget_cons, List.findIdx?_cons]
    by_cases h : p.1 = k
    · simp [h]
    · have h' : ¬ k = p.1 := fun h2 => h h2.symm
      simp only [h, h', if_false, decide_false, Bool.false_eq_true]
      rw [ih]
      cases l.findIdx? (fun p => decide (k = p.1)) <;> simp

theorem aset_find (l : List (κ × Value)) (k : κ) (v : Value) : aset l k v = match l.findIdx? (fun p => decide (k = p.1)) with
    | some j => l.set j (k, v)
    | none => l ++ [(k, v)] := by
  induction l with
  | nil => rfl
  | cons p l ih =>
    unfold aset
    rw [List.findIdx?_cons]
    by_cases h : p.1 = k
    · simp [h]
    · have h' : ¬ k = p.1 := fun h2 => h h2.symm
      simp only [h, h', if_false, decide_false, Bool.false_eq_true]
      rw [ih]
      cases l.findIdx? (fun p => decide (k = p.1)) <;> simp

theorem find_lt {l : List (κ × Value)} {k : κ} {j : Nat} (h : l.findIdx? (fun p => decide (k = p.1)) = some j) : j < l.length ∧ (l[j]?).map (·.1) = some k := by
  obtain ⟨h1, h2, _⟩ := List.findIdx?_eq_some_iff_getElem.1 h
  refine ⟨h1, ?_⟩
  rw [List.getElem?_eq_getElem h1]
  simp at h2
  simp [h2]

theorem run_findKey (K : KeyLaw P kt kv) (k : κ) {l : List (κ × Value)} {es : List MapEntry} (h : es.map (fun e => (e.key, e.val)) = l.map (fun p => (kv p.1, p.2))) (w : World) :
    (Instr.findKey kt (kv k) es).run P w = .ok ((l.findIdx? (fun p => decide (k = p.1))).map fun j => (j, ((l[j]?).map (·.2)).getD undef)) w := by
  obtain ⟨d, hu, hd⟩ := K.kind
  unfold Instr.findKey
  simp only [Sem.run_bind, run_underlying hu, Result.andThen_ok, findNow_spec hd k es l 0 h, Nat.zero_add]
  rfl
end

section
variable {κ : Type} [DecidableEq κ] {P : Program} {ops : Array Oper} {Q : Exit → Act → World → Prop} {N : Nat} {w0 : World} {L L' : List Res} {rest : List Oper} {e : Env} {o : Oper} {t : TypeId} {x y ix : Operand} {a : Addr} {v z : Value} {kt vt : Nat} {kv : κ → Value} {l : List (κ × Value)} {k : κ} {b : Nat}

theorem w_lookup (K : KeyLaw P kt kv) [CMap P t kt vt] [CZero P vt z] (hop : o.op = .lookup t x ix false) (hw : wantedE N ops e o = true) (hx : ev N e x = .map (some b)) (hi : ev N e ix = kv k) (hp : Pick L (MapR b kv l) L') : Det P ops N w0 L o e ((aget l k).getD z) :=
  det_run hw fun w s => by
    obtain ⟨es, clock, h1, h2, _⟩ := (s.pick hp).head
    have ht := CMap.h (P := P) (t := t) (k := kt) (v := vt)
    have hz := CZero.h (P := P) (t := vt) (z := z)
    unfold mapKV at ht
    split at ht
    · rename_i k' v' hu
      injection ht with ht
      injection ht with e1 e2
      subst e1 e2
      obtain ⟨i, hinf, hzi⟩ := Option.bind_eq_some_iff.1 hz
      have hget : (getObj b).run P w = .ok (.map es clock) w := by
        unfold getObj
        simp [Sem.run, h1]
      unfold execOp
      simp only [hop, hx, hi, Instr.lookup, Sem.run_bind, run_underlying hu, Result.andThen_ok, hget, Sem.run_pure, K.check, run_findKey K k (l := l) (es := es.toList) h2]
      rw [aget_find]
      cases hf : l.findIdx? (fun p => decide (k = p.1)) with
      | none => simp [zeroValue, typeInfo, hinf, hzi]
      | some j =>
        obtain ⟨hj, _⟩ := find_lt hf
        simp [List.getElem?_eq_getElem hj]
    · cases ht
theorem w_lookup_ok (K : KeyLaw P kt kv) [CMap P t kt vt] [CZero P vt z] (hop : o.op = .lookup t x ix true) (hw : wantedE N ops e o = true) (hx : ev N e x = .map (some b)) (hi : ev N e ix = kv k) (hp : Pick L (MapR b kv l) L') :
    Det P ops N w0 L o e (.tuple #[(aget l k).getD z, .bool (aget l k).isSome]) :=
  det_run hw fun w s => by
    obtain ⟨es, clock, h1, h2, _⟩ := (s.pick hp).head
    have ht := CMap.h (P := P) (t := t) (k := kt) (v := vt)
    have hz := CZero.h (P := P) (t := vt) (z := z)
    unfold mapKV at ht
    split at ht
    · rename_i k' v' hu
      injection ht with ht
      injection ht with e1 e2
      subst e1 e2
      obtain ⟨i, hinf, hzi⟩ := Option.bind_eq_some_iff.1 hz
      have hget : (getObj b).run P w = .ok (.map es clock) w := by
        unfold getObj
        simp [Sem.run, h1]
      unfold execOp
      simp only [hop, hx, hi, Instr.lookup, Sem.run_bind, run_underlying hu, Result.andThen_ok, hget, Sem.run_pure, K.check, run_findKey K k (l := l) (es := es.toList) h2]
      rw [aget_find]
      cases hf : l.findIdx? (fun p => decide (k = p.1)) with
      | none => simp [zeroValue, typeInfo, hinf, hzi]
      | some j =>
        obtain ⟨hj, _⟩ := find_lt hf
        simp [List.getElem?_eq_getElem hj]
    · cases ht

omit [DecidableEq κ] in
theorem gw_makeMap {d : Nat} {ty : TypeId} {pos : String} {af : Array Edge} {g : Option (Nat × Bool)} (kv : κ → Value) (hw : wantedE N ops e ⟨some d, .makeMap t none, ty, pos, af, g⟩ = true)
    (k : ∀ b, GW P ops Q N w0 (MapR b kv [] :: L) rest (upd e d (.map (some b)))) : GW P ops Q N w0 L (⟨some d, .makeMap t none, ty, pos, af, g⟩ :: rest) e := ⟨fun w s =>
  wl_run (w' := w.alloc (.map #[] 0)) hw (by unfold execOp; simp [Instr.makeMap, newObj, Sem.run]) ((k w.heap.size).h _ (s.add (ext_alloc w _) ⟨#[], 0, heap_alloc_new w _, rfl, by simp, by simp⟩ fun b hb => by
    have : b = w.heap.size := hb
    subst this
    simp))⟩

omit [DecidableEq κ] in
theorem ents_set {es : Array MapEntry} {l : List (κ × Value)} {j : Nat} {k : κ} {v : Value} (h : ents kv l es) : ents kv (l.set j (k, v)) (es.modify j fun q => { q with key := kv k, val := v }) := by
  unfold ents at *
  rw [Array.toList_modify, List.map_set, ← h]
  apply List.ext_getElem?
  intro m
  rw [List.getElem?_map, List.getElem?_set, List.getElem?_modify, List.length_map, List.getElem?_map]
  by_cases hm : j = m
  · subst hm
    by_cases hlt : j < es.toList.length
    · rw [List.getElem?_eq_getElem hlt]; simp
      simpa using hlt
    · rw [List.getElem?_eq_none (by omega)]; simp
      simpa using hlt
  · simp [hm]

theorem gw_mapSet (K : KeyLaw P kt kv) [CMap P t kt vt] {ty : TypeId} {pos : String} {af : Array Edge} {g : Option (Nat × Bool)} (hw : wantedE N ops e ⟨none, .mapUpdate t x ix y, ty, pos, af, g⟩ = true) (hx : ev N e x = .map (some b)) (hi : ev N e ix = kv k)
    (hy : ev N e y = v) (hp : Pick L (MapR b kv l) L') (kk : GW P ops Q N w0 (MapR b kv (aset l k v) :: L') rest e) : GW P ops Q N w0 L (⟨none, .mapUpdate t x ix y, ty, pos, af, g⟩ :: rest) e := ⟨fun w s => by
  have s1 := s.pick hp
  obtain ⟨es, clock, h1, h2, h3, h4⟩ := s1.head
  have ht := CMap.h (P := P) (t := t) (k := kt) (v := vt)
  unfold mapKV at ht
  split at ht
  · rename_i k' v' hu
    injection ht with ht
    injection ht with e1 e2
    subst e1 e2
    have hlt : b < w.heap.size := (Array.getElem?_eq_some_iff.1 h1).1
    have hget : (getObj b).run P w = .ok (.map es clock) w := by
      unfold getObj
      simp [Sem.run, h1]
    have hset : ∀ ob, (setObj b ob).run P w = .ok () { w with heap := w.heap.setIfInBounds b ob } := fun ob => by
      unfold setObj
      simp [Sem.run, h1]
    have turn : ∀ es' clock', ents kv (aset l k v) es' → (∀ x ∈ es'.toList, x.born < clock') → es'.toList.Pairwise (fun x y => x.born < y.born) → St w0 (MapR b kv (aset l k v) :: L') { w with heap := w.heap.setIfInBounds b (.map es' clock') } := fun es' clock' q1 q2 q3 =>
      s1.turn (by simp) rfl rfl rfl (fun c _ hc => by
        have : b ≠ c := fun h => hc h.symm
        simp [Array.getElem?_setIfInBounds, this]) ⟨es', clock', by simp [hlt], q1, q2, q3⟩ fun c hc => .inl hc
    cases hf : l.findIdx? (fun p => decide (k = p.1)) with
    | none =>
      refine wl_skip_run (w' := { w with heap := w.heap.setIfInBounds b (.map (es.push { key := kv k, val := v, born := clock }) (clock + 1)) }) hw ?_ (kk.h _ (turn _ _ ?_ ?_ ?_))
      · unfold execOp
        simp only [hx, hi, hy, Instr.mapUpdate, Sem.run_bind, run_underlying hu, Result.andThen_ok, hget, K.check, run_findKey K k (l := l) (es := es.toList) h2, hf, Option.map_none, hset, Sem.run_pure]
      · rw [aset_find, hf]
        unfold ents at *
        simp [h2]
      · intro q hq
        simp only [Array.toList_push, List.mem_append, List.mem_singleton] at hq
        rcases hq with hq | rfl
        · have := h3 q hq; omega
        · simp
      · rw [Array.toList_push, List.pairwise_append]
        exact ⟨h4, by simp, fun q hq r hr => by simp only [List.mem_singleton] at hr; subst hr; exact h3 q hq⟩
    | some j =>
      obtain ⟨hj, hkj⟩ := find_lt hf
      have hlen : es.toList.length = l.length := by have := congrArg List.length h2; simpa using this
      have hjes : j < es.size := by simp at hlen; omega
      have hkey : es[j]?.map (·.key) = some (kv k) := by
        have h5 : (es.toList.map fun e => (e.key, e.val))[j]? = (l.map fun p => (kv p.1, p.2))[j]? := by rw [show es.toList.map (fun e => (e.key, e.val)) = l.map (fun p => (kv p.1, p.2)) from h2]
        rw [List.getElem?_map, List.getElem?_map, List.getElem?_eq_getElem hj] at h5
        rw [List.getElem?_eq_getElem hj] at hkj
        simp only [Option.map_some, Option.some.injEq] at hkj
        simp only [Array.getElem?_toList, Array.getElem?_eq_getElem hjes, Option.map_some, Option.some.injEq, Prod.mk.injEq] at h5
        rw [Array.getElem?_eq_getElem hjes]
        simp [h5.1, hkj]
      have hstay : (Instr.keyThatStays (kv k) (kv k)).run P w = .ok (kv k) w := by
        unfold Instr.keyThatStays
        simp [K.stays]
      refine wl_skip_run (w' := { w with heap := w.heap.setIfInBounds b (.map (es.modify j fun q => { q with key := kv k, val := v }) clock) }) hw ?_ (kk.h _ (turn _ _ ?_ ?_ ?_))
      · unfold execOp
        simp only [hx, hi, hy, Instr.mapUpdate, Sem.run_bind, run_underlying hu, Result.andThen_ok, hget, K.check, run_findKey K k (l := l) (es := es.toList) h2, hf, Option.map_some, hkey, Option.getD_some, hstay, hset, Sem.run_pure]
      · rw [aset_find, hf]
        exact ents_set h2
      · intro q hq
        rw [Array.toList_modify] at hq
        obtain ⟨m, hm, hmq⟩ := List.getElem_of_mem hq
        rw [List.getElem_modify] at hmq
        simp at hm
        split at hmq
        · subst hmq; exact h3 es.toList[m] (List.getElem_mem _)
        · subst hmq; exact h3 es.toList[m] (List.getElem_mem _)
      · rw [Array.toList_modify, List.pairwise_iff_getElem]
        intro p q hp hq hpq
        rw [List.getElem_modify, List.getElem_modify]
        have h6 := List.pairwise_iff_getElem.1 h4 p q (by simpa using hp) (by simpa using hq) hpq
        split <;> split <;> exact h6
  · cases ht⟩

theorem ba_beq (a b : ByteArray) : (a == b) = decide (a = b) := by
  cases a; cases b
  show ByteArray.beq _ _ = _
  simp [ByteArray.beq]
  rw [Bool.eq_iff_iff]; simp
/-- Keys that are integers. -/
def kInt (i : Int) : Value := .int .i64 i
theorem intLaw (hu : P.underlying kt = some (.int .i64)) : KeyLaw P kt kInt where
  kind := ⟨_, hu, fun a b => by
    show (if IntKind.i64 = IntKind.i64 then some (a == b) else none) = _
    simp
    by_cases h : a = b <;> simp [h]⟩
  check em k w := by
    have : (10000 : Nat) = 9999 + 1 := rfl
    rw [this]
    unfold Instr.checkKey
    simp [run_underlying hu, kInt]
  stays k := by simp [kInt, Instr.sameBits]
def kStr (s : ByteArray) : Value := .string s
theorem strLaw (hu : P.underlying kt = some .string) : KeyLaw P kt kStr where
  kind := ⟨_, hu, fun a b => by
    show some (a == b) = _
    rw [ba_beq]⟩
  check em k w := by
    have : (10000 : Nat) = 9999 + 1 := rfl
    rw [this]
    unfold Instr.checkKey
    simp [run_underlying hu, kStr]
  stays k := by simp [kStr, Instr.sameBits, ba_beq]
end
end Go.Proofs.YteiboodeepjanaaGreat
