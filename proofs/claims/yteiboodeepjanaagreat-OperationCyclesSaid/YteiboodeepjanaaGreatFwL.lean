/- Maps that shrink and are ranged over, what is held put in another form, new variables in drawn regions. No program in sight. -/
import Derived.Test.YteiboodeepjanaaGreatFwK
import Derived.Maps.RangeRun
namespace Go.Proofs.YteiboodeepjanaaGreat
open Go.RowKit

/-! ### What is held, put in another form -/
def Ent (L K : List Res) : Prop := ∀ (w0 w : World), St w0 L w → St w0 K w
theorem Sub.ent {L K : List Res} (h : Sub L K) : Ent L K := fun _ _ s => s.sub h
theorem Ent.refl (L : List Res) : Ent L L := fun _ _ s => s
theorem Ent.trans {L K M : List Res} (h : Ent L K) (k : Ent K M) : Ent L M := fun w0 w s => k w0 w (h w0 w s)
theorem Sub.weak {r : Res} {L K : List Res} (h : Sub L K) : Sub (r :: L) K := by
  induction h with
  | nil => exact .nil
  | cons p _ ih => exact .cons (.there p) ih
theorem Sub.tail {r : Res} {L : List Res} : Sub (r :: L) L := Sub.weak (Sub.all L)
theorem Ent.cons {r : Res} {L K : List Res} (h : Ent L K) (hs : ∀ q ∈ K, ∀ b, q.fp b → ∃ p ∈ L, p.fp b) : Ent (r :: L) (r :: K) := fun w0 w s => by
  have hk := h w0 w s.drop
  exact ⟨s.below, s.sep.1, s.sep.2.1, fun b hb q hq hqb => by
    obtain ⟨p, hp, hpb⟩ := hs q hq b hqb
    exact s.sep.2.2.1 b hb p hp hpb, hk.sep⟩

section
variable {P : Program} {ops : Array Oper} {Q : Exit → Act → World → Prop} {N : Nat} {w0 : World} {L L' K : List Res} {rest : List Oper} {e : Env} {o : Oper} {t : TypeId} {x y ix : Operand} {a : Addr} {v z : Value} {n m : Nat}
variable {d : Nat} {op : Op} {ty : TypeId} {pos : String} {af : Array Edge} {g : Option (Nat × Bool)}

theorem gw_ent (h : Ent L K) (k : GW P ops Q N w0 K rest e) : GW P ops Q N w0 L rest e := ⟨fun w s => k.h w (h w0 w s)⟩
theorem gc_ent {c : Code} (h : Ent L K) (k : GC P Q N w0 K c e) : GC P Q N w0 L c e := ⟨fun w s => k.h w (h w0 w s)⟩
theorem gx_ent {c : Exit} (h : Ent L K) (k : GX Q N w0 K c e) : GX Q N w0 L c e := ⟨fun w s => k.h w (h w0 w s)⟩
theorem gx_roundE {σ : Type} {wr : List Nat} {e0 : Env} {S : σ → List (Nat × Value)} {K : σ → List Res} {I : σ → Prop} {μ : σ → Nat} {m : Nat} (s : σ) (hI : I s) (hm : μ s < m) (hk : Keeps wr e0 e) (hA : Ats (S s) e)
    (hE : Ent L (K s)) : GX (Exit.then (Rnd N w0 wr e0 S K I μ m) Q) N w0 L .normal e := gx_ent hE (gx_round s hI hm hk hA (Sub.all _))

theorem det_func {f : Fn} {first cap : Array Operand} {fs cs : List Value} (hop : o.op = .makeFunc f first cap) (hw : wantedE N ops e o = true) (h1 : first.toList.map (ev N e) = fs) (h2 : cap.toList.map (ev N e) = cs) : Det P ops N w0 L o e (.func f fs.toArray cs.toArray) :=
  det_pure hw fun w => by
    have e1 : first.map (ev N e) = fs.toArray := by rw [← h1]; apply Array.ext'; simp
    have e2 : cap.map (ev N e) = cs.toArray := by rw [← h2]; apply Array.ext'; simp
    unfold execOp
    simp [hop, Instr.makeFunc, e1, e2]

/-- A store into a row of the function's own, at an index that is not known. -/
theorem w_store_row [CSize P t n] {b i : Nat} {bt : TypeId} {cs : Array Value} (hw : wantedE N ops e ⟨none, .store t x y, ty, pos, af, g⟩ = true) (hx : ev N e x = .pointer (some ((⟨b, 0, none⟩ : Addr).add i))) (hy : ev N e y = v) (hn : v.cells.size = n)
    (h1 : v.cells.toList.all (·.oneCell') = true) (hp : Pick L (Box b bt cs) L') (hfit : i + n ≤ cs.size) {cs' : Array Value} (hcs : (cs.toList.take i ++ v.cells.toList ++ cs.toList.drop (i + n)).toArray = cs')
    (k : GW P ops Q N w0 (Box b bt cs' :: L') rest e) : GW P ops Q N w0 L (⟨none, .store t x y, ty, pos, af, g⟩ :: rest) e :=
  gw_stored hw (by rw [hx, add_zero]) hy CSize.h hn h1 hp hfit hcs k
theorem St.merge {w0 w : World} {L : List Res} {r q m : Res} (s : St w0 (r :: q :: L) w) (hf : ∀ b, m.fp b → r.fp b ∨ q.fp b) (hp : m.p w) : St w0 (m :: L) w := by
  obtain ⟨hB, h1, h2, h3, h4, h5, h6, h7⟩ := s
  refine ⟨hB, hp, fun b hb => ?_, fun b hb x hx => ?_, h7⟩
  · rcases hf b hb with h | h
    · exact h2 b h
    · exact h5 b h
  · rcases hf b hb with h | h
    · exact h3 b h x (List.mem_cons_of_mem _ hx)
    · exact h6 b h x hx

/-! ### New variables and literals in drawn regions -/
variable {X : Type} [Inhabited X] {pl : Nat → List Nat} {tail : ((Nat → X) → Env) → (Nat → (Nat → X) → List Res) → Prop} {i : Nat} {E : (Nat → X) → Env} {RL : Nat → (Nat → X) → List Res}

theorem gb_make {V : (Nat → X) → X → Value} {R : (Nat → X) → X → List Res} (hd : ∀ γ, wantedE N ops (E γ) ⟨some d, op, ty, pos, af, g⟩ = true ∧ ∀ w, St w0 ((pl i).flatMap (RL · γ) ++ L) w → Step P (ev N (E γ)) ⟨some d, op, ty, pos, af, g⟩ w fun v w' => ∃ x, v = V γ x ∧ Made w (R γ x) w')
    (h1 : ∀ γ x, V (setF γ i x) = V γ ∧ R (setF γ i x) = R γ) (h2 : ∀ β, V (restr (i :: pl i) β) = V β ∧ R (restr (i :: pl i) β) = R β)
    (k : GB P ops N w0 L pl tail (i + 1) rest (fun β => upd (E β) d (V β (β i))) (fun j β => bif Nat.beq j i then R β (β i) else RL j β)) :
    GB P ops N w0 L pl tail i (⟨some d, op, ty, pos, af, g⟩ :: rest) E RL := by
  refine GB.cons (fun γ => V γ (γ i)) (fun γ => R γ (γ i)) (fun γ => .inl ⟨(hd γ).1, fun w s => ?_⟩) ?_
  · have h := (hd γ).2 w s
    have hs : ∀ x, setF γ i x i = x := fun x => by rw [setF_apply, if_pos rfl]
    unfold Step at h ⊢
    split at h
    · obtain ⟨h3, x, h4, h5⟩ := h
      exact ⟨h3, x, by show _ = V _ (setF γ i x i); rw [(h1 γ x).1, hs]; exact h4, by show Made w (R _ (setF γ i x i)) _; rw [(h1 γ x).2, hs]; exact h5⟩
    · obtain ⟨h3, x, h4, h5⟩ := h
      exact ⟨h3, x, by show _ = V _ (setF γ i x i); rw [(h1 γ x).1, hs]; exact h4, by show Made w (R _ (setF γ i x i)) _; rw [(h1 γ x).2, hs]; exact h5⟩
    · exact ⟨h.1, h.2.mono fun v w' _ ⟨x, h4, h5⟩ => ⟨x, by show _ = V _ (setF γ i x i); rw [(h1 γ x).1, hs]; exact h4, by show Made w (R _ (setF γ i x i)) _; rw [(h1 γ x).2, hs]; exact h5⟩⟩
    · exact h.elim
  · have hr : ∀ β : Nat → X, restr (i :: pl i) β i = β i := fun β => by unfold restr; simp
    have he : (fun β => updO (E β) (⟨some d, op, ty, pos, af, g⟩ : Oper).dst (V (restr (i :: pl i) β) (restr (i :: pl i) β i))) = fun β => upd (E β) d (V β (β i)) := by
      funext β; rw [(h2 β).1, hr]; rfl
    have hRR : (fun j β => bif Nat.beq j i then R (restr (i :: pl i) β) (restr (i :: pl i) β i) else RL j β) = fun j β => bif Nat.beq j i then R β (β i) else RL j β := by
      funext j β; rw [(h2 β).2, hr]
    rw [he, hRR]
    exact k

theorem made_box (w : World) (t : TypeId) (cs : Array Value) : Made w [Box w.heap.size t cs] (w.alloc (.cells cs t)) :=
  (St.box (St.init w) t cs).sep

theorem gb_alloc [CZero P t v] (inj : Nat → X) (bk : X → Nat) (hbk : ∀ b, bk (inj b) = b) (hw : ∀ γ, wantedE N ops (E γ) ⟨some d, .alloc t, ty, pos, af, g⟩ = true)
    (k : GB P ops N w0 L pl tail (i + 1) rest (fun β => upd (E β) d (.pointer (some ⟨bk (β i), 0, none⟩))) (fun j β => bif Nat.beq j i then [Box (bk (β i)) t v.cells] else RL j β)) :
    GB P ops N w0 L pl tail i (⟨some d, .alloc t, ty, pos, af, g⟩ :: rest) E RL := by
  refine gb_make (V := fun _ x => .pointer (some ⟨bk x, 0, none⟩)) (R := fun _ x => [Box (bk x) t v.cells]) (fun γ => ⟨hw γ, fun w s => ?_⟩) (fun _ _ => ⟨rfl, rfl⟩) (fun _ => ⟨rfl, rfl⟩) k
  obtain ⟨i, hi, hzi⟩ := Option.bind_eq_some_iff.1 (CZero.h (P := P) (t := t) (z := v))
  have hr : (execOp (ev N (E γ)) ⟨some d, .alloc t, ty, pos, af, g⟩).run P w = .ok (.value (.pointer (some ⟨w.heap.size, 0, none⟩))) (w.alloc (.cells v.cells t)) := by
    unfold execOp
    simp [Instr.alloc, zeroValue, typeInfo, hi, hzi, newVar, newRow, newObj, Sem.run]
  unfold Step
  rw [hr]
  exact ⟨ext_alloc w _, inj w.heap.size, by rw [hbk], by rw [hbk]; exact made_box w t v.cells⟩

theorem gb_bslice1 {el sz : Nat} [CSlice P t el sz] [CZero P el z] {q : Operand} (u : (Nat → X) → Value) (inj : Nat → X) (bk : X → Nat) (hbk : ∀ b, bk (inj b) = b) (hw : ∀ γ, wantedE N ops (E γ) ⟨some d, .buildSlice t 1 #[(0, q)], ty, pos, af, g⟩ = true) (hq : ∀ γ, ev N (E γ) q = u γ)
    (hv : ∀ γ, (u γ).cells.size = sz) (hsz : Nat.ble sz 1000 = true) (hpos : Nat.blt 0 sz = true) (h1 : ∀ γ x, u (setF γ i x) = u γ) (h2 : ∀ β, u (restr (i :: pl i) β) = u β)
    (k : GB P ops N w0 L pl tail (i + 1) rest (fun β => upd (E β) d (.slice (some ⟨bk (β i), 0, none⟩) 1 1)) (fun j β => bif Nat.beq j i then [Box (bk (β i)) el (u β).cells] else RL j β)) :
    GB P ops N w0 L pl tail i (⟨some d, .buildSlice t 1 #[(0, q)], ty, pos, af, g⟩ :: rest) E RL := by
  refine gb_make (V := fun _ x => .slice (some ⟨bk x, 0, none⟩) 1 1) (R := fun γ x => [Box (bk x) el (u γ).cells]) (fun γ => ⟨hw γ, fun w s => ?_⟩) (fun γ x => ⟨rfl, by funext y; rw [h1]⟩) (fun β => ⟨rfl, by funext y; rw [h2]⟩) k
  have ht := CSlice.h (P := P) (t := t) (el := el) (sz := sz)
  have hz := CZero.h (P := P) (t := el) (z := z)
  unfold sliceSz at ht
  split at ht
  · rename_i el' hu
    obtain ⟨i, hinfo, heq⟩ := Option.map_eq_some_iff.1 ht
    injection heq with e1 e2
    subst e1 e2
    obtain ⟨i', hi', hzi⟩ := Option.bind_eq_some_iff.1 hz
    rw [hinfo] at hi'
    injection hi' with hi'
    subst hi'
    have hle := Nat.le_of_ble_eq_true hsz
    have hp : 0 < i.size := by rw [Nat.blt_eq] at hpos; exact hpos
    have hr := run_buildSlice (P := P) w t el' 1 #[(0, u γ)] (u γ).cells i z hu hinfo hzi (by omega) (by omega) (fill_one (by simp) (hv γ))
    have hr2 : (execOp (ev N (E γ)) ⟨some d, .buildSlice t 1 #[(0, q)], ty, pos, af, g⟩).run P w = .ok (.value (.slice (some ⟨w.heap.size, 0, none⟩) 1 1)) (w.alloc (.cells (u γ).cells el')) := by
      unfold execOp
      simp [hq, hr]
    unfold Step
    rw [hr2]
    exact ⟨ext_alloc w _, inj w.heap.size, by rw [hbk], by rw [hbk]; exact made_box w el' (u γ).cells⟩
  · cases ht
end

/-! ### Maps -/
section
variable {κ : Type} [DecidableEq κ]
def adel : List (κ × Value) → κ → List (κ × Value)
  | [], _ => []
  | p :: l, k => if p.1 = k then l else p :: adel l k
theorem adel_find (l : List (κ × Value)) (k : κ) : adel l k = match l.findIdx? (fun p => decide (k = p.1)) with
    | some j => l.eraseIdx j
    | none => l := by
  induction l with
  | nil => rfl
  | cons p l ih =>
    rw [List.findIdx?_cons]
    by_cases h : p.1 = k
    · subst h; simp [adel]
    · have h' : ¬ k = p.1 := fun hk => h hk.symm
      simp only [adel, h, if_false, ih, h', decide_false, Bool.false_eq_true]
      cases l.findIdx? (fun p => decide (k = p.1)) with
      | none => rfl
      | some j => simp
theorem adel_sub (l : List (κ × Value)) (k : κ) : (adel l k).Sublist l := by
  induction l with
  | nil => exact .slnil
  | cons p l ih =>
    unfold adel
    split
    · exact List.sublist_cons_self _ _
    · exact ih.cons_cons _
end

section
variable {κ : Type} [DecidableEq κ] {P : Program} {ops : Array Oper} {Q : Exit → Act → World → Prop} {N : Nat} {w0 : World} {L L' : List Res} {rest : List Oper} {e : Env} {o : Oper} {t : TypeId} {x y ix : Operand} {a : Addr} {v z : Value} {kt vt : Nat} {kv : κ → Value} {l : List (κ × Value)} {k : κ} {b : Nat}
variable {d : Nat} {op : Op} {ty : TypeId} {pos : String} {af : Array Edge} {g : Option (Nat × Bool)}

omit [DecidableEq κ] in
theorem w_maplen [CMap P t kt vt] (hop : o.op = .call { callee := .builtin .len, args := #[x], argTypes := #[t] }) (hw : wantedE N ops e o = true) (hx : ev N e x = .map (some b)) (hp : Pick L (MapR b kv l) L') : Det P ops N w0 L o e (.int .i64 l.length) :=
  det_run hw fun w s => by
    obtain ⟨es, clock, h1, h2, _⟩ := (s.pick hp).head
    have ht := CMap.h (P := P) (t := t) (k := kt) (v := vt)
    unfold mapKV at ht
    split at ht
    · rename_i k' v' hu
      have hget : (getObj b).run P w = .ok (.map es clock) w := by
        unfold getObj
        simp [Sem.run, h1]
      have hlen : es.size = l.length := by have := congrArg List.length h2; simpa using this
      unfold execOp
      simp [hop, resolve, invoke, builtin, hx, Builtin.len_, run_underlying hu, goInt, hget, hlen]
    · cases ht

theorem gw_mapDel (Kl : KeyLaw P kt kv) [CMap P t kt vt] {t2 : TypeId} (hw : wantedE N ops e ⟨none, .call { callee := .builtin .delete, args := #[x, ix], argTypes := #[t, t2] }, ty, pos, af, g⟩ = true) (hx : ev N e x = .map (some b)) (hi : ev N e ix = kv k)
    (hp : Pick L (MapR b kv l) L') (kk : GW P ops Q N w0 (MapR b kv (adel l k) :: L') rest e) : GW P ops Q N w0 L (⟨none, .call { callee := .builtin .delete, args := #[x, ix], argTypes := #[t, t2] }, ty, pos, af, g⟩ :: rest) e := ⟨fun w s => by
  have s1 := s.pick hp
  obtain ⟨es, clock, h1, h2, h3, h4⟩ := s1.head
  have ht := CMap.h (P := P) (t := t) (k := kt) (v := vt)
  unfold mapKV at ht
  split at ht
  · rename_i k' v' hu
    injection ht with ht
    injection ht with e1 e2
    subst e1 e2
    have hlt : b < w.heap.size := (Array.getElem?_eq_some_iff.1 h1).1
    have hget : (getObj b).run P w = .ok (.map es clock) w := by
      unfold getObj
      simp [Sem.run, h1]
    have hset : ∀ ob, (setObj b ob).run P w = .ok () { w with heap := w.heap.setIfInBounds b ob } := fun ob => by
      unfold setObj
      simp [Sem.run, h1]
    have turn : ∀ es', ents kv (adel l k) es' → es'.toList.Sublist es.toList → St w0 (MapR b kv (adel l k) :: L') { w with heap := w.heap.setIfInBounds b (.map es' clock) } := fun es' q1 q2 =>
      s1.turn (by simp) rfl rfl rfl (fun c _ hc => by
        have : b ≠ c := fun h => hc h.symm
        simp [this]) ⟨es', clock, by simp [hlt], q1, fun q hq => h3 q (q2.subset hq), h4.sublist q2⟩ fun c hc => .inl hc
    cases hf : l.findIdx? (fun p => decide (k = p.1)) with
    | none =>
      refine wl_run (v := .tuple #[]) (w' := { w with heap := w.heap.setIfInBounds b (.map es clock) }) hw ?_ (kk.h _ (turn _ ?_ (List.Sublist.refl _)))
      · unfold execOp
        simp [resolve, invoke, builtin, Builtin.delete_, hx, hi, run_underlying hu, hget, Kl.check, run_findKey Kl k (l := l) (es := es.toList) h2, hf, hset]
      · rw [adel_find, hf]
        exact h2
    | some j =>
      obtain ⟨hj, hkj⟩ := find_lt hf
      refine wl_run (v := .tuple #[]) (w' := { w with heap := w.heap.setIfInBounds b (.map (es.eraseIdxIfInBounds j) clock) }) hw ?_ (kk.h _ (turn _ ?_ ?_))
      · unfold execOp
        simp [resolve, invoke, builtin, Builtin.delete_, hx, hi, run_underlying hu, hget, Kl.check, run_findKey Kl k (l := l) (es := es.toList) h2, hf, hset]
      · rw [adel_find, hf]
        unfold ents at *
        rw [Array.toList_eraseIdxIfInBounds, ChangeMaps.map_eraseIdx, h2, ChangeMaps.map_eraseIdx]
      · rw [Array.toList_eraseIdxIfInBounds]
        exact List.eraseIdx_sublist _ _
  · cases ht⟩

/-! ### Ranging over a map of the function's own -/
def rd (e : MapEntry) : Value × Value := (e.key, e.val)
def ItR (b r : Nat) (kv : κ → Value) (l todo : List (κ × Value)) (cur : Option (κ × Value)) : Res :=
  ⟨fun x => x = b ∨ x = r, fun w => ∃ es clock since seen c0, w.heap[b]? = some (.map es clock) ∧ ents kv l es ∧ (∀ x ∈ es.toList, x.born < clock) ∧ es.toList.Pairwise (fun x y => x.born < y.born) ∧
    w.heap[r]? = some (.mapIter (some b) since seen c0) ∧ (∀ x ∈ es.toList, x.born < since) ∧ (since ≤ c0 ∧ since ≤ clock) ∧ (leftOf es seen).toList.map rd = todo.map (fun p => (kv p.1, p.2)) ∧
    (∀ p, cur = some p → ∃ q ∈ es.toList, rd q = (kv p.1, p.2) ∧ ∃ seen0 : Array Nat, seen = seen0.push q.born ∧ c0 = clock),
    fun _ _ h ⟨es, clock, since, seen, c0, h1, h2, h3, h4, h5, h6⟩ => ⟨es, clock, since, seen, c0, (h b (.inl rfl)).trans h1, h2, h3, h4, (h r (.inr rfl)).trans h5, h6⟩⟩

omit [DecidableEq κ] in
theorem ItR.done {b r : Nat} {l todo : List (κ × Value)} {cur : Option (κ × Value)} {L : List Res} : Ent (ItR b r kv l todo cur :: L) (MapR b kv l :: L) := fun w0 w s => by
  obtain ⟨es, clock, since, seen, c0, h1, h2, h3, h4, _⟩ := s.head
  exact s.turn (Nat.le_refl _) rfl rfl rfl (fun _ _ _ => rfl) ⟨es, clock, h1, h2, h3, h4⟩ fun c hc => .inl (.inl hc)

omit [DecidableEq κ] in
theorem gw_range [CMap P t kt vt] (hw : wantedE N ops e ⟨some d, .range t x, ty, pos, af, g⟩ = true) (hx : ev N e x = .map (some b)) (hp : Pick L (MapR b kv l) L')
    (kk : ∀ r, GW P ops Q N w0 (ItR b r kv l l none :: L') rest (upd e d (.pointer (some ⟨r, 0, none⟩)))) : GW P ops Q N w0 L (⟨some d, .range t x, ty, pos, af, g⟩ :: rest) e := ⟨fun w s => by
  have s1 := s.pick hp
  obtain ⟨es, clock, h1, h2, h3, h4⟩ := s1.head
  have ht := CMap.h (P := P) (t := t) (k := kt) (v := vt)
  unfold mapKV at ht
  split at ht
  · rename_i k' v' hu
    have hlt : b < w.heap.size := (Array.getElem?_eq_some_iff.1 h1).1
    have hget : (getObj b).run P w = .ok (.map es clock) w := by
      unfold getObj
      simp [Sem.run, h1]
    refine wl_run (w' := w.alloc (.mapIter (some b) clock #[] clock)) hw ?_ ((kk w.heap.size).h _ (s1.turn ?_ rfl rfl rfl (fun c hc _ => ?_) ?_ ?_))
    · unfold execOp
      simp [Instr.range, hx, run_underlying hu, hget, newObj, Sem.run]
    · simp
    · exact (ext_alloc w _).block c hc
    · refine ⟨es, clock, clock, #[], clock, ((ext_alloc w _).block b hlt).trans h1, h2, h3, h4, heap_alloc_new w _, h3, ⟨Nat.le_refl _, Nat.le_refl _⟩, ?_, fun p hp => by cases hp⟩
      have : leftOf es #[] = es := by
        unfold leftOf
        apply Array.filter_eq_self.2
        intro x _
        simp
      rw [this]
      exact h2
    · intro c hc
      rcases hc with rfl | rfl
      · exact .inl rfl
      · exact .inr ⟨Nat.le_refl _, by simp⟩
  · cases ht⟩

theorem filter_born : ∀ (l : List MapEntry) (j : Nat) (hj : j < l.length), l.Pairwise (fun x y => x.born < y.born) → l.filter (fun x => !(x.born == l[j].born)) = l.eraseIdx j
  | x :: l, 0, _, h => by
    have h' := List.pairwise_cons.1 h
    simp only [List.getElem_cons_zero, List.eraseIdx_cons_zero]
    rw [List.filter_cons]
    simp only [beq_self_eq_true, Bool.not_true, Bool.false_eq_true, if_false]
    apply List.filter_eq_self.2
    intro y hy
    have := h'.1 y hy
    simp
    omega
  | x :: l, j + 1, hj, h => by
    have h' := List.pairwise_cons.1 h
    have hj' : j < l.length := by simpa using hj
    have hlt := h'.1 l[j] (List.getElem_mem hj')
    simp only [List.getElem_cons_succ, List.eraseIdx_cons_succ]
    rw [List.filter_cons]
    have : (!(x.born == l[j].born)) = true := by simp; omega
    rw [if_pos this, filter_born l j hj' h'.2]

omit [DecidableEq κ] in
theorem gw_next {r : Nat} {todo : List (κ × Value)} {cur : Option (κ × Value)} (hw : wantedE N ops e ⟨some d, .next x false, ty, pos, af, g⟩ = true) (hx : ev N e x = .pointer (some ⟨r, 0, none⟩)) (hp : Pick L (ItR b r kv l todo cur) L')
    (kend : todo = [] → GW P ops Q N w0 (ItR b r kv l [] cur :: L') rest (upd e d (.tuple #[.bool false])))
    (kmore : ∀ j (hj : j < todo.length), GW P ops Q N w0 (ItR b r kv l (todo.eraseIdx j) (some todo[j]) :: L') rest (upd e d (.tuple #[.bool true, kv todo[j].1, todo[j].2]))) :
    GW P ops Q N w0 L (⟨some d, .next x false, ty, pos, af, g⟩ :: rest) e := ⟨fun w s => by
  have s1 := s.pick hp
  have hhead := s1.head
  obtain ⟨es, clock, since, seen, c0, h1, h2, h3, h4, h5, h6, h7, h8, h9⟩ := hhead
  rcases run_next_at (P := P) w ty r b since c0 seen es clock h5 h1 h6 h7.1 with ⟨h0, hr⟩ | ⟨q, hq, w1, hw1, hr⟩
  · have h10 : todo = [] := by
      have := congrArg List.length h8
      simp only [List.length_map, Array.length_toList, h0] at this
      exact List.eq_nil_of_length_eq_zero this.symm
    subst h10
    refine wl_run (v := .tuple #[.bool false]) (w' := w) hw ?_ ((kend rfl).h w s1)
    unfold execOp
    simp [hx, hr]
  · obtain ⟨j, hj, hjq⟩ := List.getElem_of_mem hq
    have hlen : (leftOf es seen).toList.length = todo.length := by have := congrArg List.length h8; simpa using this
    have hj' : j < todo.length := by omega
    have hrd : rd q = (kv todo[j].1, todo[j].2) := by
      have h10 : ((leftOf es seen).toList.map rd)[j]? = (todo.map fun p => (kv p.1, p.2))[j]? := by rw [h8]
      rw [List.getElem?_map, List.getElem?_map, List.getElem?_eq_getElem hj, List.getElem?_eq_getElem hj', hjq] at h10
      simpa using h10
    have hk : q.key = kv todo[j].1 ∧ q.val = todo[j].2 := by
      unfold rd at hrd
      exact ⟨congrArg Prod.fst hrd, congrArg Prod.snd hrd⟩
    have hqes : q ∈ es.toList := by
      unfold leftOf at hq
      simp at hq
      simpa using hq.1
    have hlt : r < w.heap.size := (Array.getElem?_eq_some_iff.1 h5).1
    have hblt : b < w.heap.size := (Array.getElem?_eq_some_iff.1 h1).1
    have hne : r ≠ b := fun h => by subst h; rw [h1] at h5; cases h5
    have hh : w1.heap = w.heap := by rcases hw1 with rfl | rfl <;> rfl
    refine wl_run (v := .tuple #[.bool true, kv todo[j].1, todo[j].2]) (w' := ChangeMaps.setBlock w1 r (.mapIter (some b) since (seen.push q.born) clock)) hw ?_ ((kmore j hj').h _ (s1.turn ?_ ?_ ?_ ?_ (fun c _ hc => ?_) ?_ (fun c hc => .inl hc)))
    · unfold execOp
      simp [hx, hr, hk.1, hk.2]
    · simp [ChangeMaps.setBlock, hh]
    · rcases hw1 with rfl | rfl <;> rfl
    · rcases hw1 with rfl | rfl <;> rfl
    · rcases hw1 with rfl | rfl <;> rfl
    · have : r ≠ c := fun h => hc (.inr h.symm)
      simp [ChangeMaps.setBlock, hh, this]
    · refine ⟨es, clock, since, seen.push q.born, clock, ?_, h2, h3, h4, ?_, h6, ?_, ?_, ?_⟩
      · simp [ChangeMaps.setBlock, hh, hne, h1]
      · simp [ChangeMaps.setBlock, hh, hlt]
      · exact ⟨h7.2, h7.2⟩
      · have hleft : (leftOf es (seen.push q.born)).toList = (leftOf es seen).toList.filter (fun x => !(x.born == q.born)) := by
          unfold leftOf
          rw [Array.toList_filter, Array.toList_filter, List.filter_filter]
          apply List.filter_congr
          intro y _
          simp only [Array.contains_push, Bool.not_or]
          rw [Bool.and_comm]
        have hpw : (leftOf es seen).toList.Pairwise (fun x y => x.born < y.born) := by
          unfold leftOf
          rw [Array.toList_filter]
          exact h4.filter _
        rw [hleft, ← hjq, filter_born _ j hj hpw, ChangeMaps.map_eraseIdx, h8, ChangeMaps.map_eraseIdx]
      · intro p hp
        injection hp with hp
        subst hp
        exact ⟨q, hqes, hrd, seen, rfl, rfl⟩⟩

omit [DecidableEq κ] in
theorem w_entry {r : Nat} {todo : List (κ × Value)} {p : κ × Value} (hop : o.op = .entry x) (hw : wantedE N ops e o = true) (hx : ev N e x = .pointer (some ⟨r, 0, none⟩)) (hp : Pick L (ItR b r kv l todo (some p)) L') : Det P ops N w0 L o e (.tuple #[kv p.1, p.2]) :=
  det_run hw fun w s => by
    obtain ⟨es, clock, since, seen, c0, h1, h2, h3, h4, h5, h6, h7, h8, h9⟩ := (s.pick hp).head
    obtain ⟨q, hq, hrd, seen0, rfl, rfl⟩ := h9 p rfl
    have hn : (es.toList.map (·.born)).Nodup := by
      rw [List.Nodup, List.pairwise_map]
      exact h4.imp fun h => by omega
    have hr := run_entry_at (P := P) w r b since seen0 es _ q h5 h1 hq hn
    unfold execOp
    unfold rd at hrd
    simp [hop, hx, hr]
    exact ⟨congrArg Prod.fst hrd, congrArg Prod.snd hrd⟩
end
end Go.Proofs.YteiboodeepjanaaGreat
