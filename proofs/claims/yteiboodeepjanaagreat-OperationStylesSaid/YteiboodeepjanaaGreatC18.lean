/- The order of operations, in plain words; lists of maps of the function's own. -/
import Derived.Test.YteiboodeepjanaaGreatC17
namespace Go.Proofs.YteiboodeepjanaaGreat
open Go.RowKit
set_option maxRecDepth 100000

/-! ### Keys of maps -/
section
variable {κ : Type} [DecidableEq κ]
theorem aset_keys (m : List (κ × Value)) (k : κ) (v : Value) : (aset m k v).map (·.1) = if k ∈ m.map (·.1) then m.map (·.1) else m.map (·.1) ++ [k] := by
  induction m with
  | nil => simp [aset]
  | cons p m ih =>
    unfold aset
    by_cases h : p.1 = k
    · rw [if_pos h, List.map_cons, List.map_cons, if_pos (by rw [h]; exact List.mem_cons_self), h]
    · rw [if_neg h, List.map_cons, List.map_cons, ih]
      by_cases hm : k ∈ m.map (·.1)
      · rw [if_pos hm, if_pos (List.mem_cons_of_mem _ hm)]
      · rw [if_neg hm, if_neg (by intro hc; rcases List.mem_cons.1 hc with hc | hc; exact h hc.symm; exact hm hc)]
        rfl
theorem aset_nodup {m : List (κ × Value)} (h : (m.map (·.1)).Nodup) (k : κ) (v : Value) : ((aset m k v).map (·.1)).Nodup := by
  rw [aset_keys]
  split
  · exact h
  · rename_i hk
    rw [List.nodup_append]
    exact ⟨h, by simp, fun a ha b hb => by
      rw [List.mem_singleton] at hb
      subst hb
      intro he
      subst he
      exact hk ha⟩
theorem setM_nodup (l : List κ) : ((setM l).map (·.1)).Nodup := by
  unfold setM
  suffices h : ∀ (l : List κ) (m : List (κ × Value)), (m.map (·.1)).Nodup → ((l.foldl (fun m k => aset m k (.bool true)) m).map (·.1)).Nodup from h l [] List.nodup_nil
  intro l
  induction l with
  | nil => intro m h; exact h
  | cons x l ih => intro m h; exact ih _ (aset_nodup h x _)
theorem aget_key {m : List (κ × Value)} {k : κ} : k ∈ m.map (·.1) ↔ (aget m k).isSome = true := by
  induction m with
  | nil => simp [aget_nil]
  | cons p m ih =>
    rw [aget_cons]
    by_cases h : p.1 = k
    · simp [h]
    · have : ¬ k = p.1 := fun hk => h hk.symm
      rw [if_neg h, ← ih]
      simp [this]
theorem setM_keys {l : List κ} {k : κ} : k ∈ (setM l).map (·.1) ↔ k ∈ l := by
  rw [aget_key, setM_get]
  by_cases h : k ∈ l <;> simp [h]
theorem adel_filter {m : List (κ × Value)} (h : (m.map (·.1)).Nodup) (k : κ) : adel m k = m.filter fun p => !decide (p.1 = k) := by
  induction m with
  | nil => rfl
  | cons p m ih =>
    rw [List.map_cons, List.nodup_cons] at h
    unfold adel
    by_cases hp : p.1 = k
    · rw [if_pos hp, List.filter_cons, if_neg (by simp [hp])]
      symm
      apply List.filter_eq_self.2
      intro q hq
      have : ¬ q.1 = k := fun hc => h.1 (by rw [hp, ← hc]; exact List.mem_map_of_mem hq)
      simp [this]
    · rw [if_neg hp, ih h.2, List.filter_cons, if_pos (by simp [hp])]
end

/-! ### The order -/
def afterOf (l : List Opn) (i : Nat) : List Int := ((l[i]?).map (·.after)).getD []
theorem afterOf_get {l : List Opn} {i : Nat} (h : i < l.length) : afterOf l i = l[i].after := by
  unfold afterOf
  rw [List.getElem?_eq_getElem h]
  rfl
def readyB (l : List Opn) (o : List Int) (i : Nat) : Bool := !hasB o (i : Int) && (afterOf l i).all (hasB o)
def nextOf (l : List Opn) (o : List Int) : Option Nat := (List.range l.length).find? (readyB l o)
def arr (l : List Opn) : Nat → List Int → List Int
  | 0, o => o
  | f + 1, o => match nextOf l o with
    | some i => arr l f (o ++ [(i : Int)])
    | none => o
def sortedL (l : List Opn) : List Int := arr l l.length []

def cont (l : List Opn) (o : List Int) (i : Int) : List (Int × Value) := (setM (afterOf l i.toNat)).filter fun p => !hasB o p.1
theorem hasB_snoc {κ : Type} [DecidableEq κ] (o : List κ) (k x : κ) : hasB (o ++ [k]) x = (hasB o x || decide (k = x)) := by
  unfold hasB
  rw [List.any_append]
  simp
theorem hasB_false {κ : Type} [DecidableEq κ] {l : List κ} {k : κ} : hasB l k = false ↔ ¬ k ∈ l := by
  rw [← hasB_iff (l := l), Bool.not_eq_true]
theorem cont_nil {l : List Opn} {i : Nat} : cont l [] i = setM (afterOf l i) := by
  unfold cont
  rw [Int.toNat_natCast]
  apply List.filter_eq_self.2
  intro p _
  rfl
theorem cont_del (l : List Opn) (o : List Int) (i k : Int) : adel (cont l o i) k = cont l (o ++ [k]) i := by
  have hn : ((cont l o i).map (·.1)).Nodup := (setM_nodup (afterOf l i.toNat)).sublist ((List.filter_sublist).map _)
  rw [adel_filter hn]
  unfold cont
  rw [List.filter_filter]
  apply List.filter_congr
  intro p _
  rw [hasB_snoc]
  by_cases h : p.1 = k
  · simp [h]
  · have : ¬ k = p.1 := fun hk => h hk.symm
    simp [h, this]
theorem cont_empty {l : List Opn} {o : List Int} {i : Int} : (cont l o i).length = 0 ↔ (afterOf l i.toNat).all (hasB o) = true := by
  rw [List.length_eq_zero_iff]
  unfold cont
  rw [List.filter_eq_nil_iff, List.all_eq_true]
  constructor
  · intro h a ha
    obtain ⟨p, hp, rfl⟩ := List.mem_map.1 (setM_keys.2 ha)
    have := h p hp
    simpa using this
  · intro h p hp
    have := h p.1 (setM_keys.1 (List.mem_map_of_mem hp))
    simp [this]

/-! ### Lists of maps -/
def mapsP (es : List (Nat × List (Int × Value))) (w : World) : Prop := es.Pairwise (fun x y => x.1 ≠ y.1) ∧ ∀ e ∈ es, (MapR e.1 kInt e.2).p w
def MapsR (es : List (Nat × List (Int × Value))) : Res :=
  ⟨fun x => ∃ e ∈ es, x = e.1, mapsP es, fun _ _ h ⟨h1, h2⟩ => ⟨h1, fun e he => (MapR e.1 kInt e.2).stable _ _ (fun b hb => h b ⟨e, he, hb⟩) (h2 e he)⟩⟩
theorem maps_join {A B : List (Nat × List (Int × Value))} {b : Nat} {c : List (Int × Value)} {L : List Res} : Ent (MapR b kInt c :: MapsR (A ++ B) :: L) (MapsR (A ++ (b, c) :: B) :: L) := fun w0 w s => by
  have hsep : ∀ e ∈ A ++ B, e.1 ≠ b := fun e he hc => s.sep.2.2.1 b rfl _ List.mem_cons_self ⟨e, he, hc.symm⟩
  obtain ⟨h1, h2⟩ := s.drop.head
  refine s.merge (fun x hx => ?_) ⟨?_, fun e he => ?_⟩
  · obtain ⟨e, he, rfl⟩ := hx
    rcases List.mem_append.1 he with h | h
    · exact .inr ⟨e, List.mem_append_left _ h, rfl⟩
    · rcases List.mem_cons.1 h with h | h
      · subst h; exact .inl rfl
      · exact .inr ⟨e, List.mem_append_right _ h, rfl⟩
  · rw [List.pairwise_append] at h1 ⊢
    refine ⟨h1.1, List.pairwise_cons.2 ⟨fun e he => (hsep e (List.mem_append_right _ he)).symm, h1.2.1⟩, fun x hx y hy => ?_⟩
    rcases List.mem_cons.1 hy with h | h
    · subst h; exact hsep x (List.mem_append_left _ hx)
    · exact h1.2.2 x hx y h
  · rcases List.mem_append.1 he with h | h
    · exact h2 e (List.mem_append_left _ h)
    · rcases List.mem_cons.1 h with h | h
      · subst h; exact s.head
      · exact h2 e (List.mem_append_right _ h)
theorem maps_split {A B : List (Nat × List (Int × Value))} {e : Nat × List (Int × Value)} {L : List Res} : Ent (MapsR (A ++ e :: B) :: L) (MapR e.1 kInt e.2 :: MapsR (A ++ B) :: L) := fun w0 w s => by
  obtain ⟨hB, ⟨h1, h2⟩, h3, h4, h5⟩ := s
  have hsub : ∀ x ∈ A ++ B, x ∈ A ++ e :: B := fun x hx => by
    rcases List.mem_append.1 hx with h | h
    · exact List.mem_append_left _ h
    · exact List.mem_append_right _ (List.mem_cons_of_mem _ h)
  have he : e ∈ A ++ e :: B := List.mem_append_right _ List.mem_cons_self
  have hne : ∀ x ∈ A ++ B, e.1 ≠ x.1 := fun x hx => by
    rw [List.pairwise_append] at h1
    rcases List.mem_append.1 hx with h | h
    · exact (h1.2.2 x h e List.mem_cons_self).symm
    · exact (List.pairwise_cons.1 h1.2.1).1 x h
  refine ⟨hB, h2 e he, fun b hb => h3 b ⟨e, he, hb⟩, fun b hb q hq hqb => ?_, ⟨h1.sublist ((List.Sublist.refl A).append (List.sublist_cons_self e B)), fun x hx => h2 x (hsub x hx)⟩, fun b ⟨x, hx, hb⟩ => h3 b ⟨x, hsub x hx, hb⟩, fun b ⟨x, hx, hb⟩ => h4 b ⟨x, hsub x hx, hb⟩, h5⟩
  rcases List.mem_cons.1 hq with h | h
  · subst h
    obtain ⟨x, hx, hxb⟩ := hqb
    have : b = e.1 := hb
    exact hne x hx (this.symm.trans hxb)
  · exact h4 b ⟨e, he, hb⟩ q h hqb
theorem maps_read {es : List (Nat × List (Int × Value))} {w0 w : World} {L L' : List Res} (s : St w0 L w) (hp : Pick L (MapsR es) L') {e : Nat × List (Int × Value)} (he : e ∈ es) : (MapR e.1 kInt e.2).p w := (s.pick hp).head.2 e he
theorem gc_maps0 {P : Program} {Q : Exit → Act → World → Prop} {N : Nat} {w0 : World} {L : List Res} {e : Env} {c : Code} (k : GC P Q N w0 (MapsR [] :: L) c e) : GC P Q N w0 L c e := ⟨fun w s =>
  k.h w (s.add (Ext.refl w) ⟨List.Pairwise.nil, fun e he => by cases he⟩ fun b ⟨e, he, _⟩ => by cases he)⟩
theorem w_maplenP {κ : Type} {P : Program} {ops : Array Oper} {N : Nat} {w0 : World} {L : List Res} {e : Env} {o : Oper} {t : TypeId} {x : Operand} {kt vt b : Nat} {kv : κ → Value} {l : List (κ × Value)} [CMap P t kt vt] (hop : o.op = .call { callee := .builtin .len, args := #[x], argTypes := #[t] }) (hw : wantedE N ops e o = true) (hx : ev N e x = .map (some b))
    (hp : ∀ w, St w0 L w → (MapR b kv l).p w) : Det P ops N w0 L o e (.int .i64 l.length) :=
  det_run hw fun w s => by
    obtain ⟨es, clock, h1, h2, _⟩ := hp w s
    have ht := CMap.h (P := P) (t := t) (k := kt) (v := vt)
    unfold mapKV at ht
    split at ht
    · rename_i k' v' hu
      have hget : (getObj b).run P w = .ok (.map es clock) w := by
        unfold getObj
        simp [Sem.run, h1]
      have hlen : es.size = l.length := by have := congrArg List.length h2; simpa using this
      unfold execOp
      simp [hop, resolve, invoke, builtin, hx, Builtin.len_, run_underlying hu, goInt, hget, hlen]
    · cases ht
end Go.Proofs.YteiboodeepjanaaGreat
