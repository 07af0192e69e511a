/- Regions that draw their order and hold operations that make memory: in whatever order. No program in sight. -/
import Derived.Test.YteiboodeepjanaaGreatFwD
namespace Go.Proofs.YteiboodeepjanaaGreat
open Go.RowKit

section
variable {X : Type} [Inhabited X] {P : Program} {ops : Array Oper} {Q : Exit → Act → World → Prop} {N : Nat} {w0 : World} {L : List Res} {rest : List Oper} {e : Env} {o : Oper}

/-- The outcomes of some operations alone. -/
def restr (l : List Nat) (β : Nat → X) : Nat → X := fun j => bif l.elem j then β j else default
def setF (β : Nat → X) (i : Nat) (x : X) : Nat → X := fun j => bif Nat.beq j i then x else β j

omit [Inhabited X] in
theorem setF_apply (β : Nat → X) (i : Nat) (x : X) (j : Nat) : setF β i x j = if j = i then x else β j := by
  unfold setF
  by_cases h : j = i
  · simp [h]
  · have : Nat.beq j i = false := by rw [← Bool.not_eq_true]; intro hb; exact h (Nat.eq_of_beq_eq_true hb)
    simp [h, this]
omit [Inhabited X] in
theorem setF_self (β : Nat → X) (i : Nat) : setF β i (β i) = β := by
  funext j
  rw [setF_apply]
  split
  · rename_i h; rw [h]
  · rfl
theorem restr_congr {l : List Nat} {β β' : Nat → X} (h : ∀ j ∈ l, β j = β' j) : restr l β = restr l β' := by
  funext j
  unfold restr
  cases hj : l.elem j with
  | true => exact h j (List.elem_iff.1 hj)
  | false => rfl
theorem restr_restr {l l' : List Nat} (β : Nat → X) (h : ∀ j ∈ l, j ∈ l') : restr l (restr l' β) = restr l β := by
  apply restr_congr
  intro j hj
  unfold restr
  rw [List.elem_iff.2 (h j hj)]
  rfl

/-- Resources that the step from w to w' has made. -/
def Made (w : World) (rs : List Res) (w' : World) : Prop := Sep w.heap.size rs w'
theorem Made.nil (w w' : World) : Made w [] w' := trivial

theorem sep_append {B : Nat} : ∀ {A C : List Res} {w : World}, Sep B A w → Sep B C w → (∀ r ∈ A, ∀ q ∈ C, ∀ b, r.fp b → ¬ q.fp b) → Sep B (A ++ C) w
  | [], _, _, _, hc, _ => hc
  | r :: A, C, w, ha, hc, hd => ⟨ha.1, ha.2.1, fun b hb q hq => by
      rcases List.mem_append.1 hq with h | h
      · exact ha.2.2.1 b hb q h
      · exact hd r List.mem_cons_self q h b hb, sep_append ha.2.2.2 hc fun r' hr' => hd r' (List.mem_cons_of_mem _ hr')⟩

theorem sep_low {B B' : Nat} (hB : B' ≤ B) : ∀ {A : List Res} {w : World}, Sep B A w → Sep B' A w
  | [], _, _ => trivial
  | _ :: _, _, h => ⟨h.1, fun b hb => ⟨Nat.le_trans hB (h.2.1 b hb).1, (h.2.1 b hb).2⟩, h.2.2.1, sep_low hB h.2.2.2⟩

theorem St.adds {w w' : World} {rs : List Res} (s : St w0 L w) (x : Ext w w') (h : Made w rs w') : St w0 (rs ++ L) w' :=
  ⟨(s.ext x).below, sep_append (sep_low s.below.size h) (s.ext x).sep fun r hr q hq b hb hqb => by
    have h1 := (Sep.fp h r hr b hb).1
    have h2 := (s.sep.fp q hq b hqb).2
    omega⟩

/-- What is held, in another order or in part. -/
theorem sep_of_mem {B : Nat} {w : World} {L : List Res} (h : Sep B L w) : ∀ {K : List Res}, K.Sublist L → Sep B K w := by
  induction L with
  | nil => intro K hk; cases hk; trivial
  | cons r L ih =>
    intro K hk
    cases hk with
    | cons _ hk => exact ih h.2.2.2 hk
    | cons_cons _ hk => exact ⟨h.1, h.2.1, fun b hb q hq => h.2.2.1 b hb q (hk.mem hq), ih h.2.2.2 hk⟩

theorem sep_perm {B : Nat} {w : World} {L K : List Res} (hp : L.Perm K) : Sep B L w → Sep B K w := by
  induction hp with
  | nil => exact id
  | cons r hp ih => intro h; exact ⟨h.1, h.2.1, fun b hb q hq => h.2.2.1 b hb q (hp.mem_iff.2 hq), ih h.2.2.2⟩
  | swap r q l =>
    rintro ⟨h1, h2, h3, g1, g2, g3, g4⟩
    refine ⟨g1, g2, fun b hb x hx hxb => ?_, h1, h2, fun b hb x hx => h3 b hb x (List.mem_cons_of_mem _ hx), g4⟩
    rcases List.mem_cons.1 hx with rfl | hx
    · exact h3 b hxb _ List.mem_cons_self hb
    · exact g3 b hb x hx hxb
  | trans _ _ ih1 ih2 => exact fun h => ih2 (ih1 h)
theorem St.perm {w : World} {L K : List Res} (hp : L.Perm K) (s : St w0 L w) : St w0 K w := ⟨s.below, sep_perm hp s.sep⟩
theorem St.sublist {w : World} {L K : List Res} (hs : K.Sublist L) (s : St w0 L w) : St w0 K w := ⟨s.below, sep_of_mem s.sep hs⟩

/-- One operation, in whatever world in which the operations before it have left what they leave. -/
def OpB (P : Program) (ops : Array Oper) (N : Nat) (w0 : World) (o : Oper) (i : Nat) (E : (Nat → X) → Env) (RC : (Nat → X) → List Res) (V : (Nat → X) → Value) (R : (Nat → X) → List Res) : Prop :=
  ∀ γ, (wantedE N ops (E γ) o = true ∧ ∀ w, St w0 (RC γ) w → Step P (ev N (E γ)) o w fun v w' => ∃ x, v = V (setF γ i x) ∧ Made w (R (setF γ i x)) w') ∨
    (wantedE N ops (E γ) o = false ∧ V γ = undef ∧ R γ = [])

inductive GB (P : Program) (ops : Array Oper) (N : Nat) (w0 : World) (L : List Res) (pl : Nat → List Nat) (tail : ((Nat → X) → Env) → (Nat → (Nat → X) → List Res) → Prop) : Nat → List Oper → ((Nat → X) → Env) → (Nat → (Nat → X) → List Res) → Prop
  | nil {i : Nat} {E : (Nat → X) → Env} {RL : Nat → (Nat → X) → List Res} : tail E RL → GB P ops N w0 L pl tail i [] E RL
  | cons {i : Nat} {E : (Nat → X) → Env} {RL : Nat → (Nat → X) → List Res} {o : Oper} {rest : List Oper} (V : (Nat → X) → Value) (R : (Nat → X) → List Res) :
      OpB P ops N w0 o i E (fun γ => (pl i).flatMap (RL · γ) ++ L) V R →
      GB P ops N w0 L pl tail (i + 1) rest (fun β => updO (E β) o.dst (V (restr (i :: pl i) β))) (fun j β => bif Nat.beq j i then R (restr (i :: pl i) β) else RL j β) →
      GB P ops N w0 L pl tail i (o :: rest) E RL

def bOk (ops : Array Oper) (k : Nat) (pl : Nat → List Nat) (i : Nat) (o : Oper) : Bool :=
  (match o.op with | .select .. => false | _ => true) &&
  (o.after.all fun x => !Region.binds .any x || Nat.blt x.on i) &&
  (bif Nat.blt i k then
    (o.after.all fun x => !Region.binds .any x || ((pl i).elem x.on && (pl x.on).all ((pl i).elem ·))) &&
    (pl i == (List.range k).filter ((pl i).elem ·)) && ((pl i).all fun j => Nat.blt j i && (bindsOn o j || (pl i).any fun j' => bindsOn o j' && (pl j').elem j)) &&
    ((List.range k).all fun j => match (ops[j]?).bind (·.dst) with
      | none => true
      | some d => (Nat.beq j i || o.dst != some d) && (!(o.looksAt ops).contains d || (pl i).elem j))
   else bif Nat.beq i k then (List.range k).all fun j => bindsOn o j || (List.range k).any fun j' => bindsOn o j' && (pl j').elem j
   else bindsOn o (i - 1))

def blockOk (ops : Array Oper) (k : Nat) (pl : Nat → List Nat) : Bool :=
  Nat.ble k ops.size && (List.range ops.size).all fun i => match ops[i]? with
    | none => true
    | some o => bOk ops k pl i o

theorem bOk_of {k : Nat} {pl : Nat → List Nat} (h : blockOk ops k pl = true) {i : Nat} (hi : ops[i]? = some o) : bOk ops k pl i o = true := by
  unfold blockOk at h
  rw [Bool.and_eq_true, List.all_eq_true] at h
  have := h.2 i (List.mem_range.2 (Array.getElem?_eq_some_iff.1 hi).1)
  simpa [hi] using this

structure BFirst (ops : Array Oper) (k : Nat) (pl : Nat → List Nat) (i : Nat) (o : Oper) : Prop where
  sorted : pl i = (List.range k).filter ((pl i).elem ·)
  edge : ∀ x ∈ o.after, Region.binds .any x = true → x.on < i ∧ x.on ∈ pl i ∧ ∀ j ∈ pl x.on, j ∈ pl i
  pred : ∀ j ∈ pl i, j < i ∧ (bindsOn o j = true ∨ ∃ j', bindsOn o j' = true ∧ j ∈ pl j')
  dst : ∀ j d, j < k → (ops[j]?).bind (·.dst) = some d → (j = i ∨ o.dst ≠ some d) ∧ (d ∈ o.looksAt ops → j ∈ pl i)

theorem bOk_select {k : Nat} {pl : Nat → List Nat} {i : Nat} (h : bOk ops k pl i o = true) : ∀ cs b, o.op ≠ .select cs b := by
  unfold bOk at h
  simp only [Bool.and_eq_true] at h
  intro cs b heq
  have := h.1.1
  rw [heq] at this
  simp at this
theorem bOk_edge {k : Nat} {pl : Nat → List Nat} {i : Nat} (h : bOk ops k pl i o = true) : ∀ x ∈ o.after, Region.binds .any x = true → x.on < i := by
  unfold bOk at h
  simp only [Bool.and_eq_true, Array.all_eq_true_iff_forall_mem] at h
  intro x hx hb
  have := h.1.2 x hx
  rw [hb] at this
  simpa using this

theorem bOk_first {k : Nat} {pl : Nat → List Nat} {i : Nat} (h : bOk ops k pl i o = true) (hik : i < k) : BFirst ops k pl i o := by
  have hedge := bOk_edge h
  unfold bOk at h
  have hb : Nat.blt i k = true := by rw [Nat.blt_eq]; exact hik
  rw [hb] at h
  simp only [cond_true, Bool.and_eq_true, Array.all_eq_true_iff_forall_mem, List.all_eq_true] at h
  obtain ⟨_, ⟨⟨h1, h0⟩, h2⟩, h3⟩ := h
  refine ⟨by simpa using h0, fun x hx hbx => ?_, fun j hj => ?_, fun j d hj hd => ?_⟩
  · have := h1 x hx
    rw [hbx] at this
    simp only [Bool.not_true, Bool.false_or, Bool.and_eq_true, List.all_eq_true] at this
    exact ⟨hedge x hx hbx, List.elem_iff.1 this.1, fun j hj => List.elem_iff.1 (this.2 j hj)⟩
  · have := h2 j hj
    simp only [Bool.or_eq_true, List.any_eq_true, Bool.and_eq_true, Nat.blt_eq] at this
    refine ⟨this.1, this.2.imp id fun ⟨j', _, h5, h6⟩ => ⟨j', h5, List.elem_iff.1 h6⟩⟩
  · have := h3 j (List.mem_range.2 hj)
    simp only [hd, Bool.and_eq_true, Bool.or_eq_true, Bool.not_eq_true', bne_iff_ne] at this
    refine ⟨this.1.imp (fun h => Nat.eq_of_beq_eq_true h) id, fun hl => ?_⟩
    rcases this.2 with h4 | h4
    · have h5 : (o.looksAt ops).contains d = true := List.contains_iff_mem.2 hl
      rw [h5] at h4
      cases h4
    · exact List.elem_iff.1 h4

theorem bOk_rest {k : Nat} {pl : Nat → List Nat} {i : Nat} (h : bOk ops k pl i o = true) (hik : ¬ i < k) :
    (i = k ∧ ∀ j, j < k → bindsOn o j = true ∨ ∃ j', j' < k ∧ bindsOn o j' = true ∧ j ∈ pl j') ∨ (k < i ∧ bindsOn o (i - 1) = true) := by
  unfold bOk at h
  have hb : Nat.blt i k = false := by rw [← Bool.not_eq_true, Nat.blt_eq]; exact hik
  rw [hb] at h
  simp only [cond_false, Bool.and_eq_true] at h
  have h2 := h.2
  cases hbe : Nat.beq i k with
  | true =>
    rw [hbe] at h2
    simp only [cond_true, List.all_eq_true, List.mem_range, Bool.or_eq_true, List.any_eq_true, Bool.and_eq_true] at h2
    refine .inl ⟨Nat.eq_of_beq_eq_true hbe, fun j hj => (h2 j hj).imp id fun ⟨j', h3, h4, h5⟩ => ⟨j', h3, h4, List.elem_iff.1 h5⟩⟩
  | false =>
    rw [hbe] at h2
    simp only [cond_false] at h2
    refine .inr ⟨?_, h2⟩
    have : i ≠ k := fun h => by rw [h, Nat.beq_refl] at hbe; cases hbe
    omega

/-- The operations from k on. -/
theorem any_rest' {k : Nat} {pl : Nat → List Nat} (hok : blockOk ops k pl = true) : ∀ (fuel m : Nat) (listed : Array Bool) (a : Act) (w : World), k ≤ m → m + fuel = ops.size → listed.size = ops.size →
    (∀ i, i < ops.size → listed.getD i true = decide (i < m)) → wpList P ops Q (ops.toList.drop m) a w → wpAny P .any ops Q fuel listed a w := by
  intro fuel
  induction fuel with
  | zero =>
    intro m listed a w hkm hm hsz hl h
    have hready : Region.ready .any ops listed = [] := by
      rw [List.eq_nil_iff_forall_not_mem]
      intro j hj
      obtain ⟨h0, o, ho, _⟩ := mem_ready.1 hj
      have hlt := (Array.getElem?_eq_some_iff.1 ho).1
      rw [hl j hlt] at h0
      simp at h0
      omega
    rw [List.drop_eq_nil_of_le (by simp; omega)] at h
    exact ⟨hready, h⟩
  | succ fuel ih =>
    intro m listed a w hkm hm hsz hl h
    have hlt : m < ops.size := by omega
    have hom : ops[m]? = some ops[m] := Array.getElem?_eq_getElem hlt
    have hdrop : ops.toList.drop m = ops[m] :: ops.toList.drop (m + 1) := by
      rw [List.drop_eq_getElem_cons (by simpa using hlt)]
      simp
    have hlist : ∀ i, listed.getD i false = decide (i < m) := fun i => by
      by_cases hi : i < ops.size
      · have := hl i hi
        rw [← this]
        have hi' : i < listed.size := by omega
        simp [hi']
      · have hi' : ¬ i < listed.size := by omega
        simp [hi']
        omega
    have hmem : m ∈ Region.ready .any ops listed := by
      rw [mem_ready]
      refine ⟨by rw [hl m hlt]; simp, _, hom, fun x hx hb => ?_⟩
      have := bOk_edge (bOk_of hok hom) x hx hb
      rw [hlist]
      simpa using this
    refine ⟨fun h0 => (by rw [h0] at hmem; cases hmem), fun j hj => ?_⟩
    have hjm : j = m := by
      obtain ⟨h0, oj, hoj, hall⟩ := mem_ready.1 hj
      have hjlt := (Array.getElem?_eq_some_iff.1 hoj).1
      rw [hl j hjlt] at h0
      simp at h0
      rcases bOk_rest (bOk_of hok hoj) (by omega) with h1 | h1
      · omega
      · have := bindsOn_listed h1.2 hall
        rw [hlist] at this
        simp at this
        omega
    subst hjm
    rw [hdrop] at h
    unfold wpList at h
    unfold wpOp
    simp only [hom]
    have hnext : ∀ a w, wpList P ops Q (ops.toList.drop (j + 1)) a w → wpAny P .any ops Q fuel (listed.setIfInBounds j true) a w := fun a w h => by
      refine ih (j + 1) _ a w (by omega) (by omega) (by simpa using hsz) (fun i hi => ?_) h
      by_cases hij : j = i
      · subst hij
        have : j < listed.size := by omega
        simp [this]
      · rw [getD_set_ne true hij, hl i hi]
        simp
        omega
    split
    · rename_i hw
      rw [if_pos hw] at h
      exact h.imp (Oper.wp_mono hnext) id
    · rename_i hw
      rw [if_neg hw] at h
      exact hnext _ _ h

/-! ### Soundness -/
def vals (pl : Nat → List Nat) (V : Nat → (Nat → X) → Value) (n : Nat) (β : Nat → X) : List Value := (List.range n).map fun j => V j (restr (j :: pl j) β)

theorem envAt_snoc : ∀ (pre : List Oper) (cs : List Value) (e : Env) (o : Oper) (c : Value), cs.length = pre.length → envAt e (pre ++ [o]) (cs ++ [c]) = updO (envAt e pre cs) o.dst c
  | [], [], _, _, _, _ => rfl
  | [], _ :: _, _, _, _, h => by simp at h
  | _ :: _, [], _, _, _, h => by simp at h
  | x :: pre, v :: cs, e, o, c, h => envAt_snoc pre cs (updO e x.dst v) o c (by simpa using h)

theorem gb_vals {pl : Nat → List Nat} {tail : ((Nat → X) → Env) → (Nat → (Nat → X) → List Res) → Prop} (e : Env) : ∀ (rest pre : List Oper) (V0 : Nat → (Nat → X) → Value) (R0 : Nat → (Nat → X) → List Res) (E : (Nat → X) → Env) (RL : Nat → (Nat → X) → List Res),
    (∀ β, E β = envAt e pre (vals pl V0 pre.length β)) → (∀ j β, RL j β = if j < pre.length then R0 j (restr (j :: pl j) β) else []) → GB P ops N w0 L pl tail pre.length rest E RL →
    ∃ (V : Nat → (Nat → X) → Value) (R : Nat → (Nat → X) → List Res), (∀ j, j < pre.length → V j = V0 j ∧ R j = R0 j) ∧
      (∀ (n : Nat) (o : Oper), rest[n]? = some o → OpB P ops N w0 o (pre.length + n) (fun γ => envAt e ((pre ++ rest).take (pre.length + n)) (vals pl V (pre.length + n) γ))
        (fun γ => (pl (pre.length + n)).flatMap (fun j => if j < pre.length + n then R j (restr (j :: pl j) γ) else []) ++ L) (V (pre.length + n)) (R (pre.length + n))) ∧
      tail (fun β => envAt e (pre ++ rest) (vals pl V (pre.length + rest.length) β)) (fun j β => if j < pre.length + rest.length then R j (restr (j :: pl j) β) else [])
  | [], pre, V0, R0, E, RL, hE, hR, .nil ht => by
    refine ⟨V0, R0, fun _ _ => ⟨rfl, rfl⟩, fun n o h => by simp at h, ?_⟩
    have h1 : E = fun β => envAt e (pre ++ []) (vals pl V0 (pre.length + ([] : List Oper).length) β) := funext fun β => by simpa using hE β
    have h2 : RL = fun j β => if j < pre.length + ([] : List Oper).length then R0 j (restr (j :: pl j) β) else [] := funext fun j => funext fun β => by simpa using hR j β
    rw [← h1, ← h2]
    exact ht
  | x :: rest, pre, V0, R0, E, RL, hE, hR, .cons V1 R1 hop hrest => by
    let V2 : Nat → (Nat → X) → Value := fun j => if j = pre.length then V1 else V0 j
    let R2 : Nat → (Nat → X) → List Res := fun j => if j = pre.length then R1 else R0 j
    have hlen : (pre ++ [x]).length = pre.length + 1 := by simp
    have hvals : ∀ (V : Nat → (Nat → X) → Value), (∀ j, j < pre.length → V j = V0 j) → ∀ β, vals pl V pre.length β = vals pl V0 pre.length β := fun V hV β => by
      unfold vals
      apply List.map_congr_left
      intro j hj
      rw [hV j (List.mem_range.1 hj)]
    obtain ⟨V, R, hag, hops, htl⟩ := gb_vals e rest (pre ++ [x]) V2 R2 (fun β => updO (E β) x.dst (V1 (restr (pre.length :: pl pre.length) β)))
      (fun j β => bif Nat.beq j pre.length then R1 (restr (pre.length :: pl pre.length) β) else RL j β)
      (fun β => by
        rw [hlen]
        have : vals pl V2 (pre.length + 1) β = vals pl V0 pre.length β ++ [V1 (restr (pre.length :: pl pre.length) β)] := by
          unfold vals
          rw [List.range_succ, List.map_append]
          congr 1
          · apply List.map_congr_left
            intro j hj
            have := List.mem_range.1 hj
            simp only [V2]
            rw [if_neg (by omega)]
          · simp [V2]
        rw [this, envAt_snoc _ _ _ _ _ (by simp [vals]), hE β])
      (fun j β => by
        rw [hlen]
        by_cases hj : j = pre.length
        · subst hj
          simp [R2]
        · have hb : Nat.beq j pre.length = false := by rw [← Bool.not_eq_true]; intro h; exact hj (Nat.eq_of_beq_eq_true h)
          rw [hb, cond_false, hR j β]
          by_cases hlt : j < pre.length
          · rw [if_pos hlt, if_pos (by omega)]
            simp only [R2]
            rw [if_neg hj]
          · rw [if_neg hlt, if_neg (by omega)]) (by rw [hlen]; exact hrest)
    rw [hlen] at hag
    have hV1 : V pre.length = V1 := by rw [(hag pre.length (by omega)).1]; simp [V2]
    have hR1 : R pre.length = R1 := by rw [(hag pre.length (by omega)).2]; simp [R2]
    have hV0 : ∀ j, j < pre.length → V j = V0 j := fun j hj => by rw [(hag j (by omega)).1]; simp only [V2]; rw [if_neg (by omega)]
    have hR0 : ∀ j, j < pre.length → R j = R0 j := fun j hj => by rw [(hag j (by omega)).2]; simp only [R2]; rw [if_neg (by omega)]
    refine ⟨V, R, fun j hj => ⟨hV0 j hj, hR0 j hj⟩, fun n o ho => ?_, ?_⟩
    · cases n with
      | zero =>
        simp only [List.getElem?_cons_zero, Option.some.injEq] at ho
        subst ho
        simp only [Nat.add_zero]
        rw [hV1, hR1]
        have h1 : (fun γ => envAt e ((pre ++ x :: rest).take pre.length) (vals pl V pre.length γ)) = E := funext fun γ => by
          rw [List.take_append_of_le_length (Nat.le_refl _), List.take_length, hvals V hV0, hE γ]
        have h2 : (fun γ => (pl pre.length).flatMap (fun j => if j < pre.length then R j (restr (j :: pl j) γ) else []) ++ L) = fun γ => (pl pre.length).flatMap (RL · γ) ++ L := funext fun γ => by
          congr 2
          funext j
          rw [hR j γ]
          by_cases hj : j < pre.length
          · rw [if_pos hj, if_pos hj, hR0 j hj]
          · rw [if_neg hj, if_neg hj]
        rw [h1, h2]
        exact hop
      | succ n =>
        have := hops n o (by simpa using ho)
        rw [hlen] at this
        have e1 : pre.length + 1 + n = pre.length + (n + 1) := by omega
        rw [e1] at this
        simpa using this
    · rw [hlen] at htl
      have e1 : pre.length + 1 + rest.length = pre.length + (x :: rest).length := by simp; omega
      rw [e1] at htl
      simpa using htl

theorem sublist_flatMap {α β : Type} (f : α → List β) {l l' : List α} (h : l.Sublist l') : (l.flatMap f).Sublist (l'.flatMap f) := by
  induction h with
  | slnil => simp
  | cons a _ ih => rw [List.flatMap_cons]; exact ih.trans (List.sublist_append_right _ _)
  | cons_cons a _ ih => rw [List.flatMap_cons, List.flatMap_cons]; exact List.Sublist.append (List.Sublist.refl _) ih

theorem pl_trans {k : Nat} {pl : Nat → List Nat} (hok : blockOk ops k pl = true) : ∀ i, i < k → ∀ j ∈ pl i, ∀ m ∈ pl j, m ∈ pl i := by
  have hkn : k ≤ ops.size := by
    unfold blockOk at hok
    rw [Bool.and_eq_true] at hok
    exact Nat.le_of_ble_eq_true hok.1
  intro i
  induction i using Nat.strongRecOn with
  | _ i ih =>
    intro hi j hj m hm
    have hoi : ops[i]? = some ops[i] := Array.getElem?_eq_getElem (by omega)
    have hB := bOk_first (bOk_of hok hoi) hi
    have edge : ∀ j', bindsOn ops[i] j' = true → j' < i ∧ ∀ m ∈ pl j', m ∈ pl i := fun j' hb => by
      unfold bindsOn at hb
      obtain ⟨x, hx, hb⟩ := Array.any_eq_true'.1 hb
      simp only [Bool.and_eq_true, beq_iff_eq] at hb
      have := hB.edge x hx hb.1
      rw [hb.2] at this
      exact ⟨this.1, this.2.2⟩
    rcases (hB.pred j hj).2 with h | ⟨j', h, hjj⟩
    · exact (edge j h).2 m hm
    · exact (edge j' h).2 m (ih j' (edge j' h).1 (by have := (edge j' h).1; omega) j hjj m hm)

theorem restr_set {l : List Nat} {β : Nat → X} {i : Nat} {x : X} (h : i ∈ l) : restr l (setF β i x) = setF (restr l β) i x := by
  funext j
  rw [setF_apply]
  unfold restr
  by_cases hj : j = i
  · subst hj
    rw [List.elem_iff.2 h, cond_true, setF_apply, if_pos rfl, if_pos rfl]
  · rw [if_neg hj, setF_apply, if_neg hj]
theorem restr_set_not {l : List Nat} {β : Nat → X} {i : Nat} {x : X} (h : i ∉ l) : restr l (setF β i x) = restr l β := by
  apply restr_congr
  intro j hj
  rw [setF_apply, if_neg]
  rintro rfl
  exact h hj

omit [Inhabited X] in
theorem opB_wpOp {i : Nat} {K : Act → World → Prop} {w : World} {E : (Nat → X) → Env} {RC : (Nat → X) → List Res} {V : (Nat → X) → Value} {R : (Nat → X) → List Res} {γ : Nat → X} (hi : ops[i]? = some o) (hs : ∀ cs b, o.op ≠ .select cs b)
    (h : OpB P ops N w0 o i E RC V R) (hsame : ∀ t ∈ o.looksAt ops, E γ t = e t) (s : St w0 (RC γ) w) (k : ∀ x w', Ext w w' → Made w (R (setF γ i x)) w' → K (mk N (updO e o.dst (V (setF γ i x)))) w') : wpOp P ops Q i K (mk N e) w := by
  have hw : wantedE N ops (E γ) o = wantedE N ops e o := by
    unfold wantedE
    cases hg : o.guard with
    | none => rfl
    | some g =>
      obtain ⟨j, want⟩ := g
      cases hj : (ops[j]?).bind (·.dst) with
      | none => simp only [hj]
      | some d => simp only [hj, hsame d (looks_guard hg hj)]
  unfold wpOp
  simp only [hi]
  rcases h γ with ⟨h1, h2⟩ | ⟨h1, h2, h3⟩
  · rw [hw] at h1
    rw [if_pos (by rw [wanted_mk]; exact h1)]
    refine .inl ?_
    have hstep := step_congr (ρ' := ev N e) hs (fun x hx => by
      cases x with
      | tmp t =>
        show (bif Nat.blt t N then E γ t else undef) = (bif Nat.blt t N then e t else undef)
        rw [hsame t (looks_operand hx)]
      | const v => rfl
      | global g => rfl
      | func f => rfl) (h2 w s)
    unfold Oper.wp
    rw [mk_eval]
    unfold Step at hstep
    split at hstep
    · rename_i hr
      obtain ⟨hx, x, hv, hm⟩ := hstep
      rw [hr]
      show K ((mk N e).put o.dst _) _
      rw [mk_put, hv]
      exact k x _ hx hm
    · rename_i hr
      obtain ⟨hx, x, hv, hm⟩ := hstep
      rw [hr]
      show K ((mk N e).put o.dst undef) _
      rw [mk_put, hv]
      exact k x _ hx hm
    · rename_i hr
      rw [hr]
      refine Calls.mono hstep.2 ?_
      rintro y w'' ⟨v, rfl, hx, x, hv, hm⟩
      show K ((mk N e).put o.dst v) w''
      rw [mk_put, hv]
      exact k x _ (hstep.1.trans hx) hm
    · exact hstep.elim
  · rw [hw] at h1
    rw [if_neg (by rw [wanted_mk, h1]; simp), mk_put]
    have := k (γ i) w (Ext.refl _)
    rw [setF_self, h2, h3] at this
    exact this (Made.nil _ _)

set_option maxHeartbeats 1000000 in
theorem any_block {k : Nat} {pl : Nat → List Nat} (hok : blockOk ops k pl = true) {e : Env} {V : Nat → (Nat → X) → Value} {R : Nat → (Nat → X) → List Res}
    (hop : ∀ (i : Nat) (o : Oper), ops[i]? = some o → i < k → OpB P ops N w0 o i (fun γ => envAt e (ops.toList.take i) (vals pl V i γ)) (fun γ => (pl i).flatMap (fun j => if j < i then R j (restr (j :: pl j) γ) else []) ++ L) (V i) (R i))
    (htail : ∀ β, GW P ops Q N w0 ((List.range k).flatMap (fun j => R j (restr (j :: pl j) β)) ++ L) (ops.toList.drop k) (envAt e (ops.toList.take k) (vals pl V k β))) :
    ∀ (fuel : Nat) (listed : Array Bool) (β : Nat → X) (e' : Env) (w : World), listed.size = ops.size → listedCount listed ops.size + fuel = ops.size → (∀ i, k ≤ i → listed.getD i false = false) →
      (∀ i, i < k → listed.getD i false = true → ∀ j ∈ pl i, listed.getD j false = true) →
      (∀ (i : Nat) (o : Oper) (d : Nat), i < k → listed.getD i false = true → ops[i]? = some o → o.dst = some d → e' d = V i (restr (i :: pl i) β)) →
      (∀ t, (∀ (i : Nat) (o : Oper), i < k → listed.getD i false = true → ops[i]? = some o → o.dst ≠ some t) → e' t = e t) →
      St w0 (((List.range k).filter fun i => listed.getD i false).flatMap (fun j => R j (restr (j :: pl j) β)) ++ L) w → wpAny P .any ops Q fuel listed (mk N e') w := by
  have hkn : k ≤ ops.size := by
    unfold blockOk at hok
    rw [Bool.and_eq_true] at hok
    exact Nat.le_of_ble_eq_true hok.1
  have huniq : ∀ (i j : Nat) (oi oj : Oper) (d : Nat), i < k → j < k → ops[i]? = some oi → ops[j]? = some oj → oi.dst = some d → oj.dst = some d → i = j := fun i j oi oj d hi hj hoi hoj hdi hdj => by
    have := ((bOk_first (bOk_of hok hoi) hi).dst j d hj (by simp [hoj, hdj])).1
    rcases this with h | h
    · exact h.symm
    · exact absurd hdi h
  have hvget : ∀ (n j : Nat) (β : Nat → X), j < n → (vals pl V n β)[j]? = some (V j (restr (j :: pl j) β)) := fun n j β hj => by
    unfold vals
    rw [List.getElem?_map, List.getElem?_range hj]
    rfl
  have hspec : ∀ i, i ≤ k → ∀ (β : Nat → X) (t : Nat), ((∀ (j : Nat) (oj : Oper), j < i → ops[j]? = some oj → oj.dst ≠ some t) → envAt e (ops.toList.take i) (vals pl V i β) t = e t) ∧
      (∀ (j : Nat) (oj : Oper), j < i → ops[j]? = some oj → oj.dst = some t → envAt e (ops.toList.take i) (vals pl V i β) t = V j (restr (j :: pl j) β)) := fun i hi β t => by
    have hget : ∀ (j : Nat) (oj : Oper), (ops.toList.take i)[j]? = some oj ↔ j < i ∧ ops[j]? = some oj := fun j oj => by
      rw [List.getElem?_take]
      by_cases hji : j < i
      · simp [hji]
      · simp [hji]
    have h := envAt_spec (ops.toList.take i) (vals pl V i β) e t (by simp [vals]; omega) (fun a b oa ob ha hb hda hdb => by
      obtain ⟨ha1, ha2⟩ := (hget a oa).1 ha
      obtain ⟨hb1, hb2⟩ := (hget b ob).1 hb
      exact huniq a b oa ob t (by omega) (by omega) ha2 hb2 hda hdb)
    exact ⟨fun hn => h.1 fun j oj hj => hn j oj ((hget j oj).1 hj).1 ((hget j oj).1 hj).2, fun j oj hji hoj hd => h.2 j oj _ ((hget j oj).2 ⟨hji, hoj⟩) hd (hvget i j β hji)⟩
  -- all of the first k are listed: the rest
  have finish : ∀ (fuel : Nat) (listed : Array Bool) (β : Nat → X) (e' : Env) (w : World), listed.size = ops.size → k + fuel = ops.size → (∀ i, k ≤ i → listed.getD i false = false) → (∀ i, i < k → listed.getD i false = true) →
      (∀ (i : Nat) (o : Oper) (d : Nat), i < k → listed.getD i false = true → ops[i]? = some o → o.dst = some d → e' d = V i (restr (i :: pl i) β)) →
      (∀ t, (∀ (i : Nat) (o : Oper), i < k → listed.getD i false = true → ops[i]? = some o → o.dst ≠ some t) → e' t = e t) →
      St w0 (((List.range k).filter fun i => listed.getD i false).flatMap (fun j => R j (restr (j :: pl j) β)) ++ L) w → wpAny P .any ops Q fuel listed (mk N e') w := by
    intro fuel listed β e' w hsz hf hrest hall hval hold s
    have he : e' = envAt e (ops.toList.take k) (vals pl V k β) := by
      funext t
      have hs := hspec k (Nat.le_refl _) β t
      by_cases hex : ∃ (j : Nat) (oj : Oper), j < k ∧ ops[j]? = some oj ∧ oj.dst = some t
      · obtain ⟨j, oj, hj, hoj, hd⟩ := hex
        rw [hval j oj t hj (hall j hj) hoj hd, hs.2 j oj hj hoj hd]
      · rw [hold t fun i oi hi _ hoi hd => hex ⟨i, oi, hi, hoi, hd⟩, hs.1 fun j oj hj hoj hd => hex ⟨j, oj, hj, hoj, hd⟩]
    have hfil : ((List.range k).filter fun i => listed.getD i false) = List.range k := List.filter_eq_self.2 fun i hi => hall i (List.mem_range.1 hi)
    rw [hfil] at s
    have hw := (htail β).h w s
    rw [← he] at hw
    refine any_rest' hok fuel k listed _ w (Nat.le_refl _) hf hsz (fun i hi => ?_) hw
    have hi' : i < listed.size := by omega
    by_cases hik : i < k
    · have h1 := hall i hik
      simp only [Array.getD_eq_getD_getElem?, hi', getElem?_pos, Option.getD_some] at h1 ⊢
      rw [h1]; simp [hik]
    · have h1 := hrest i (by omega)
      simp only [Array.getD_eq_getD_getElem?, hi', getElem?_pos, Option.getD_some] at h1 ⊢
      rw [h1]; simp [hik]
  have hsplit : ∀ (listed : Array Bool) (n : Nat), (∀ i, k ≤ i → listed.getD i false = false) → (∀ i, i < k → listed.getD i false = true) → listedCount listed n = min n k := by
    intro listed n h1 h2
    induction n with
    | zero => simp [listedCount]
    | succ n ihn =>
      rw [count_succ, ihn]
      by_cases hnk : n < k
      · rw [h2 n hnk]; simp; omega
      · rw [h1 n (by omega)]; simp; omega
  intro fuel
  induction fuel with
  | zero =>
    intro listed β e' w hsz hcnt hrest hcl hval hold s
    have hall := count_all ops.size (by omega : listedCount listed ops.size = ops.size)
    by_cases hk : k < ops.size
    · have h1 := hall k hk
      rw [hrest k (Nat.le_refl _)] at h1
      cases h1
    · exact finish 0 listed β e' w hsz (by omega) hrest (fun i hi => hall i (by omega)) hval hold s
  | succ fuel ih =>
    intro listed β e' w hsz hcnt hrest hcl hval hold s
    by_cases hfirst : ∃ i, i < k ∧ listed.getD i false = false
    · have hleast : ∃ i, (i < k ∧ listed.getD i false = false) ∧ ∀ j, j < i → j < k → listed.getD j false = true := by
        obtain ⟨n, hn, hmin⟩ := exists_least hfirst
        refine ⟨n, hn, fun j hj hjk => ?_⟩
        cases hb : listed.getD j false with
        | true => rfl
        | false => have := hmin j ⟨hjk, hb⟩; omega
      obtain ⟨i0, ⟨hi0, hun0⟩, hmin⟩ := hleast
      have hi0n : i0 < ops.size := by omega
      have hready0 : i0 ∈ Region.ready .any ops listed := by
        rw [mem_ready]
        refine ⟨?_, _, Array.getElem?_eq_getElem hi0n, fun x hx hb => ?_⟩
        · have : i0 < listed.size := by omega
          simpa [this] using hun0
        · have := bOk_edge (bOk_of hok (Array.getElem?_eq_getElem hi0n)) x hx hb
          exact hmin x.on this (by omega)
      refine ⟨fun h0 => (by rw [h0] at hready0; cases hready0), fun i hi => ?_⟩
      obtain ⟨hun, oi, hoi, hall⟩ := mem_ready.1 hi
      have hilt := (Array.getElem?_eq_some_iff.1 hoi).1
      have hilt' : i < listed.size := by omega
      have hun' : listed.getD i false = false := by simpa [hilt'] using hun
      have hik : i < k := by
        rcases Nat.lt_or_ge i k with h | h
        · exact h
        · rcases bOk_rest (bOk_of hok hoi) (by omega) with ⟨_, h1⟩ | ⟨h1, h2⟩
          · rcases h1 i0 hi0 with h2 | ⟨j', hj', h2, h3⟩
            · have := bindsOn_listed h2 hall
              rw [hun0] at this
              cases this
            · have := hcl j' hj' (bindsOn_listed h2 hall) i0 h3
              rw [hun0] at this
              cases this
          · have := bindsOn_listed h2 hall
            rw [hrest (i - 1) (by omega)] at this
            cases this
      have hB := bOk_first (bOk_of hok hoi) hik
      have hpl : ∀ j ∈ pl i, listed.getD j false = true := fun j hj => by
        rcases (hB.pred j hj).2 with h | ⟨j', h, hjj⟩
        · exact bindsOn_listed h hall
        · have hj' : j' < k := by
            unfold bindsOn at h
            obtain ⟨x, hx, hb⟩ := Array.any_eq_true'.1 h
            simp only [Bool.and_eq_true, beq_iff_eq] at hb
            have := (hB.edge x hx hb.1).1
            omega
          exact hcl j' hj' (bindsOn_listed h hall) j hjj
      have hplt : ∀ j ∈ pl i, j < i := fun j hj => (hB.pred j hj).1
      have hrr : ∀ j ∈ pl i, restr (j :: pl j) (restr (i :: pl i) β) = restr (j :: pl j) β := fun j hj => restr_restr β fun m hm => by
        rcases List.mem_cons.1 hm with rfl | hm
        · exact List.mem_cons_of_mem _ hj
        · exact List.mem_cons_of_mem _ (pl_trans hok i hik j hj m hm)
      have hsame : ∀ t ∈ oi.looksAt ops, envAt e (ops.toList.take i) (vals pl V i (restr (i :: pl i) β)) t = e' t := fun t ht => by
        have hs := hspec i (by omega) (restr (i :: pl i) β) t
        by_cases hex : ∃ (j : Nat) (oj : Oper), j < k ∧ ops[j]? = some oj ∧ oj.dst = some t
        · obtain ⟨j, oj, hj, hoj, hdj⟩ := hex
          have hji := (hB.dst j t hj (by simp [hoj, hdj])).2 ht
          rw [hs.2 j oj (hplt j hji) hoj hdj, hval j oj t hj (hpl j hji) hoj hdj, hrr j hji]
        · rw [hs.1 fun j oj hj hoj hd => hex ⟨j, oj, by omega, hoj, hd⟩, hold t fun j oj hj _ hoj hd => hex ⟨j, oj, hj, hoj, hd⟩]
      have hflat : (pl i).flatMap (fun j => if j < i then R j (restr (j :: pl j) (restr (i :: pl i) β)) else []) = (pl i).flatMap (fun j => R j (restr (j :: pl j) β)) := by
        rw [List.flatMap_def, List.flatMap_def]
        congr 1
        apply List.map_congr_left
        intro j hj
        rw [if_pos (hplt j hj), hrr j hj]
      have hsub : (pl i).Sublist ((List.range k).filter fun i => listed.getD i false) := by
        have h1 : (pl i) = ((List.range k).filter fun i => listed.getD i false).filter ((pl i).elem ·) := by
          rw [List.filter_filter]
          refine hB.sorted.trans ?_
          apply List.filter_congr
          intro j _
          cases hj : (pl i).elem j with
          | false => rfl
          | true => rw [hpl j (List.elem_iff.1 hj)]; rfl
        rw [h1]
        exact List.filter_sublist
      have s' : St w0 ((pl i).flatMap (fun j => if j < i then R j (restr (j :: pl j) (restr (i :: pl i) β)) else []) ++ L) w := by
        rw [hflat]
        exact s.sublist (List.Sublist.append (sublist_flatMap _ hsub) (List.Sublist.refl _))
      refine opB_wpOp (e := e') (γ := restr (i :: pl i) β) hoi (bOk_select (bOk_of hok hoi)) (hop i oi hoi hik) hsame s' fun x w' hx hm => ?_
      have hset : ∀ j, (listed.setIfInBounds i true).getD j false = if i = j then true else listed.getD j false := fun j => by
        by_cases hij : i = j
        · subst hij; simp [hilt']
        · rw [getD_set_ne false hij, if_neg hij]
      have hri : restr (i :: pl i) (setF β i x) = setF (restr (i :: pl i) β) i x := restr_set List.mem_cons_self
      have hrj : ∀ j, j < k → listed.getD j false = true → restr (j :: pl j) (setF β i x) = restr (j :: pl j) β := fun j hj hl => restr_set_not fun hm => by
        rcases List.mem_cons.1 hm with rfl | hm
        · rw [hun'] at hl; cases hl
        · have := hcl j hj hl i hm
          rw [hun'] at this
          cases this
      refine ih _ (setF β i x) _ w' (by simpa using hsz) ?_ (fun j hj => ?_) (fun j hj hl m hm => ?_) (fun j oj d hj hl hoj hdj => ?_) (fun t ht => ?_) ?_
      · rw [count_set hilt' hun', if_pos hilt]; omega
      · rw [hset, if_neg (by omega)]; exact hrest j hj
      · rw [hset] at hl ⊢
        by_cases hij : i = j
        · subst hij
          split
          · rfl
          · exact hpl m hm
        · rw [if_neg hij] at hl
          split
          · rfl
          · exact hcl j hj hl m hm
      · rw [hset] at hl
        by_cases hij : i = j
        · subst hij
          rw [hoi] at hoj
          injection hoj with hoj
          subst hoj
          rw [hdj, hri]
          show upd e' d _ d = _
          rw [upd_apply, if_pos rfl]
        · rw [if_neg hij] at hl
          have := hval j oj d hj hl hoj hdj
          rw [hrj j hj hl]
          cases hdi : oi.dst with
          | none => exact this
          | some d' =>
            show upd e' d' _ d = _
            rw [upd_apply, if_neg]
            · exact this
            · intro heq
              subst heq
              exact hij (huniq i j oi oj d hik hj hoi hoj hdi hdj)
      · have h1 : e' t = e t := hold t fun j oj hj hl hoj => ht j oj hj (by rw [hset, hl]; split <;> rfl) hoj
        have h2 := ht i oi hik (by rw [hset, if_pos rfl]) hoi
        cases hdi : oi.dst with
        | none => exact h1
        | some d' =>
          show upd e' d' _ t = e t
          rw [upd_apply, if_neg]
          · exact h1
          · intro heq
            exact h2 (by rw [hdi, heq])
      · have s1 := s.adds hx hm
        rw [← hri] at s1
        have hcong : ((List.range k).filter fun j => listed.getD j false).flatMap (fun j => R j (restr (j :: pl j) β)) = ((List.range k).filter fun j => listed.getD j false).flatMap (fun j => R j (restr (j :: pl j) (setF β i x))) := by
          rw [List.flatMap_def, List.flatMap_def]
          congr 1
          apply List.map_congr_left
          intro j hj
          have := List.mem_filter.1 hj
          rw [hrj j (List.mem_range.1 this.1) this.2]
        rw [hcong, ← List.append_assoc, ← List.flatMap_cons (f := fun j => R j (restr (j :: pl j) (setF β i x)))] at s1
        refine s1.perm (List.Perm.append_right L (List.Perm.flatMap_right _ ?_))
        refine (List.perm_ext_iff_of_nodup ?_ (List.nodup_range.sublist List.filter_sublist)).2 fun j => ?_
        · rw [List.nodup_cons]
          refine ⟨fun hm => ?_, List.nodup_range.sublist List.filter_sublist⟩
          have := (List.mem_filter.1 hm).2
          rw [hun'] at this
          cases this
        · rw [List.mem_cons, List.mem_filter, List.mem_filter, hset]
          constructor
          · rintro (rfl | ⟨h1, h2⟩)
            · exact ⟨List.mem_range.2 hik, by simp⟩
            · exact ⟨h1, by split <;> first | rfl | exact h2⟩
          · rintro ⟨h1, h2⟩
            by_cases hij : i = j
            · exact .inl hij.symm
            · rw [if_neg hij] at h2; exact .inr ⟨h1, h2⟩
    · have hlist : ∀ i, i < k → listed.getD i false = true := fun i hi => by
        cases hb : listed.getD i false with
        | true => rfl
        | false => exact absurd ⟨i, hi, hb⟩ hfirst
      have hcount : listedCount listed ops.size = k := by rw [hsplit listed _ hrest hlist]; omega
      exact finish (fuel + 1) listed β e' w hsz (by omega) hrest hlist hval hold s

/-- A REGION THAT DRAWS AND MAKES MEMORY: the first k operations in whatever order (pl: what must have come before each), then the rest. -/
theorem gc_block_draw {id : Nat} {l : List Oper} (X : Type) [Inhabited X] (k : Nat) (pl : Nat → List Nat) (hm : P.follows .mixedOrders = true) (hok : blockOk l.toArray k pl = true)
    (h : GB (X := X) P l.toArray N w0 L pl (fun E RL => ∀ β, GW P l.toArray Q N w0 ((List.range k).flatMap (RL · β) ++ L) (l.drop k) (E β)) 0 (l.take k) (fun _ => e) (fun _ _ => [])) : GC P Q N w0 L (.region id l.toArray true) e := ⟨fun w s => by
  have hkn : k ≤ l.length := by
    unfold blockOk at hok
    rw [Bool.and_eq_true] at hok
    simpa using Nat.le_of_ble_eq_true hok.1
  have hlk : (l.take k).length = k := by rw [List.length_take]; omega
  obtain ⟨V, R, _, hops, ht⟩ := gb_vals (pl := pl) e (l.take k) [] (fun _ _ => undef) (fun _ _ => []) (fun _ => e) (fun _ _ => []) (fun β => rfl) (fun j β => by simp) h
  refine wp_region_any hm (any_block (X := X) (w0 := w0) (L := L) (V := V) (R := R) (k := k) (pl := pl) (e := e) hok (fun i o hi hik => ?_) (fun β => ?_) l.toArray.size _ (fun _ => default) e _ (by simp) ?_ ?_ ?_ ?_ (fun _ _ => rfl) ?_)
  · have := hops i o (by rw [List.getElem?_take, if_pos hik]; simpa using hi)
    simp only [List.nil_append, List.length_nil, Nat.zero_add, List.take_take, Nat.min_eq_left (Nat.le_of_lt hik)] at this
    exact this
  · have := ht β
    simp only [List.nil_append, List.length_nil, Nat.zero_add, hlk] at this
    have hf : (List.range k).flatMap (fun j => if j < k then R j (restr (j :: pl j) β) else []) = (List.range k).flatMap (fun j => R j (restr (j :: pl j) β)) := by
      rw [List.flatMap_def, List.flatMap_def]
      congr 1
      apply List.map_congr_left
      intro j hj
      rw [if_pos (List.mem_range.1 hj)]
    rw [hf] at this
    exact this
  · have : listedCount (Array.replicate l.toArray.size false) l.toArray.size = 0 := by
      unfold listedCount
      rw [List.length_eq_zero_iff, List.filter_eq_nil_iff]
      intro i _
      by_cases hi : i < l.length <;> simp [hi]
    omega
  · intro i _
    by_cases hi : i < l.length <;> simp [hi]
  · intro i _ hl'
    by_cases hi : i < l.length <;> simp [hi] at hl'
  · intro i o d _ hl'
    by_cases hi : i < l.length <;> simp [hi] at hl'
  · have hf : ((List.range k).filter fun i => (Array.replicate l.toArray.size false).getD i false) = [] := by
      rw [List.filter_eq_nil_iff]
      intro i _
      by_cases hi : i < l.length <;> simp [hi]
    rw [hf]
    exact s.ext (Ext.drawn w _)⟩
end
end Go.Proofs.YteiboodeepjanaaGreat
