/- The frame as a function, opaque worlds with a list of owned resources, and the rules of a walk over them. No program in sight. -/
import Derived.Tactics
import Derived.Below
import Derived.Orders
import Derived.Maps.AppendAt
namespace Go.Proofs.YteiboodeepjanaaGreat
open Go.RowKit

/-! ### Frames as functions -/
abbrev Env := Nat → Value
def upd (e : Env) (d : Nat) (v : Value) : Env := fun i => bif Nat.beq i d then v else e i
def updO (e : Env) (o : Option Nat) (v : Value) : Env := match o with | some d => upd e d v | none => e
def mk (N : Nat) (e : Env) : Act := ⟨Array.ofFn (n := N) (fun i => e i.1), []⟩
def ev (N : Nat) (e : Env) : Operand → Value
  | .tmp t => bif Nat.blt t N then e t else undef
  | .const v => v
  | .global g => .pointer (some ⟨g, 0, none⟩)
  | .func f => .func (.func f) #[] #[]

theorem mk_getD (N : Nat) (e : Env) (t : Nat) : (mk N e).tmps.getD t undef = bif Nat.blt t N then e t else undef := by
  by_cases h : t < N
  · have : Nat.blt t N = true := by rw [Nat.blt_eq]; exact h
    simp [mk, this, h]
  · have : Nat.blt t N = false := by rw [← Bool.not_eq_true, Nat.blt_eq]; exact h
    simp [mk, this, h]

theorem mk_eval (N : Nat) (e : Env) : (mk N e).eval = ev N e := by
  funext x
  cases x with
  | tmp t => exact mk_getD N e t
  | const v => rfl
  | global g => rfl
  | func f => rfl

theorem upd_apply (e : Env) (d : Nat) (v : Value) (i : Nat) : upd e d v i = if i = d then v else e i := by
  unfold upd
  by_cases h : i = d
  · simp [h]
  · have : Nat.beq i d = false := by rw [← Bool.not_eq_true]; intro hb; exact h (Nat.eq_of_beq_eq_true hb)
    simp [h, this]

theorem mk_put (N : Nat) (e : Env) (d : Option Nat) (v : Value) : (mk N e).put d v = mk N (updO e d v) := by
  cases d with
  | none => rfl
  | some d =>
    show (⟨(mk N e).tmps.setIfInBounds d v, []⟩ : Act) = _
    unfold mk updO
    congr 1
    apply Array.ext
    · simp
    · intro i h1 h2
      simp only [Array.size_setIfInBounds, Array.size_ofFn] at h1
      rw [Array.getElem_setIfInBounds (by simpa using h1)]
      simp only [Array.getElem_ofFn, upd_apply]
      by_cases hdi : d = i
      · simp [hdi]
      · simp [hdi, Ne.symm hdi]

theorem mk_args (N : Nat) (args : Array Value) (h : args.size ≤ N) :
    (⟨args ++ Array.replicate (N - args.size) undef, []⟩ : Act) = mk N (fun i => args.getD i undef) := by
  unfold mk
  congr 1
  apply Array.ext
  · simp; omega
  · intro i h1 h2
    simp only [Array.getElem_ofFn]
    simp only [Array.size_append, Array.size_replicate] at h1
    by_cases hi : i < args.size
    · rw [Array.getElem_append_left hi]; simp [hi]
    · rw [Array.getElem_append_right (by omega)]; simp [hi]

/-! ### Growth of worlds -/
/-- Nothing that is there in w has turned in w'. -/
def Ext (w w' : World) : Prop := Below w.heap.size w w'
theorem Ext.refl (w : World) : Ext w w := Below.refl _ _
theorem Ext.trans {a b c : World} (h : Ext a b) (k : Ext b c) : Ext a c := Below.trans h (Below.mono k h.size)
theorem Ext.drawn (w : World) (n : Nat) : Ext w { w with drawn := n } := ⟨rfl, rfl, rfl, Nat.le_refl _, fun _ _ => rfl⟩
theorem Ext.push (w : World) (o : Obj) : Ext w { w with heap := w.heap.push o } :=
  ⟨rfl, rfl, rfl, by simp, fun k hk => by rw [Array.getElem?_push, if_neg (by omega)]⟩

/-- A call that returns, keeps all that was there, and whose result meets φ. -/
def Ok (P : Program) (f : FuncId) (args : Array Value) (w : World) (φ : Value → World → Prop) : Prop :=
  Calls P f args w fun x w' => ∃ v, x = .returned v ∧ Ext w w' ∧ φ v w'

theorem Ok.mono {P : Program} {f : FuncId} {args : Array Value} {w : World} {φ ψ : Value → World → Prop} (h : Ok P f args w φ)
    (hi : ∀ v w', Ext w w' → φ v w' → ψ v w') : Ok P f args w ψ :=
  Calls.mono h fun _ _ ⟨v, e, x, p⟩ => ⟨v, e, x, hi v _ x p⟩

/-! ### Resources: parts of the memory that the function itself has made -/
structure Res where
  fp : Nat → Prop
  p : World → Prop
  stable : ∀ w w', (∀ b, fp b → w'.heap[b]? = w.heap[b]?) → p w → p w'

def Sep (B : Nat) : List Res → World → Prop
  | [], _ => True
  | r :: L, w => r.p w ∧ (∀ b, r.fp b → B ≤ b ∧ b < w.heap.size) ∧ (∀ b, r.fp b → ∀ q ∈ L, ¬ q.fp b) ∧ Sep B L w

theorem Sep.fp {B : Nat} : ∀ {L : List Res} {w : World}, Sep B L w → ∀ r ∈ L, ∀ b, r.fp b → B ≤ b ∧ b < w.heap.size
  | _ :: _, _, h, r, hr, b, hb => by
    rcases List.mem_cons.1 hr with rfl | hr
    · exact h.2.1 b hb
    · exact Sep.fp h.2.2.2 r hr b hb

/-- What is held stays held where the footprints have not turned. -/
theorem Sep.keep {B : Nat} : ∀ {L : List Res} {w w' : World}, Sep B L w → w.heap.size ≤ w'.heap.size → (∀ b, (∃ r ∈ L, r.fp b) → w'.heap[b]? = w.heap[b]?) → Sep B L w'
  | [], _, _, _, _, _ => trivial
  | r :: _, _, _, h, hs, hk =>
    ⟨r.stable _ _ (fun b hb => hk b ⟨r, List.mem_cons_self, hb⟩) h.1, fun b hb => ⟨(h.2.1 b hb).1, Nat.lt_of_lt_of_le (h.2.1 b hb).2 hs⟩, h.2.2.1,
      Sep.keep h.2.2.2 hs fun b ⟨q, hq, hb⟩ => hk b ⟨q, List.mem_cons_of_mem _ hq, hb⟩⟩

structure St (w0 : World) (L : List Res) (w : World) : Prop where
  below : Below w0.heap.size w0 w
  sep : Sep w0.heap.size L w

theorem St.init (w : World) : St w [] w := ⟨Below.refl _ _, trivial⟩

theorem St.ext {w0 w w' : World} {L : List Res} (h : St w0 L w) (x : Ext w w') : St w0 L w' :=
  ⟨h.below.trans (x.mono h.below.size), h.sep.keep x.size fun b ⟨r, hr, hb⟩ => x.block b (h.sep.fp r hr b hb).2⟩

theorem St.add {w0 w w' : World} {L : List Res} {r : Res} (h : St w0 L w) (x : Ext w w') (hp : r.p w') (hf : ∀ b, r.fp b → w.heap.size ≤ b ∧ b < w'.heap.size) : St w0 (r :: L) w' :=
  ⟨(h.ext x).below, hp, fun b hb => ⟨Nat.le_trans h.below.size (hf b hb).1, (hf b hb).2⟩, fun b hb q hq hqb => by
    have := (h.sep.fp q hq b hqb).2
    have := (hf b hb).1
    omega, (h.ext x).sep⟩

/-- L is r together with L', in some order. -/
inductive Pick : List Res → Res → List Res → Prop
  | here {r : Res} {L : List Res} : Pick (r :: L) r L
  | there {q r : Res} {L L' : List Res} : Pick L r L' → Pick (q :: L) r (q :: L')

theorem Pick.mem {L L' : List Res} {r : Res} (h : Pick L r L') : ∀ q, q ∈ L ↔ q = r ∨ q ∈ L' := by
  induction h with
  | here => intro q; simp
  | there _ ih => intro q; simp only [List.mem_cons, ih]; constructor <;> (intro h; rcases h with h | h | h <;> simp [h])

theorem Pick.sep {B : Nat} {L L' : List Res} {r : Res} {w : World} (h : Pick L r L') (hs : Sep B L w) : Sep B (r :: L') w := by
  induction h with
  | here => exact hs
  | @there q r L L' hp ih =>
    obtain ⟨h1, h2, h3, h4⟩ := hs
    obtain ⟨g1, g2, g3, g4⟩ := ih h4
    refine ⟨g1, g2, fun b hb x hx hxb => ?_, h1, h2, fun b hb x hx => h3 b hb x ((hp.mem x).2 (.inr hx)), g4⟩
    rcases List.mem_cons.1 hx with rfl | hx
    · exact h3 b hxb r ((hp.mem r).2 (.inl rfl)) hb
    · exact g3 b hb x hx hxb

theorem St.pick {w0 w : World} {L L' : List Res} {r : Res} (h : St w0 L w) (p : Pick L r L') : St w0 (r :: L') w := ⟨h.below, p.sep h.sep⟩
theorem St.drop {w0 w : World} {L : List Res} {r : Res} (h : St w0 (r :: L) w) : St w0 L w := ⟨h.below, h.sep.2.2.2⟩
theorem St.head {w0 w : World} {L : List Res} {r : Res} (h : St w0 (r :: L) w) : r.p w := h.sep.1

/-- The head resource is turned into another one; the world changes inside its footprint, or grows, alone. -/
theorem St.turn {w0 w w' : World} {L : List Res} {r r' : Res} (h : St w0 (r :: L) w) (hs : w.heap.size ≤ w'.heap.size) (ho : w'.os = w.os) (ht : w'.tape = w.tape) (hu : w'.output = w.output)
    (hb : ∀ b, b < w.heap.size → ¬ r.fp b → w'.heap[b]? = w.heap[b]?) (hp : r'.p w') (hf : ∀ b, r'.fp b → r.fp b ∨ (w.heap.size ≤ b ∧ b < w'.heap.size)) : St w0 (r' :: L) w' := by
  obtain ⟨hB, h1, h2, h3, h4⟩ := h
  have hL : ∀ b, (∃ q ∈ L, q.fp b) → w'.heap[b]? = w.heap[b]? := fun b ⟨q, hq, hqb⟩ => hb b (h4.fp q hq b hqb).2 fun hr => h3 b hr q hq hqb
  refine ⟨hB.trans ⟨ho, ht, hu, hs, fun b hlt => hb b (Nat.lt_of_lt_of_le hlt hB.size) fun hr => ?_⟩, hp, fun b hr => ?_, fun b hr q hq hqb => ?_, h4.keep hs hL⟩
  · have := (h2 b hr).1; omega
  · rcases hf b hr with h | h
    · exact ⟨(h2 b h).1, Nat.lt_of_lt_of_le (h2 b h).2 hs⟩
    · exact ⟨Nat.le_trans hB.size h.1, h.2⟩
  · rcases hf b hr with h | h
    · exact h3 b h q hq hqb
    · have := (h4.fp q hq b hqb).2; omega

/-- K is a part of L. -/
inductive Sub : List Res → List Res → Prop
  | nil {L : List Res} : Sub L []
  | cons {L L' K : List Res} {r : Res} : Pick L r L' → Sub L' K → Sub L (r :: K)

theorem Sub.mem {L K : List Res} (h : Sub L K) : ∀ q ∈ K, q ∈ L := by
  induction h with
  | nil => intro q hq; cases hq
  | cons p _ ih =>
    intro q hq
    rcases List.mem_cons.1 hq with rfl | hq
    · exact (p.mem _).2 (.inl rfl)
    · exact (p.mem _).2 (.inr (ih q hq))
theorem Sub.sep {B : Nat} {L K : List Res} {w : World} (h : Sub L K) : Sep B L w → Sep B K w := by
  induction h with
  | nil => intro _; trivial
  | cons p s ih =>
    intro hs
    obtain ⟨h1, h2, h3, h4⟩ := p.sep hs
    exact ⟨h1, h2, fun b hb q hq => h3 b hb q (s.mem q hq), ih h4⟩
theorem St.sub {w0 w : World} {L K : List Res} (s : Sub L K) (h : St w0 L w) : St w0 K w := ⟨h.below, s.sep h.sep⟩

/-- A variable of the function's own: a block that is known whole. -/
def Box (b : Nat) (t : TypeId) (cs : Array Value) : Res := ⟨fun x => x = b, fun w => w.heap[b]? = some (.cells cs t (0, 0)), fun _ _ h p => (h b rfl).trans p⟩

/-! ### Goals -/
structure GW (P : Program) (ops : Array Oper) (Q : Exit → Act → World → Prop) (N : Nat) (w0 : World) (L : List Res) (rest : List Oper) (e : Env) : Prop where
  h : ∀ w, St w0 L w → wpList P ops Q rest (mk N e) w
structure GC (P : Program) (Q : Exit → Act → World → Prop) (N : Nat) (w0 : World) (L : List Res) (c : Code) (e : Env) : Prop where
  h : ∀ w, St w0 L w → Code.wp P c Q (mk N e) w
structure GX (Q : Exit → Act → World → Prop) (N : Nat) (w0 : World) (L : List Res) (x : Exit) (e : Env) : Prop where
  h : ∀ w, St w0 L w → Q x (mk N e) w

section
variable {P : Program} {ops : Array Oper} {Q : Exit → Act → World → Prop} {N : Nat} {w0 : World} {L : List Res} {rest : List Oper} {e : Env} {o : Oper}

theorem gc_seq {x y : Code} (h : GC P (Exit.then (y.wp P Q) Q) N w0 L x e) : GC P Q N w0 L (.seq x y) e := ⟨fun w s => wp_seq (h.h w s)⟩
theorem gc_block {id : Nat} {c : Code} (h : GC P (Exit.inBlock id Q) N w0 L c e) : GC P Q N w0 L (.block id c) e := ⟨fun w s => wp_block (h.h w s)⟩
theorem gc_skip (h : GX Q N w0 L .normal e) : GC P Q N w0 L .skip e := ⟨fun w s => wp_skip (h.h w s)⟩
theorem gc_exit {id : Nat} (h : GX Q N w0 L (.exit id) e) : GC P Q N w0 L (.exit id) e := ⟨fun w s => wp_exit (h.h w s)⟩
theorem gc_ret (h : GX Q N w0 L .ret e) : GC P Q N w0 L .ret e := ⟨fun w s => wp_ret (h.h w s)⟩
theorem gc_region {id : Nat} {l : List Oper} (h : GW P l.toArray Q N w0 L l e) : GC P Q N w0 L (.region id l.toArray false) e := ⟨fun w s => wp_region_lit (h.h w s)⟩
theorem gc_if {c : Operand} {x y : Code} {t : Bool} (hc : ev N e c = .bool t) (ht : t = true → GC P Q N w0 L x e) (hf : t = false → GC P Q N w0 L y e) : GC P Q N w0 L (.cond c x y) e := ⟨fun w s =>
  wp_cond_split (by rw [mk_eval]; exact hc) (fun h => (ht h).h w s) (fun h => (hf h).h w s)⟩
theorem gc_if_true {c : Operand} {x y : Code} (hc : ev N e c = .bool true) (h : GC P Q N w0 L x e) : GC P Q N w0 L (.cond c x y) e := gc_if hc (fun _ => h) (fun h => by cases h)
theorem gc_if_false {c : Operand} {x y : Code} (hc : ev N e c = .bool false) (h : GC P Q N w0 L y e) : GC P Q N w0 L (.cond c x y) e := gc_if hc (fun h => by cases h) (fun _ => h)
theorem gc_if_dec {c : Operand} {x y : Code} {p : Prop} [Decidable p] (hc : ev N e c = .bool (decide p)) (ht : p → GC P Q N w0 L x e) (hf : ¬ p → GC P Q N w0 L y e) : GC P Q N w0 L (.cond c x y) e :=
  gc_if hc (fun h => ht (of_decide_eq_true h)) (fun h => hf (of_decide_eq_false h))
theorem gc_if_not {c : Operand} {x y : Code} {p : Prop} [Decidable p] (hc : ev N e c = .bool (!decide p)) (ht : ¬ p → GC P Q N w0 L x e) (hf : p → GC P Q N w0 L y e) : GC P Q N w0 L (.cond c x y) e :=
  gc_if hc (fun h => ht (by simpa using h)) (fun h => hf (by simpa using h))
theorem gc_if_beq {c : Operand} {x y : Code} {i j : Int} (hc : ev N e c = .bool (i == j)) (ht : i = j → GC P Q N w0 L x e) (hf : ¬ i = j → GC P Q N w0 L y e) : GC P Q N w0 L (.cond c x y) e :=
  gc_if hc (fun h => ht (by simpa using h)) (fun h => hf (by simpa using h))
theorem gc_if_bne {c : Operand} {x y : Code} {i j : Int} (hc : ev N e c = .bool (i != j)) (ht : ¬ i = j → GC P Q N w0 L x e) (hf : i = j → GC P Q N w0 L y e) : GC P Q N w0 L (.cond c x y) e :=
  gc_if hc (fun h => ht (by simpa using h)) (fun h => hf (by simpa using h))

theorem gx_then {next : Act → World → Prop} (h : ∀ w, St w0 L w → next (mk N e) w) : GX (Exit.then next Q) N w0 L .normal e := ⟨h⟩
theorem gx_next {y : Code} (h : GC P Q N w0 L y e) : GX (Exit.then (y.wp P Q) Q) N w0 L .normal e := ⟨h.h⟩
theorem gx_then_ret {next : Act → World → Prop} (h : GX Q N w0 L .ret e) : GX (Exit.then next Q) N w0 L .ret e := ⟨h.h⟩
theorem gx_then_exit {next : Act → World → Prop} {id : Nat} (h : GX Q N w0 L (.exit id) e) : GX (Exit.then next Q) N w0 L (.exit id) e := ⟨h.h⟩
theorem gx_block {id : Nat} (h : GX Q N w0 L .normal e) : GX (Exit.inBlock id Q) N w0 L .normal e := ⟨h.h⟩
theorem gx_block_ret {id : Nat} (h : GX Q N w0 L .ret e) : GX (Exit.inBlock id Q) N w0 L .ret e := ⟨h.h⟩
theorem gx_block_exit {id : Nat} (h : GX Q N w0 L .normal e) : GX (Exit.inBlock id Q) N w0 L (.exit id) e := ⟨fun w s => by
  simp only [Exit.inBlock, if_true]; exact h.h w s⟩
theorem gx_block_other {id id' : Nat} (hne : Nat.beq id' id = false) (h : GX Q N w0 L (.exit id') e) : GX (Exit.inBlock id Q) N w0 L (.exit id') e := ⟨fun w s => by
  have : ¬ id' = id := fun h => by rw [h, Nat.beq_refl] at hne; cases hne
  simp only [Exit.inBlock, this, if_false]; exact h.h w s⟩

/-! ### Operations -/
def wantedE (N : Nat) (ops : Array Oper) (e : Env) (o : Oper) : Bool :=
  match o.guard with
  | none => true
  | some (j, want) => match (ops[j]?).bind (·.dst) with
    | some d => match bif Nat.blt d N then e d else undef with
      | .bool b => b == want
      | _ => false
    | none => false

theorem wanted_mk : Region.wanted o (yielded ops (mk N e).tmps) = wantedE N ops e o := by
  unfold Region.wanted wantedE
  cases hg : o.guard with
  | none => rfl
  | some g =>
    obtain ⟨j, want⟩ := g
    simp only [yielded]
    cases hd : (ops[j]?).bind (·.dst) with
    | none => rfl
    | some d =>
      simp only [Option.bind_some]
      by_cases h : d < N
      · have hb : Nat.blt d N = true := by rw [Nat.blt_eq]; exact h
        have hget : (mk N e).tmps[d]? = some (e d) := by simp [mk, h]
        rw [hget, hb]
        simp only [cond_true]
        cases e d <;> rfl
      · have hb : Nat.blt d N = false := by rw [← Bool.not_eq_true, Nat.blt_eq]; exact h
        have hget : (mk N e).tmps[d]? = none := by simp [mk, h]
        rw [hget, hb]
        rfl

theorem wl_run {w w' : World} {v : Value} (hw : wantedE N ops e o = true) (hr : (execOp (ev N e) o).run P w = .ok (.value v) w') (k : wpList P ops Q rest (mk N (updO e o.dst v)) w') :
    wpList P ops Q (o :: rest) (mk N e) w := by
  refine wpList_step fun K hK => ?_
  rw [if_pos (by rw [wanted_mk]; exact hw)]
  unfold Oper.wp
  rw [mk_eval, hr]
  show K ((mk N e).put o.dst v) w'
  rw [mk_put]
  exact hK _ _ k

theorem wl_skip_run {w w' : World} (hw : wantedE N ops e o = true) (hr : (execOp (ev N e) o).run P w = .ok .skip w') (k : wpList P ops Q rest (mk N (updO e o.dst undef)) w') :
    wpList P ops Q (o :: rest) (mk N e) w := by
  refine wpList_step fun K hK => ?_
  rw [if_pos (by rw [wanted_mk]; exact hw)]
  unfold Oper.wp
  rw [mk_eval, hr]
  show K ((mk N e).put o.dst undef) w'
  rw [mk_put]
  exact hK _ _ k

theorem wl_enter {w w' : World} {f : FuncId} {args : Array Value} (hw : wantedE N ops e o = true) (hr : (execOp (ev N e) o).run P w = .ok (.enter f args) w')
    (k : Calls P f args w' fun x w'' => ∃ v, x = .returned v ∧ wpList P ops Q rest (mk N (updO e o.dst v)) w'') : wpList P ops Q (o :: rest) (mk N e) w := by
  refine wpList_step fun K hK => ?_
  rw [if_pos (by rw [wanted_mk]; exact hw)]
  unfold Oper.wp
  rw [mk_eval, hr]
  refine Calls.mono k ?_
  rintro x w'' ⟨v, rfl, h⟩
  show K ((mk N e).put o.dst v) w''
  rw [mk_put]
  exact hK _ _ h

theorem wl_not {w : World} (hw : wantedE N ops e o = false) (k : wpList P ops Q rest (mk N (updO e o.dst undef)) w) : wpList P ops Q (o :: rest) (mk N e) w := by
  refine wpList_step fun K hK => ?_
  rw [if_neg (by rw [wanted_mk, hw]; simp), mk_put]
  exact hK _ _ k

/-- What the operation gives is known, and nothing that was there turns. -/
def Step (P : Program) (ρ : Operand → Value) (o : Oper) (w : World) (φ : Value → World → Prop) : Prop :=
  match (execOp ρ o).run P w with
  | .ok (.value v) w' => Ext w w' ∧ φ v w'
  | .ok .skip w' => Ext w w' ∧ φ undef w'
  | .ok (.enter f args) w' => Ext w w' ∧ Ok P f args w' φ
  | _ => False

/-- The operation gives c at whatever world that holds L. -/
def Det (P : Program) (ops : Array Oper) (N : Nat) (w0 : World) (L : List Res) (o : Oper) (e : Env) (c : Value) : Prop :=
  (wantedE N ops e o = true ∧ ∀ w, St w0 L w → Step P (ev N e) o w fun v _ => v = c) ∨ (wantedE N ops e o = false ∧ c = undef)

theorem wl_step {w : World} {φ : Value → World → Prop} (hw : wantedE N ops e o = true) (hs : Step P (ev N e) o w φ)
    (k : ∀ v w', Ext w w' → φ v w' → wpList P ops Q rest (mk N (updO e o.dst v)) w') : wpList P ops Q (o :: rest) (mk N e) w := by
  unfold Step at hs
  split at hs
  · rename_i hr; exact wl_run hw hr (k _ _ hs.1 hs.2)
  · rename_i hr; exact wl_skip_run hw hr (k _ _ hs.1 hs.2)
  · rename_i hr
    refine wl_enter hw hr (Calls.mono hs.2 ?_)
    rintro x w'' ⟨v, rfl, hx, hv⟩
    exact ⟨v, rfl, k _ _ (hs.1.trans hx) hv⟩
  · exact hs.elim

theorem gw_nil (h : GX Q N w0 L .normal e) : GW P ops Q N w0 L [] e := ⟨fun w s => wpList_nil (h.h w s)⟩
theorem gw_det {c : Value} (hd : Det P ops N w0 L o e c) (k : GW P ops Q N w0 L rest (updO e o.dst c)) : GW P ops Q N w0 L (o :: rest) e := ⟨fun w s => by
  rcases hd with ⟨hw, hs⟩ | ⟨hw, rfl⟩
  · exact wl_step hw (hs w s) fun v w' x hv => by subst hv; exact k.h w' (s.ext x)
  · exact wl_not hw (k.h w s)⟩

theorem det_not (hw : wantedE N ops e o = false) : Det P ops N w0 L o e undef := .inr ⟨hw, rfl⟩
theorem det_pure {c : Value} (hw : wantedE N ops e o = true) (hr : ∀ w, (execOp (ev N e) o).run P w = .ok (.value c) w) : Det P ops N w0 L o e c :=
  .inl ⟨hw, fun w _ => by unfold Step; rw [hr w]; exact ⟨Ext.refl _, rfl⟩⟩
theorem det_eq {c c' : Value} (h : Det P ops N w0 L o e c) (hc : c = c') : Det P ops N w0 L o e c' := hc ▸ h
theorem det_int {k : IntKind} {x y : Int} (hw : wantedE N ops e o = true) (hr : ∀ w, (execOp (ev N e) o).run P w = .ok (.value (.int k x)) w) (hx : x = y) : Det P ops N w0 L o e (.int k y) :=
  hx ▸ det_pure hw hr
theorem det_enter {c : Value} {f : FuncId} {args : Array Value} (hw : wantedE N ops e o = true) (hr : ∀ w, (execOp (ev N e) o).run P w = .ok (.enter f args) w)
    (hC : ∀ w, St w0 L w → Ok P f args w fun v _ => v = c) : Det P ops N w0 L o e c :=
  .inl ⟨hw, fun w s => by unfold Step; rw [hr w]; exact ⟨Ext.refl _, hC w s⟩⟩

theorem guard_split {d : Nat} {b : Bool} {F : Env → Prop} (hb : e d = .bool b) (ht : b = true → F (upd e d (.bool true))) (hf : b = false → F (upd e d (.bool false))) : F e := by
  have key : ∀ v, e d = v → upd e d v = e := fun v hv => by
    funext i
    rw [upd_apply]
    split
    · rename_i h; rw [h]; exact hv.symm
    · rfl
  cases b with
  | true => have := ht rfl; rwa [key _ hb] at this
  | false => have := hf rfl; rwa [key _ hb] at this

/-! ### A region that draws its order: each operation's value is known, whatever ran before -/
inductive GD (P : Program) (ops : Array Oper) (N : Nat) (w0 : World) (L : List Res) (tail : Env → Prop) : List Oper → Env → Prop
  | nil {e : Env} : tail e → GD P ops N w0 L tail [] e
  | cons {o : Oper} {rest : List Oper} {e : Env} (c : Value) : Det P ops N w0 L o e c → GD P ops N w0 L tail rest (updO e o.dst c) → GD P ops N w0 L tail (o :: rest) e

theorem gd_nil {tail : Env → Prop} (h : tail e) : GD P ops N w0 L tail [] e := .nil h
theorem gd_det {tail : Env → Prop} {c : Value} (hd : Det P ops N w0 L o e c) (k : GD P ops N w0 L tail rest (updO e o.dst c)) : GD P ops N w0 L tail (o :: rest) e := .cons c hd k
end
end Go.Proofs.YteiboodeepjanaaGreat
