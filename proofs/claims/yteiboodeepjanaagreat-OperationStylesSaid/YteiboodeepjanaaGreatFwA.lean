/- The frame as a function, opaque worlds with a list of owned resources, and the rules of a walk over them. No program in sight. -/
import Derived.Tactics
import Derived.Below
import Derived.Orders
import Derived.Maps.AppendAt
import Derived.Deep.LoopGhost
namespace Go.Proofs.YteiboodeepjanaaGreat
open Go.RowKit

/-! ### Frames as functions -/
abbrev Env := Nat → Value
def upd (e : Env) (d : Nat) (v : Value) : Env := fun i => bif Nat.beq i d then v else e i
def updO (e : Env) (o : Option Nat) (v : Value) : Env := match o with | some d => upd e d v | none => e
def mk (N : Nat) (e : Env) : Act := ⟨Array.ofFn (n := N) (fun i => e i.1), []⟩
def ev (N : Nat) (e : Env) : Operand → Value
  | .tmp t => bif Nat.blt t N then e t else undef
  | .const v => v
  | .global g => .pointer (some ⟨g, 0, none⟩)
  | .func f => .func (.func f) #[] #[]

theorem mk_getD (N : Nat) (e : Env) (t : Nat) : (mk N e).tmps.getD t undef = bif Nat.blt t N then e t else undef := by
  by_cases h : t < N
  · have : Nat.blt t N = true := by rw [Nat.blt_eq]; exact h
    simp [mk, this, h]
  · have : Nat.blt t N = false := by rw [← Bool.not_eq_true, Nat.blt_eq]; exact h
    simp [mk, this, h]

theorem mk_eval (N : Nat) (e : Env) : (mk N e).eval = ev N e := by
  funext x
  cases x with
  | tmp t => exact mk_getD N e t
  | const v => rfl
  | global g => rfl
  | func f => rfl

theorem upd_apply (e : Env) (d : Nat) (v : Value) (i : Nat) : upd e d v i = if i = d then v else e i := by
  unfold upd
  by_cases h : i = d
  · simp [h]
  · have : Nat.beq i d = false := by rw [← Bool.not_eq_true]; intro hb; exact h (Nat.eq_of_beq_eq_true hb)
    simp [h, this]

theorem mk_put (N : Nat) (e : Env) (d : Option Nat) (v : Value) : (mk N e).put d v = mk N (updO e d v) := by
  cases d with
  | none => rfl
  | some d =>
    show (⟨(mk N e).tmps.setIfInBounds d v, []⟩ : Act) = _
    unfold mk updO
    congr 1
    apply Array.ext
    · simp
    · intro i h1 h2
      simp only [Array.size_setIfInBounds, Array.size_ofFn] at h1
      rw [Array.getElem_setIfInBounds (by simpa using h1)]
      simp only [Array.getElem_ofFn, upd_apply]
      by_cases hdi : d = i
      · simp [hdi]
      · simp [hdi, Ne.symm hdi]

theorem mk_args (N : Nat) (args : Array Value) (h : args.size ≤ N) :
    (⟨args ++ Array.replicate (N - args.size) undef, []⟩ : Act) = mk N (fun i => args.getD i undef) := by
  unfold mk
  congr 1
  apply Array.ext
  · simp; omega
  · intro i h1 h2
    simp only [Array.getElem_ofFn]
    simp only [Array.size_append, Array.size_replicate] at h1
    by_cases hi : i < args.size
    · rw [Array.getElem_append_left hi]; simp [hi]
    · rw [Array.getElem_append_right (by omega)]; simp [hi]

/-! ### Growth of worlds -/
/-- Nothing that is there in w has turned in w'. -/
def Ext (w w' : World) : Prop := Below w.heap.size w w'
theorem Ext.refl (w : World) : Ext w w := Below.refl _ _
theorem Ext.trans {a b c : World} (h : Ext a b) (k : Ext b c) : Ext a c := Below.trans h (Below.mono k h.size)
theorem Ext.drawn (w : World) (n : Nat) : Ext w { w with drawn := n } := ⟨rfl, rfl, rfl, Nat.le_refl _, fun _ _ => rfl⟩
theorem Ext.push (w : World) (o : Obj) : Ext w { w with heap := w.heap.push o } :=
  ⟨rfl, rfl, rfl, by simp, fun k hk => by rw [Array.getElem?_push, if_neg (by omega)]⟩

/-- A call that returns, keeps all that was there, and whose result meets φ. -/
def Ok (P : Program) (f : FuncId) (args : Array Value) (w : World) (φ : Value → World → Prop) : Prop :=
  Calls P f args w fun x w' => ∃ v, x = .returned v ∧ Ext w w' ∧ φ v w'

theorem Ok.mono {P : Program} {f : FuncId} {args : Array Value} {w : World} {φ ψ : Value → World → Prop} (h : Ok P f args w φ)
    (hi : ∀ v w', Ext w w' → φ v w' → ψ v w') : Ok P f args w ψ :=
  Calls.mono h fun _ _ ⟨v, e, x, p⟩ => ⟨v, e, x, hi v _ x p⟩

/-! ### Resources: parts of the memory that the function itself has made -/
structure Res where
  fp : Nat → Prop
  p : World → Prop
  stable : ∀ w w', (∀ b, fp b → w'.heap[b]? = w.heap[b]?) → p w → p w'

def Sep (B : Nat) : List Res → World → Prop
  | [], _ => True
  | r :: L, w => r.p w ∧ (∀ b, r.fp b → B ≤ b ∧ b < w.heap.size) ∧ (∀ b, r.fp b → ∀ q ∈ L, ¬ q.fp b) ∧ Sep B L w

theorem Sep.fp {B : Nat} : ∀ {L : List Res} {w : World}, Sep B L w → ∀ r ∈ L, ∀ b, r.fp b → B ≤ b ∧ b < w.heap.size
  | _ :: _, _, h, r, hr, b, hb => by
    rcases List.mem_cons.1 hr with rfl | hr
    · exact h.2.1 b hb
    · exact Sep.fp h.2.2.2 r hr b hb

/-- What is held stays held where the footprints have not turned. -/
theorem Sep.keep {B : Nat} : ∀ {L : List Res} {w w' : World}, Sep B L w → w.heap.size ≤ w'.heap.size → (∀ b, (∃ r ∈ L, r.fp b) → w'.heap[b]? = w.heap[b]?) → Sep B L w'
  | [], _, _, _, _, _ => trivial
  | r :: _, _, _, h, hs, hk =>
    ⟨r.stable _ _ (fun b hb => hk b ⟨r, List.mem_cons_self, hb⟩) h.1, fun b hb => ⟨(h.2.1 b hb).1, Nat.lt_of_lt_of_le (h.2.1 b hb).2 hs⟩, h.2.2.1,
      Sep.keep h.2.2.2 hs fun b ⟨q, hq, hb⟩ => hk b ⟨q, List.mem_cons_of_mem _ hq, hb⟩⟩

structure St (w0 : World) (L : List Res) (w : World) : Prop where
  below : Below w0.heap.size w0 w
  sep : Sep w0.heap.size L w

theorem St.init (w : World) : St w [] w := ⟨Below.refl _ _, trivial⟩

theorem St.ext {w0 w w' : World} {L : List Res} (h : St w0 L w) (x : Ext w w') : St w0 L w' :=
  ⟨h.below.trans (x.mono h.below.size), h.sep.keep x.size fun b ⟨r, hr, hb⟩ => x.block b (h.sep.fp r hr b hb).2⟩

theorem St.add {w0 w w' : World} {L : List Res} {r : Res} (h : St w0 L w) (x : Ext w w') (hp : r.p w') (hf : ∀ b, r.fp b → w.heap.size ≤ b ∧ b < w'.heap.size) : St w0 (r :: L) w' :=
  ⟨(h.ext x).below, hp, fun b hb => ⟨Nat.le_trans h.below.size (hf b hb).1, (hf b hb).2⟩, fun b hb q hq hqb => by
    have := (h.sep.fp q hq b hqb).2
    have := (hf b hb).1
    omega, (h.ext x).sep⟩

/-- L is r together with L', in some order. -/
inductive Pick : List Res → Res → List Res → Prop
  | here {r : Res} {L : List Res} : Pick (r :: L) r L
  | there {q r : Res} {L L' : List Res} : Pick L r L' → Pick (q :: L) r (q :: L')

theorem Pick.mem {L L' : List Res} {r : Res} (h : Pick L r L') : ∀ q, q ∈ L ↔ q = r ∨ q ∈ L' := by
  induction h with
  | here => intro q; simp
  | there _ ih => intro q; simp only [List.mem_cons, ih]; constructor <;> (intro h; rcases h with h | h | h <;> simp [h])

theorem Pick.sep {B : Nat} {L L' : List Res} {r : Res} {w : World} (h : Pick L r L') (hs : Sep B L w) : Sep B (r :: L') w := by
  induction h with
  | here => exact hs
  | @there q r L L' hp ih =>
    obtain ⟨h1, h2, h3, h4⟩ := hs
    obtain ⟨g1, g2, g3, g4⟩ := ih h4
    refine ⟨g1, g2, fun b hb x hx hxb => ?_, h1, h2, fun b hb x hx => h3 b hb x ((hp.mem x).2 (.inr hx)), g4⟩
    rcases List.mem_cons.1 hx with rfl | hx
    · exact h3 b hxb r ((hp.mem r).2 (.inl rfl)) hb
    · exact g3 b hb x hx hxb

theorem St.pick {w0 w : World} {L L' : List Res} {r : Res} (h : St w0 L w) (p : Pick L r L') : St w0 (r :: L') w := ⟨h.below, p.sep h.sep⟩
theorem St.drop {w0 w : World} {L : List Res} {r : Res} (h : St w0 (r :: L) w) : St w0 L w := ⟨h.below, h.sep.2.2.2⟩
theorem St.head {w0 w : World} {L : List Res} {r : Res} (h : St w0 (r :: L) w) : r.p w := h.sep.1

/-- The head resource is turned into another one; the world changes inside its footprint, or grows, alone. -/
theorem St.turn {w0 w w' : World} {L : List Res} {r r' : Res} (h : St w0 (r :: L) w) (hs : w.heap.size ≤ w'.heap.size) (ho : w'.os = w.os) (ht : w'.tape = w.tape) (hu : w'.output = w.output)
    (hb : ∀ b, b < w.heap.size → ¬ r.fp b → w'.heap[b]? = w.heap[b]?) (hp : r'.p w') (hf : ∀ b, r'.fp b → r.fp b ∨ (w.heap.size ≤ b ∧ b < w'.heap.size)) : St w0 (r' :: L) w' := by
  obtain ⟨hB, h1, h2, h3, h4⟩ := h
  have hL : ∀ b, (∃ q ∈ L, q.fp b) → w'.heap[b]? = w.heap[b]? := fun b ⟨q, hq, hqb⟩ => hb b (h4.fp q hq b hqb).2 fun hr => h3 b hr q hq hqb
  refine ⟨hB.trans ⟨ho, ht, hu, hs, fun b hlt => hb b (Nat.lt_of_lt_of_le hlt hB.size) fun hr => ?_⟩, hp, fun b hr => ?_, fun b hr q hq hqb => ?_, h4.keep hs hL⟩
  · have := (h2 b hr).1; omega
  · rcases hf b hr with h | h
    · exact ⟨(h2 b h).1, Nat.lt_of_lt_of_le (h2 b h).2 hs⟩
    · exact ⟨Nat.le_trans hB.size h.1, h.2⟩
  · rcases hf b hr with h | h
    · exact h3 b h q hq hqb
    · have := (h4.fp q hq b hqb).2; omega

/-- K is a part of L. -/
inductive Sub : List Res → List Res → Prop
  | nil {L : List Res} : Sub L []
  | cons {L L' K : List Res} {r : Res} : Pick L r L' → Sub L' K → Sub L (r :: K)

theorem Sub.mem {L K : List Res} (h : Sub L K) : ∀ q ∈ K, q ∈ L := by
  induction h with
  | nil => intro q hq; cases hq
  | cons p _ ih =>
    intro q hq
    rcases List.mem_cons.1 hq with rfl | hq
    · exact (p.mem _).2 (.inl rfl)
    · exact (p.mem _).2 (.inr (ih q hq))
theorem Sub.sep {B : Nat} {L K : List Res} {w : World} (h : Sub L K) : Sep B L w → Sep B K w := by
  induction h with
  | nil => intro _; trivial
  | cons p s ih =>
    intro hs
    obtain ⟨h1, h2, h3, h4⟩ := p.sep hs
    exact ⟨h1, h2, fun b hb q hq => h3 b hb q (s.mem q hq), ih h4⟩
theorem St.sub {w0 w : World} {L K : List Res} (s : Sub L K) (h : St w0 L w) : St w0 K w := ⟨h.below, s.sep h.sep⟩

/-- A variable of the function's own: a block that is known whole. -/
def Box (b : Nat) (t : TypeId) (cs : Array Value) : Res := ⟨fun x => x = b, fun w => w.heap[b]? = some (.cells cs t (0, 0)), fun _ _ h p => (h b rfl).trans p⟩

/-! ### Goals -/
structure GW (P : Program) (ops : Array Oper) (Q : Exit → Act → World → Prop) (N : Nat) (w0 : World) (L : List Res) (rest : List Oper) (e : Env) : Prop where
  h : ∀ w, St w0 L w → wpList P ops Q rest (mk N e) w
structure GC (P : Program) (Q : Exit → Act → World → Prop) (N : Nat) (w0 : World) (L : List Res) (c : Code) (e : Env) : Prop where
  h : ∀ w, St w0 L w → Code.wp P c Q (mk N e) w
structure GX (Q : Exit → Act → World → Prop) (N : Nat) (w0 : World) (L : List Res) (x : Exit) (e : Env) : Prop where
  h : ∀ w, St w0 L w → Q x (mk N e) w

section
variable {P : Program} {ops : Array Oper} {Q : Exit → Act → World → Prop} {N : Nat} {w0 : World} {L : List Res} {rest : List Oper} {e : Env} {o : Oper}

theorem gc_seq {x y : Code} (h : GC P (Exit.then (y.wp P Q) Q) N w0 L x e) : GC P Q N w0 L (.seq x y) e := ⟨fun w s => wp_seq (h.h w s)⟩
theorem gc_block {id : Nat} {c : Code} (h : GC P (Exit.inBlock id Q) N w0 L c e) : GC P Q N w0 L (.block id c) e := ⟨fun w s => wp_block (h.h w s)⟩
theorem gc_skip (h : GX Q N w0 L .normal e) : GC P Q N w0 L .skip e := ⟨fun w s => wp_skip (h.h w s)⟩
theorem gc_exit {id : Nat} (h : GX Q N w0 L (.exit id) e) : GC P Q N w0 L (.exit id) e := ⟨fun w s => wp_exit (h.h w s)⟩
theorem gc_ret (h : GX Q N w0 L .ret e) : GC P Q N w0 L .ret e := ⟨fun w s => wp_ret (h.h w s)⟩
theorem gc_region {id : Nat} {l : List Oper} (h : GW P l.toArray Q N w0 L l e) : GC P Q N w0 L (.region id l.toArray false) e := ⟨fun w s => wp_region_lit (h.h w s)⟩
theorem gc_if {c : Operand} {x y : Code} {t : Bool} (hc : ev N e c = .bool t) (ht : t = true → GC P Q N w0 L x e) (hf : t = false → GC P Q N w0 L y e) : GC P Q N w0 L (.cond c x y) e := ⟨fun w s =>
  wp_cond_split (by rw [mk_eval]; exact hc) (fun h => (ht h).h w s) (fun h => (hf h).h w s)⟩
theorem gc_if_true {c : Operand} {x y : Code} (hc : ev N e c = .bool true) (h : GC P Q N w0 L x e) : GC P Q N w0 L (.cond c x y) e := gc_if hc (fun _ => h) (fun h => by cases h)
theorem gc_if_false {c : Operand} {x y : Code} (hc : ev N e c = .bool false) (h : GC P Q N w0 L y e) : GC P Q N w0 L (.cond c x y) e := gc_if hc (fun h => by cases h) (fun _ => h)
theorem gc_if_dec {c : Operand} {x y : Code} {p : Prop} [Decidable p] (hc : ev N e c = .bool (decide p)) (ht : p → GC P Q N w0 L x e) (hf : ¬ p → GC P Q N w0 L y e) : GC P Q N w0 L (.cond c x y) e :=
  gc_if hc (fun h => ht (of_decide_eq_true h)) (fun h => hf (of_decide_eq_false h))
theorem gc_if_not {c : Operand} {x y : Code} {p : Prop} [Decidable p] (hc : ev N e c = .bool (!decide p)) (ht : ¬ p → GC P Q N w0 L x e) (hf : p → GC P Q N w0 L y e) : GC P Q N w0 L (.cond c x y) e :=
  gc_if hc (fun h => ht (by simpa using h)) (fun h => hf (by simpa using h))
theorem gc_if_beq {c : Operand} {x y : Code} {i j : Int} (hc : ev N e c = .bool (i == j)) (ht : i = j → GC P Q N w0 L x e) (hf : ¬ i = j → GC P Q N w0 L y e) : GC P Q N w0 L (.cond c x y) e :=
  gc_if hc (fun h => ht (by simpa using h)) (fun h => hf (by simpa using h))
theorem gc_if_bne {c : Operand} {x y : Code} {i j : Int} (hc : ev N e c = .bool (i != j)) (ht : ¬ i = j → GC P Q N w0 L x e) (hf : i = j → GC P Q N w0 L y e) : GC P Q N w0 L (.cond c x y) e :=
  gc_if hc (fun h => ht (by simpa using h)) (fun h => hf (by simpa using h))

theorem gx_then {next : Act → World → Prop} (h : ∀ w, St w0 L w → next (mk N e) w) : GX (Exit.then next Q) N w0 L .normal e := ⟨h⟩
theorem gx_next {y : Code} (h : GC P Q N w0 L y e) : GX (Exit.then (y.wp P Q) Q) N w0 L .normal e := ⟨h.h⟩
theorem gx_then_ret {next : Act → World → Prop} (h : GX Q N w0 L .ret e) : GX (Exit.then next Q) N w0 L .ret e := ⟨h.h⟩
theorem gx_then_exit {next : Act → World → Prop} {id : Nat} (h : GX Q N w0 L (.exit id) e) : GX (Exit.then next Q) N w0 L (.exit id) e := ⟨h.h⟩
theorem gx_block {id : Nat} (h : GX Q N w0 L .normal e) : GX (Exit.inBlock id Q) N w0 L .normal e := ⟨h.h⟩
theorem gx_block_ret {id : Nat} (h : GX Q N w0 L .ret e) : GX (Exit.inBlock id Q) N w0 L .ret e := ⟨h.h⟩
theorem gx_block_exit {id : Nat} (h : GX Q N w0 L .normal e) : GX (Exit.inBlock id Q) N w0 L (.exit id) e := ⟨fun w s => by
  simp only [Exit.inBlock, if_true]; exact h.h w s⟩
theorem gx_block_other {id id' : Nat} (hne : Nat.beq id' id = false) (h : GX Q N w0 L (.exit id') e) : GX (Exit.inBlock id Q) N w0 L (.exit id') e := ⟨fun w s => by
  have : ¬ id' = id := fun h => by rw [h, Nat.beq_refl] at hne; cases hne
  simp only [Exit.inBlock, this, if_false]; exact h.h w s⟩

/-! ### Operations -/
def wantedE (N : Nat) (ops : Array Oper) (e : Env) (o : Oper) : Bool :=
  match o.guard with
  | none => true
  | some (j, want) => match (ops[j]?).bind (·.dst) with
    | some d => match bif Nat.blt d N then e d else undef with
      | .bool b => b == want
      | _ => false
    | none => false

theorem wanted_mk : Region.wanted o (yielded ops (mk N e).tmps) = wantedE N ops e o := by
  unfold Region.wanted wantedE
  cases hg : o.guard with
  | none => rfl
  | some g =>
    obtain ⟨j, want⟩ := g
    simp only [yielded]
    cases hd : (ops[j]?).bind (·.dst) with
    | none => rfl
    | some d =>
      simp only [Option.bind_some]
      by_cases h : d < N
      · have hb : Nat.blt d N = true := by rw [Nat.blt_eq]; exact h
        have hget : (mk N e).tmps[d]? = some (e d) := by simp [mk, h]
        rw [hget, hb]
        simp only [cond_true]
        cases e d <;> rfl
      · have hb : Nat.blt d N = false := by rw [← Bool.not_eq_true, Nat.blt_eq]; exact h
        have hget : (mk N e).tmps[d]? = none := by simp [mk, h]
        rw [hget, hb]
        rfl

theorem wl_run {w w' : World} {v : Value} (hw : wantedE N ops e o = true) (hr : (execOp (ev N e) o).run P w = .ok (.value v) w') (k : wpList P ops Q rest (mk N (updO e o.dst v)) w') :
    wpList P ops Q (o :: rest) (mk N e) w := by
  refine wpList_step fun K hK => ?_
  rw [if_pos (by rw [wanted_mk]; exact hw)]
  unfold Oper.wp
  rw [mk_eval, hr]
  show K ((mk N e).put o.dst v) w'
  rw [mk_put]
  exact hK _ _ k

theorem wl_skip_run {w w' : World} (hw : wantedE N ops e o = true) (hr : (execOp (ev N e) o).run P w = .ok .skip w') (k : wpList P ops Q rest (mk N (updO e o.dst undef)) w') :
    wpList P ops Q (o :: rest) (mk N e) w := by
  refine wpList_step fun K hK => ?_
  rw [if_pos (by rw [wanted_mk]; exact hw)]
  unfold Oper.wp
  rw [mk_eval, hr]
  show K ((mk N e).put o.dst undef) w'
  rw [mk_put]
  exact hK _ _ k

theorem wl_enter {w w' : World} {f : FuncId} {args : Array Value} (hw : wantedE N ops e o = true) (hr : (execOp (ev N e) o).run P w = .ok (.enter f args) w')
    (k : Calls P f args w' fun x w'' => ∃ v, x = .returned v ∧ wpList P ops Q rest (mk N (updO e o.dst v)) w'') : wpList P ops Q (o :: rest) (mk N e) w := by
  refine wpList_step fun K hK => ?_
  rw [if_pos (by rw [wanted_mk]; exact hw)]
  unfold Oper.wp
  rw [mk_eval, hr]
  refine Calls.mono k ?_
  rintro x w'' ⟨v, rfl, h⟩
  show K ((mk N e).put o.dst v) w''
  rw [mk_put]
  exact hK _ _ h

theorem wl_not {w : World} (hw : wantedE N ops e o = false) (k : wpList P ops Q rest (mk N (updO e o.dst undef)) w) : wpList P ops Q (o :: rest) (mk N e) w := by
  refine wpList_step fun K hK => ?_
  rw [if_neg (by rw [wanted_mk, hw]; simp), mk_put]
  exact hK _ _ k

/-- What the operation gives is known, and nothing that was there turns. -/
def Step (P : Program) (ρ : Operand → Value) (o : Oper) (w : World) (φ : Value → World → Prop) : Prop :=
  match (execOp ρ o).run P w with
  | .ok (.value v) w' => Ext w w' ∧ φ v w'
  | .ok .skip w' => Ext w w' ∧ φ undef w'
  | .ok (.enter f args) w' => Ext w w' ∧ Ok P f args w' φ
  | _ => False

/-- The operation gives c at whatever world that holds L. -/
def Det (P : Program) (ops : Array Oper) (N : Nat) (w0 : World) (L : List Res) (o : Oper) (e : Env) (c : Value) : Prop :=
  (wantedE N ops e o = true ∧ ∀ w, St w0 L w → Step P (ev N e) o w fun v _ => v = c) ∨ (wantedE N ops e o = false ∧ c = undef)

theorem wl_step {w : World} {φ : Value → World → Prop} (hw : wantedE N ops e o = true) (hs : Step P (ev N e) o w φ)
    (k : ∀ v w', Ext w w' → φ v w' → wpList P ops Q rest (mk N (updO e o.dst v)) w') : wpList P ops Q (o :: rest) (mk N e) w := by
  unfold Step at hs
  split at hs
  · rename_i hr; exact wl_run hw hr (k _ _ hs.1 hs.2)
  · rename_i hr; exact wl_skip_run hw hr (k _ _ hs.1 hs.2)
  · rename_i hr
    refine wl_enter hw hr (Calls.mono hs.2 ?_)
    rintro x w'' ⟨v, rfl, hx, hv⟩
    exact ⟨v, rfl, k _ _ (hs.1.trans hx) hv⟩
  · exact hs.elim

theorem gw_nil (h : GX Q N w0 L .normal e) : GW P ops Q N w0 L [] e := ⟨fun w s => wpList_nil (h.h w s)⟩
theorem gw_det {c : Value} (hd : Det P ops N w0 L o e c) (k : GW P ops Q N w0 L rest (updO e o.dst c)) : GW P ops Q N w0 L (o :: rest) e := ⟨fun w s => by
  rcases hd with ⟨hw, hs⟩ | ⟨hw, rfl⟩
  · exact wl_step hw (hs w s) fun v w' x hv => by subst hv; exact k.h w' (s.ext x)
  · exact wl_not hw (k.h w s)⟩

theorem det_not (hw : wantedE N ops e o = false) : Det P ops N w0 L o e undef := .inr ⟨hw, rfl⟩
theorem det_pure {c : Value} (hw : wantedE N ops e o = true) (hr : ∀ w, (execOp (ev N e) o).run P w = .ok (.value c) w) : Det P ops N w0 L o e c :=
  .inl ⟨hw, fun w _ => by unfold Step; rw [hr w]; exact ⟨Ext.refl _, rfl⟩⟩
theorem det_eq {c c' : Value} (h : Det P ops N w0 L o e c) (hc : c = c') : Det P ops N w0 L o e c' := hc ▸ h
theorem det_int {k : IntKind} {x y : Int} (hw : wantedE N ops e o = true) (hr : ∀ w, (execOp (ev N e) o).run P w = .ok (.value (.int k x)) w) (hx : x = y) : Det P ops N w0 L o e (.int k y) :=
  hx ▸ det_pure hw hr
theorem det_enter {c : Value} {f : FuncId} {args : Array Value} (hw : wantedE N ops e o = true) (hr : ∀ w, (execOp (ev N e) o).run P w = .ok (.enter f args) w)
    (hC : ∀ w, St w0 L w → Ok P f args w fun v _ => v = c) : Det P ops N w0 L o e c :=
  .inl ⟨hw, fun w s => by unfold Step; rw [hr w]; exact ⟨Ext.refl _, hC w s⟩⟩

theorem guard_split {d : Nat} {b : Bool} {F : Env → Prop} (hb : e d = .bool b) (ht : b = true → F (upd e d (.bool true))) (hf : b = false → F (upd e d (.bool false))) : F e := by
  have key : ∀ v, e d = v → upd e d v = e := fun v hv => by
    funext i
    rw [upd_apply]
    split
    · rename_i h; rw [h]; exact hv.symm
    · rfl
  cases b with
  | true => have := ht rfl; rwa [key _ hb] at this
  | false => have := hf rfl; rwa [key _ hb] at this

/-! ### A region that draws its order: each operation's value is known, whatever ran before -/
inductive GD (P : Program) (ops : Array Oper) (N : Nat) (w0 : World) (L : List Res) (tail : Env → Prop) : List Oper → Env → Prop
  | nil {e : Env} : tail e → GD P ops N w0 L tail [] e
  | cons {o : Oper} {rest : List Oper} {e : Env} (c : Value) : Det P ops N w0 L o e c → GD P ops N w0 L tail rest (updO e o.dst c) → GD P ops N w0 L tail (o :: rest) e

theorem gd_nil {tail : Env → Prop} (h : tail e) : GD P ops N w0 L tail [] e := .nil h
theorem gd_det {tail : Env → Prop} {c : Value} (hd : Det P ops N w0 L o e c) (k : GD P ops N w0 L tail rest (updO e o.dst c)) : GD P ops N w0 L tail (o :: rest) e := .cons c hd k
end
end Go.Proofs.YteiboodeepjanaaGreat

/- Regions that draw their order, loops, entering and leaving a function. No program in sight. -/
namespace Go.Proofs.YteiboodeepjanaaGreat
open Go.RowKit

section
variable {P : Program} {ops : Array Oper} {Q : Exit → Act → World → Prop} {N : Nat} {w0 : World} {L : List Res} {rest : List Oper} {e : Env} {o : Oper}

/-! ### Regions that draw -/
def bindsOn (o : Oper) (j : Nat) : Bool := o.after.any fun x => Region.binds .any x && x.on == j

def opOk (ops : Array Oper) (k i : Nat) (o : Oper) : Bool :=
  (o.after.all fun x => !Region.binds .any x || Nat.blt x.on i) && (match o.op with | .select .. => false | _ => true) &&
  (bif Nat.blt i k then
     (List.range k).all fun j => match (ops[j]?).bind (·.dst) with
       | none => true
       | some d => (Nat.beq j i || o.dst != some d) && (!(o.looksAt ops).contains d || (Nat.blt j i && bindsOn o j))
   else (List.range k).all (bindsOn o ·) && (Nat.beq i k || bindsOn o (i - 1)))

def drawOk (ops : Array Oper) (k : Nat) : Bool :=
  Nat.ble k ops.size && (List.range ops.size).all fun i => match ops[i]? with
    | none => true
    | some o => opOk ops k i o

/-- The frame after the first i operations of the text. -/
def envAt (e : Env) : List Oper → List Value → Env
  | o :: l, c :: cs => envAt (updO e o.dst c) l cs
  | _, _ => e

theorem gd_vals {tail : Env → Prop} : ∀ (l : List Oper) (e : Env), GD P ops N w0 L tail l e →
    ∃ cs : List Value, cs.length = l.length ∧ (∀ (i : Nat) (o : Oper), l[i]? = some o → ∃ c, cs[i]? = some c ∧ Det P ops N w0 L o (envAt e (l.take i) (cs.take i)) c) ∧ tail (envAt e l cs)
  | [], e, .nil h => ⟨[], rfl, fun i o h => by simp at h, h⟩
  | x :: l, e, .cons c hd h => by
    obtain ⟨cs, hl, hi, ht⟩ := gd_vals l _ h
    refine ⟨c :: cs, by simp [hl], fun i o ho => ?_, ht⟩
    cases i with
    | zero =>
      simp only [List.getElem?_cons_zero, Option.some.injEq] at ho
      subst ho
      exact ⟨c, rfl, hd⟩
    | succ i => exact hi i o ho

/-- What a slot holds after the first operations: the value of the one that writes it, or what it held. -/
theorem envAt_spec : ∀ (l : List Oper) (cs : List Value) (e : Env) (t : Nat), cs.length = l.length →
    (∀ (i j : Nat) (oi oj : Oper), l[i]? = some oi → l[j]? = some oj → oi.dst = some t → oj.dst = some t → i = j) →
    ((∀ (i : Nat) (oi : Oper), l[i]? = some oi → oi.dst ≠ some t) → envAt e l cs t = e t) ∧ (∀ (i : Nat) (oi : Oper) (c : Value), l[i]? = some oi → oi.dst = some t → cs[i]? = some c → envAt e l cs t = c)
  | [], _, _, _, _, _ => ⟨fun _ => rfl, fun i oi c h => by simp at h⟩
  | x :: l, [], _, _, h, _ => by simp at h
  | x :: l, c :: cs, e, t, h, hu => by
    have hu' : ∀ (i j : Nat) (oi oj : Oper), l[i]? = some oi → l[j]? = some oj → oi.dst = some t → oj.dst = some t → i = j := fun i j oi oj h1 h2 h3 h4 => by
      have := hu (i + 1) (j + 1) oi oj (by simpa using h1) (by simpa using h2) h3 h4
      omega
    obtain ⟨g1, g2⟩ := envAt_spec l cs (updO e x.dst c) t (by simpa using h) hu'
    refine ⟨fun hn => ?_, fun i oi c' ho hd hc => ?_⟩
    · show envAt (updO e x.dst c) l cs t = e t
      rw [g1 fun i oi hi => hn (i + 1) oi (by simpa using hi)]
      have hx := hn 0 x rfl
      cases hxd : x.dst with
      | none => rfl
      | some d =>
        show upd e d c t = e t
        rw [upd_apply, if_neg]
        intro heq
        exact hx (by rw [hxd, heq])
    · show envAt (updO e x.dst c) l cs t = c'
      cases i with
      | zero =>
        simp only [List.getElem?_cons_zero, Option.some.injEq] at ho hc
        subst ho hc
        rw [g1]
        · rw [hd]
          show upd e t c t = c
          rw [upd_apply, if_pos rfl]
        · intro i oi hi hd'
          have := hu 0 (i + 1) x oi rfl (by simpa using hi) hd hd'
          omega
      | succ i => exact g2 i oi c' (by simpa using ho) hd (by simpa using hc)

theorem step_congr {ρ ρ' : Operand → Value} {w : World} {φ : Value → World → Prop} (hs : ∀ cs b, o.op ≠ .select cs b) (h : ∀ x ∈ o.op.operands, ρ x = ρ' x) (hh : Step P ρ o w φ) : Step P ρ' o w φ := by
  unfold Step at *
  rwa [← execOp_congr o hs h]

theorem looks_operand {t : Nat} (h : .tmp t ∈ o.op.operands) : t ∈ o.looksAt ops := by
  unfold Oper.looksAt
  exact List.mem_append.2 (.inl (List.mem_filterMap.2 ⟨.tmp t, Array.mem_toList_iff.2 h, rfl⟩))

theorem looks_guard {j d : Nat} {want : Bool} (h : o.guard = some (j, want)) (hd : (ops[j]?).bind (·.dst) = some d) : d ∈ o.looksAt ops := by
  unfold Oper.looksAt
  refine List.mem_append.2 (.inr ?_)
  rw [h]
  simp [hd]

/-- What an operation gives hangs on the slots that it looks at alone. -/
theorem det_congr {e e' : Env} {c : Value} (hs : ∀ cs b, o.op ≠ .select cs b) (h : ∀ t ∈ o.looksAt ops, e t = e' t) (hd : Det P ops N w0 L o e c) : Det P ops N w0 L o e' c := by
  have hw : wantedE N ops e o = wantedE N ops e' o := by
    unfold wantedE
    cases hg : o.guard with
    | none => rfl
    | some g =>
      obtain ⟨j, want⟩ := g
      cases hj : (ops[j]?).bind (·.dst) with
      | none => simp only [hj]
      | some d => simp only [hj, h d (looks_guard hg hj)]
  unfold Det at *
  rw [← hw]
  refine hd.imp (fun ⟨h1, h2⟩ => ⟨h1, fun w s => step_congr hs (fun x hx => ?_) (h2 w s)⟩) id
  cases x with
  | tmp t =>
    show (bif Nat.blt t N then e t else undef) = (bif Nat.blt t N then e' t else undef)
    rw [h t (looks_operand hx)]
  | const v => rfl
  | global g => rfl
  | func f => rfl

theorem det_wpOp {i : Nat} {c : Value} {K : Act → World → Prop} {w : World} (hi : ops[i]? = some o) (hd : Det P ops N w0 L o e c) (s : St w0 L w)
    (k : ∀ w', St w0 L w' → K (mk N (updO e o.dst c)) w') : wpOp P ops Q i K (mk N e) w := by
  unfold wpOp
  simp only [hi]
  rcases hd with ⟨hw, hs⟩ | ⟨hw, rfl⟩
  · rw [if_pos (by rw [wanted_mk]; exact hw)]
    refine .inl ?_
    have h := hs w s
    unfold Oper.wp
    rw [mk_eval]
    unfold Step at h
    split at h
    · rename_i hr
      rw [hr]
      show K ((mk N e).put o.dst _) _
      rw [mk_put, h.2]
      exact k _ (s.ext h.1)
    · rename_i hr
      rw [hr]
      show K ((mk N e).put o.dst undef) _
      rw [mk_put, h.2]
      exact k _ (s.ext h.1)
    · rename_i hr
      rw [hr]
      refine Calls.mono h.2 ?_
      rintro x w'' ⟨v, rfl, hx, rfl⟩
      show K ((mk N e).put o.dst v) w''
      rw [mk_put]
      exact k _ (s.ext (h.1.trans hx))
    · exact h.elim
  · rw [if_neg (by rw [wanted_mk, hw]; simp), mk_put]
    exact k _ s

theorem opOk_of {k : Nat} (h : drawOk ops k = true) {i : Nat} (hi : ops[i]? = some o) : opOk ops k i o = true := by
  unfold drawOk at h
  rw [Bool.and_eq_true, List.all_eq_true] at h
  have := h.2 i (List.mem_range.2 (Array.getElem?_eq_some_iff.1 hi).1)
  simpa [hi] using this

theorem opOk_edges {k i : Nat} (h : opOk ops k i o = true) : ∀ x ∈ o.after, Region.binds .any x = true → x.on < i := by
  unfold opOk at h
  rw [Bool.and_eq_true, Bool.and_eq_true, Array.all_eq_true_iff_forall_mem] at h
  intro x hx hb
  have := h.1.1 x hx
  rw [hb] at this
  simpa using this

theorem opOk_select {k i : Nat} (h : opOk ops k i o = true) : ∀ cs b, o.op ≠ .select cs b := by
  unfold opOk at h
  rw [Bool.and_eq_true, Bool.and_eq_true] at h
  intro cs b heq
  have := h.1.2
  rw [heq] at this
  simp at this

theorem opOk_first {k i : Nat} (h : opOk ops k i o = true) (hik : i < k) {j d : Nat} (hj : j < k) (hd : (ops[j]?).bind (·.dst) = some d) :
    (j = i ∨ o.dst ≠ some d) ∧ (d ∈ o.looksAt ops → j < i ∧ bindsOn o j = true) := by
  unfold opOk at h
  rw [Bool.and_eq_true] at h
  have h2 := h.2
  have hlt : Nat.blt i k = true := by rw [Nat.blt_eq]; exact hik
  rw [hlt] at h2
  simp only [cond_true, List.all_eq_true, List.mem_range] at h2
  have h3 := h2 j hj
  simp only [hd, Bool.and_eq_true, Bool.or_eq_true, Bool.not_eq_true', bne_iff_ne, Nat.blt_eq] at h3
  refine ⟨h3.1.imp (fun h => Nat.eq_of_beq_eq_true h) id, fun hl => ?_⟩
  rcases h3.2 with h4 | h4
  · have : (o.looksAt ops).contains d = true := List.contains_iff_mem.2 hl
    rw [this] at h4
    cases h4
  · exact h4

theorem opOk_rest {k i : Nat} (h : opOk ops k i o = true) (hik : ¬ i < k) : (∀ j, j < k → bindsOn o j = true) ∧ (i = k ∨ bindsOn o (i - 1) = true) := by
  unfold opOk at h
  rw [Bool.and_eq_true] at h
  have h2 := h.2
  have hb : Nat.blt i k = false := by rw [← Bool.not_eq_true, Nat.blt_eq]; exact hik
  rw [hb] at h2
  simp only [cond_false, Bool.and_eq_true, List.all_eq_true, List.mem_range, Bool.or_eq_true] at h2
  exact ⟨h2.1, h2.2.imp (fun h => Nat.eq_of_beq_eq_true h) id⟩

theorem bindsOn_listed {j : Nat} {listed : Array Bool} (h : bindsOn o j = true) (hall : ∀ x ∈ o.after, Region.binds .any x = true → listed.getD x.on false = true) : listed.getD j false = true := by
  unfold bindsOn at h
  obtain ⟨x, hx, hb⟩ := Array.any_eq_true'.1 h
  simp only [Bool.and_eq_true, beq_iff_eq] at hb
  rw [← hb.2]
  exact hall x hx hb.1

/-- The operations from k on, one after the other. -/
theorem any_rest {k : Nat} (hok : drawOk ops k = true) : ∀ (fuel m : Nat) (listed : Array Bool) (a : Act) (w : World), k ≤ m → m + fuel = ops.size → listed.size = ops.size →
    (∀ i, i < ops.size → listed.getD i true = decide (i < m)) → wpList P ops Q (ops.toList.drop m) a w → wpAny P .any ops Q fuel listed a w := by
  intro fuel
  induction fuel with
  | zero =>
    intro m listed a w hkm hm hsz hl h
    have hready : Region.ready .any ops listed = [] := by
      rw [List.eq_nil_iff_forall_not_mem]
      intro j hj
      obtain ⟨h0, o, ho, _⟩ := mem_ready.1 hj
      have hlt := (Array.getElem?_eq_some_iff.1 ho).1
      rw [hl j hlt] at h0
      simp at h0
      omega
    rw [List.drop_eq_nil_of_le (by simp; omega)] at h
    exact ⟨hready, h⟩
  | succ fuel ih =>
    intro m listed a w hkm hm hsz hl h
    have hlt : m < ops.size := by omega
    have hom : ops[m]? = some ops[m] := Array.getElem?_eq_getElem hlt
    have hdrop : ops.toList.drop m = ops[m] :: ops.toList.drop (m + 1) := by
      rw [List.drop_eq_getElem_cons (by simpa using hlt)]
      simp
    have hlist : ∀ i, listed.getD i false = decide (i < m) := fun i => by
      by_cases hi : i < ops.size
      · have := hl i hi
        rw [← this]
        have hi' : i < listed.size := by omega
        simp [hi']
      · have hi' : ¬ i < listed.size := by omega
        simp [hi']
        omega
    have hmem : m ∈ Region.ready .any ops listed := by
      rw [mem_ready]
      refine ⟨by rw [hl m hlt]; simp, _, hom, fun x hx hb => ?_⟩
      have := opOk_edges (opOk_of hok hom) x hx hb
      rw [hlist]
      simpa using this
    refine ⟨fun h0 => (by rw [h0] at hmem; cases hmem), fun j hj => ?_⟩
    have hjm : j = m := by
      obtain ⟨h0, oj, hoj, hall⟩ := mem_ready.1 hj
      have hjlt := (Array.getElem?_eq_some_iff.1 hoj).1
      rw [hl j hjlt] at h0
      simp at h0
      rcases (opOk_rest (opOk_of hok hoj) (by omega)).2 with h1 | h1
      · omega
      · have := bindsOn_listed h1 hall
        rw [hlist] at this
        simp at this
        omega
    subst hjm
    rw [hdrop] at h
    unfold wpList at h
    unfold wpOp
    simp only [hom]
    have hnext : ∀ a w, wpList P ops Q (ops.toList.drop (j + 1)) a w → wpAny P .any ops Q fuel (listed.setIfInBounds j true) a w := fun a w h => by
      refine ih (j + 1) _ a w (by omega) (by omega) (by simpa using hsz) (fun i hi => ?_) h
      by_cases hij : j = i
      · subst hij
        have : j < listed.size := by omega
        simp [this]
      · rw [getD_set_ne true hij, hl i hi]
        simp
        omega
    split
    · rename_i hw
      rw [if_pos hw] at h
      exact h.imp (Oper.wp_mono hnext) id
    · rename_i hw
      rw [if_neg hw] at h
      exact hnext _ _ h

/-- How many are listed. -/
def listedCount (listed : Array Bool) (n : Nat) : Nat := ((List.range n).filter fun i => listed.getD i false).length

theorem count_succ (listed : Array Bool) (n : Nat) : listedCount listed (n + 1) = listedCount listed n + if listed.getD n false = true then 1 else 0 := by
  unfold listedCount
  rw [List.range_succ, List.filter_append, List.length_append]
  congr 1
  rw [List.filter_cons]
  split <;> rfl

theorem count_set {listed : Array Bool} {i : Nat} (hi : i < listed.size) (h : listed.getD i false = false) : ∀ n, listedCount (listed.setIfInBounds i true) n = listedCount listed n + if i < n then 1 else 0 := by
  intro n
  induction n with
  | zero => simp [listedCount]
  | succ n ih =>
    rw [count_succ, count_succ, ih]
    by_cases hin : i = n
    · subst hin
      have h1 : (listed.setIfInBounds i true).getD i false = true := by
        rw [Array.getD_eq_getD_getElem?, Array.getElem?_setIfInBounds_self_of_lt hi]; rfl
      rw [h1, h]
      simp
    · have h1 : (listed.setIfInBounds i true).getD n false = listed.getD n false := getD_set_ne false hin
      rw [h1]
      have h2 : (i < n + 1) ↔ (i < n) := by omega
      simp only [h2]
      omega

theorem count_le (listed : Array Bool) (n : Nat) : listedCount listed n ≤ n := by
  unfold listedCount
  exact Nat.le_trans (List.length_filter_le _ _) (by simp)

theorem count_all {listed : Array Bool} : ∀ n, listedCount listed n = n → ∀ i, i < n → listed.getD i false = true := by
  intro n
  unfold listedCount
  intro h i hi
  have := List.length_filter_eq_length_iff.1 (h.trans (by simp : n = (List.range n).length))
  exact this i (List.mem_range.2 hi)

theorem any_first {k : Nat} (hok : drawOk ops k = true) {cs : List Value} {e : Env} (hcs : cs.length = k)
    (hdet : ∀ (i : Nat) (o : Oper), ops[i]? = some o → i < k → ∃ c, cs[i]? = some c ∧ Det P ops N w0 L o (envAt e (ops.toList.take i) (cs.take i)) c)
    (htail : GW P ops Q N w0 L (ops.toList.drop k) (envAt e (ops.toList.take k) cs)) :
    ∀ (fuel : Nat) (listed : Array Bool) (e' : Env) (w : World), listed.size = ops.size → listedCount listed ops.size + fuel = ops.size → (∀ i, k ≤ i → listed.getD i false = false) →
      (∀ (i : Nat) (o : Oper) (d : Nat) (c : Value), i < k → listed.getD i false = true → ops[i]? = some o → o.dst = some d → cs[i]? = some c → e' d = c) →
      (∀ t, (∀ (i : Nat) (o : Oper), i < k → listed.getD i false = true → ops[i]? = some o → o.dst ≠ some t) → e' t = e t) →
      St w0 L w → wpAny P .any ops Q fuel listed (mk N e') w := by
  have hkn : k ≤ ops.size := by
    unfold drawOk at hok
    rw [Bool.and_eq_true] at hok
    exact Nat.le_of_ble_eq_true hok.1
  have huniq : ∀ (i j : Nat) (oi oj : Oper) (d : Nat), i < k → j < k → ops[i]? = some oi → ops[j]? = some oj → oi.dst = some d → oj.dst = some d → i = j := fun i j oi oj d hi hj hoi hoj hdi hdj => by
    have := (opOk_first (opOk_of hok hoi) hi hj (d := d) (by simp [hoj, hdj])).1
    rcases this with h | h
    · exact h.symm
    · exact absurd hdi h
  have hspec : ∀ i, i ≤ k → ∀ t, ((∀ (j : Nat) (oj : Oper), j < i → ops[j]? = some oj → oj.dst ≠ some t) → envAt e (ops.toList.take i) (cs.take i) t = e t) ∧
      (∀ (j : Nat) (oj : Oper) (c : Value), j < i → ops[j]? = some oj → oj.dst = some t → cs[j]? = some c → envAt e (ops.toList.take i) (cs.take i) t = c) := fun i hi t => by
    have hget : ∀ (j : Nat) (oj : Oper), (ops.toList.take i)[j]? = some oj ↔ j < i ∧ ops[j]? = some oj := fun j oj => by
      rw [List.getElem?_take]
      by_cases hji : j < i
      · simp [hji]
      · simp [hji]
    have h := envAt_spec (ops.toList.take i) (cs.take i) e t (by simp; omega) (fun a b oa ob ha hb hda hdb => by
      obtain ⟨ha1, ha2⟩ := (hget a oa).1 ha
      obtain ⟨hb1, hb2⟩ := (hget b ob).1 hb
      exact huniq a b oa ob t (by omega) (by omega) ha2 hb2 hda hdb)
    refine ⟨fun hn => h.1 fun j oj hj => hn j oj ((hget j oj).1 hj).1 ((hget j oj).1 hj).2, fun j oj c hji hoj hd hc => h.2 j oj c ((hget j oj).2 ⟨hji, hoj⟩) hd ?_⟩
    rw [List.getElem?_take, if_pos hji]
    exact hc
  intro fuel
  induction fuel with
  | zero =>
    intro listed e' w hsz hcnt hrest hval hold s
    have hall := count_all ops.size (by omega : listedCount listed ops.size = ops.size)
    by_cases hk : k < ops.size
    · have h1 := hall k hk
      rw [hrest k (Nat.le_refl _)] at h1
      cases h1
    · have hkeq : k = ops.size := by omega
      have he : e' = envAt e (ops.toList.take k) cs := by
        funext t
        have hs := hspec k (Nat.le_refl _) t
        rw [List.take_of_length_le (by omega : cs.length ≤ k)] at hs
        by_cases hex : ∃ j oj, j < k ∧ ops[j]? = some oj ∧ oj.dst = some t
        · obtain ⟨j, oj, hj, hoj, hd⟩ := hex
          obtain ⟨c, hc⟩ : ∃ c, cs[j]? = some c := ⟨cs[j], List.getElem?_eq_getElem (by omega)⟩
          rw [hval j oj t c hj (hall j (by omega)) hoj hd hc, hs.2 j oj c hj hoj hd hc]
        · rw [hold t fun i oi hi _ hoi hd => hex ⟨i, oi, hi, hoi, hd⟩, hs.1 fun j oj hj hoj hd => hex ⟨j, oj, hj, hoj, hd⟩]
      have hw := htail.h w s
      rw [← he] at hw
      exact any_rest hok 0 k listed _ w (Nat.le_refl _) (by omega) hsz (fun i hi => by
        have h1 := hall i hi
        have hi' : i < listed.size := by omega
        simp only [Array.getD_eq_getD_getElem?, hi', getElem?_pos, Option.getD_some] at h1 ⊢
        rw [h1]
        simp
        omega) hw
  | succ fuel ih =>
    intro listed e' w hsz hcnt hrest hval hold s
    by_cases hfirst : ∃ i, i < k ∧ listed.getD i false = false
    · -- some operation of the first k is not listed: the least such one is ready
      have hleast : ∃ i, (i < k ∧ listed.getD i false = false) ∧ ∀ j, j < i → j < k → listed.getD j false = true := by
        obtain ⟨n, hn, hmin⟩ := exists_least hfirst
        refine ⟨n, hn, fun j hj hjk => ?_⟩
        cases hb : listed.getD j false with
        | true => rfl
        | false => have := hmin j ⟨hjk, hb⟩; omega
      obtain ⟨i0, ⟨hi0, hun0⟩, hmin⟩ := hleast
      have hi0n : i0 < ops.size := by omega
      have hready0 : i0 ∈ Region.ready .any ops listed := by
        rw [mem_ready]
        refine ⟨?_, _, Array.getElem?_eq_getElem hi0n, fun x hx hb => ?_⟩
        · have : i0 < listed.size := by omega
          simpa [this] using hun0
        · have := opOk_edges (opOk_of hok (Array.getElem?_eq_getElem hi0n)) x hx hb
          exact hmin x.on this (by omega)
      refine ⟨fun h0 => (by rw [h0] at hready0; cases hready0), fun i hi => ?_⟩
      obtain ⟨hun, oi, hoi, hall⟩ := mem_ready.1 hi
      have hilt := (Array.getElem?_eq_some_iff.1 hoi).1
      have hilt' : i < listed.size := by omega
      have hun' : listed.getD i false = false := by simpa [hilt'] using hun
      have hik : i < k := by
        rcases Nat.lt_or_ge i k with h | h
        · exact h
        · have := bindsOn_listed ((opOk_rest (opOk_of hok hoi) (by omega)).1 i0 hi0) hall
          rw [hun0] at this
          cases this
      obtain ⟨c, hc, hd⟩ := hdet i oi hoi hik
      have hsame : ∀ t ∈ oi.looksAt ops, envAt e (ops.toList.take i) (cs.take i) t = e' t := fun t ht => by
        have hs := hspec i (by omega) t
        by_cases hex : ∃ j oj, j < k ∧ ops[j]? = some oj ∧ oj.dst = some t
        · obtain ⟨j, oj, hj, hoj, hdj⟩ := hex
          obtain ⟨hji, hbd⟩ := (opOk_first (opOk_of hok hoi) hik hj (d := t) (by simp [hoj, hdj])).2 ht
          obtain ⟨cj, hcj⟩ : ∃ c, cs[j]? = some c := ⟨cs[j], List.getElem?_eq_getElem (by omega)⟩
          rw [hs.2 j oj cj hji hoj hdj hcj, hval j oj t cj hj (bindsOn_listed hbd hall) hoj hdj hcj]
        · rw [hs.1 fun j oj hj hoj hd => hex ⟨j, oj, by omega, hoj, hd⟩, hold t fun j oj hj _ hoj hd => hex ⟨j, oj, hj, hoj, hd⟩]
      have hd' := det_congr (opOk_select (opOk_of hok hoi)) hsame hd
      refine det_wpOp hoi hd' s fun w' s' => ?_
      have hset : ∀ j, (listed.setIfInBounds i true).getD j false = if i = j then true else listed.getD j false := fun j => by
        by_cases hij : i = j
        · subst hij; simp [hilt']
        · rw [getD_set_ne false hij, if_neg hij]
      refine ih _ _ w' (by simpa using hsz) ?_ (fun j hj => ?_) (fun j oj d cj hj hl hoj hdj hcj => ?_) (fun t ht => ?_) s'
      · rw [count_set hilt' hun', if_pos hilt]; omega
      · rw [hset, if_neg (by omega)]; exact hrest j hj
      · rw [hset] at hl
        by_cases hij : i = j
        · subst hij
          rw [hoi] at hoj
          injection hoj with hoj
          subst hoj
          rw [hc] at hcj
          injection hcj with hcj
          subst hcj
          rw [hdj]
          show upd e' d c d = c
          rw [upd_apply, if_pos rfl]
        · rw [if_neg hij] at hl
          have := hval j oj d cj hj hl hoj hdj hcj
          cases hdi : oi.dst with
          | none => exact this
          | some d' =>
            show upd e' d' c d = cj
            rw [upd_apply, if_neg]
            · exact this
            · intro heq
              subst heq
              exact hij (huniq i j oi oj d hik hj hoi hoj hdi hdj)
      · have h1 : e' t = e t := hold t fun j oj hj hl hoj => ht j oj hj (by rw [hset, hl]; split <;> rfl) hoj
        have h2 := ht i oi hik (by rw [hset, if_pos rfl]) hoi
        cases hdi : oi.dst with
        | none => exact h1
        | some d' =>
          show upd e' d' c t = e t
          rw [upd_apply, if_neg]
          · exact h1
          · intro heq
            exact h2 (by rw [hdi, heq])
    · -- all of the first k are listed
      have hlist : ∀ i, i < k → listed.getD i false = true := fun i hi => by
        cases hb : listed.getD i false with
        | true => rfl
        | false => exact absurd ⟨i, hi, hb⟩ hfirst
      have he : e' = envAt e (ops.toList.take k) cs := by
        funext t
        have hs := hspec k (Nat.le_refl _) t
        rw [List.take_of_length_le (by omega : cs.length ≤ k)] at hs
        by_cases hex : ∃ j oj, j < k ∧ ops[j]? = some oj ∧ oj.dst = some t
        · obtain ⟨j, oj, hj, hoj, hd⟩ := hex
          obtain ⟨c, hc⟩ : ∃ c, cs[j]? = some c := ⟨cs[j], List.getElem?_eq_getElem (by omega)⟩
          rw [hval j oj t c hj (hlist j hj) hoj hd hc, hs.2 j oj c hj hoj hd hc]
        · rw [hold t fun i oi hi _ hoi hd => hex ⟨i, oi, hi, hoi, hd⟩, hs.1 fun j oj hj hoj hd => hex ⟨j, oj, hj, hoj, hd⟩]
      have hcount : listedCount listed ops.size = k := by
        have hsplit : ∀ n, (∀ i, k ≤ i → listed.getD i false = false) → (∀ i, i < k → listed.getD i false = true) → listedCount listed n = min n k := by
          intro n h1 h2
          induction n with
          | zero => simp [listedCount]
          | succ n ihn =>
            rw [count_succ, ihn]
            by_cases hnk : n < k
            · rw [h2 n hnk]; simp; omega
            · rw [h1 n (by omega)]; simp; omega
        rw [hsplit _ hrest hlist]; omega
      have hw := htail.h w s
      rw [← he] at hw
      refine any_rest hok (fuel + 1) k listed _ w (Nat.le_refl _) (by omega) hsz (fun i hi => ?_) hw
      have hi' : i < listed.size := by omega
      by_cases hik : i < k
      · have h1 := hlist i hik
        simp only [Array.getD_eq_getD_getElem?, hi', getElem?_pos, Option.getD_some] at h1 ⊢
        rw [h1]; simp [hik]
      · have h1 := hrest i (by omega)
        simp only [Array.getD_eq_getD_getElem?, hi', getElem?_pos, Option.getD_some] at h1 ⊢
        rw [h1]; simp [hik]

/-- A REGION THAT DRAWS: the first k operations give known values, in whatever order; the rest come after them, one after the other. -/
theorem gc_draw {id : Nat} {l : List Oper} (k : Nat) (hm : P.follows .mixedOrders = true) (hok : drawOk l.toArray k = true)
    (h : GD P l.toArray N w0 L (fun e' => GW P l.toArray Q N w0 L (l.drop k) e') (l.take k) e) : GC P Q N w0 L (.region id l.toArray true) e := ⟨fun w s => by
  obtain ⟨cs, hl, hdet, htail⟩ := gd_vals _ _ h
  have hkn : k ≤ l.length := by
    unfold drawOk at hok
    rw [Bool.and_eq_true] at hok
    simpa using Nat.le_of_ble_eq_true hok.1
  have hlk : cs.length = k := by rw [hl, List.length_take]; omega
  refine wp_region_any hm (any_first hok hlk (fun i o hi hik => ?_) htail l.toArray.size _ e _ (by simp) ?_ ?_ ?_ (fun _ _ => rfl) (s.ext (Ext.drawn w _)))
  · obtain ⟨c, hc, hd⟩ := hdet i o (by rw [List.getElem?_take, if_pos hik]; simpa using hi)
    refine ⟨c, hc, ?_⟩
    rw [List.take_take, Nat.min_eq_left (by omega)] at hd
    exact hd
  · have : listedCount (Array.replicate l.toArray.size false) l.toArray.size = 0 := by
      unfold listedCount
      rw [List.length_eq_zero_iff, List.filter_eq_nil_iff]
      intro i _
      by_cases hi : i < l.length <;> simp [hi]
    omega
  · intro i _
    by_cases hi : i < l.length <;> simp [hi]
  · intro i o d c _ hl'
    by_cases hi : i < l.length <;> simp [hi] at hl'⟩

/-! ### Loops -/
def havoc (wr : List Nat) (e base : Env) : Env := fun i => bif wr.elem i then base i else e i
def sets : List (Nat × Value) → Env → Env
  | [], e => e
  | p :: l, e => upd (sets l e) p.1 p.2
def Ats : List (Nat × Value) → Env → Prop
  | [], _ => True
  | p :: l, e => e p.1 = p.2 ∧ Ats l e
def Keeps (wr : List Nat) (e e' : Env) : Prop := ∀ i, wr.elem i = false → e' i = e i

theorem Keeps.refl {wr : List Nat} {e : Env} : Keeps wr e e := fun _ _ => rfl
theorem Keeps.upd {wr : List Nat} {e e' : Env} {d : Nat} {v : Value} (hd : wr.elem d = true) (h : Keeps wr e e') : Keeps wr e (upd e' d v) := fun i hi => by
  rw [upd_apply, if_neg]
  · exact h i hi
  · rintro rfl
    rw [hd] at hi
    cases hi
theorem Keeps.updO {wr : List Nat} {e e' : Env} {d : Option Nat} {v : Value} (hd : (match d with | some d => wr.elem d | none => true) = true) (h : Keeps wr e e') : Keeps wr e (updO e' d v) := by
  cases d with
  | none => exact h
  | some d => exact Keeps.upd hd h
theorem Keeps.havoc {wr wr' : List Nat} {e e' base : Env} (hs : wr'.all (wr.elem ·) = true) (h : Keeps wr e e') : Keeps wr e (havoc wr' e' base) := fun i hi => by
  unfold Go.Proofs.YteiboodeepjanaaGreat.havoc
  have : wr'.elem i = false := by
    cases hw : wr'.elem i with
    | false => rfl
    | true =>
      have := List.all_eq_true.1 hs i (List.elem_iff.1 hw)
      rw [hi] at this
      cases this
  rw [this]
  exact h i hi
theorem Keeps.sets {wr : List Nat} {e e' : Env} : ∀ {l : List (Nat × Value)}, l.all (wr.elem ·.1) = true → Keeps wr e e' → Keeps wr e (sets l e')
  | [], _, h => h
  | p :: l, hs, h => by
    rw [List.all_cons, Bool.and_eq_true] at hs
    exact Keeps.upd hs.1 (Keeps.sets hs.2 h)

theorem sets_ats : ∀ {l : List (Nat × Value)} {e : Env}, Ats l e → sets l e = e
  | [], _, _ => rfl
  | p :: l, e, h => by
    show upd (sets l e) p.1 p.2 = e
    rw [sets_ats h.2]
    funext i
    rw [upd_apply]
    split
    · rename_i hi; rw [hi]; exact h.1.symm
    · rfl
theorem havoc_keeps {wr : List Nat} {e e' : Env} (h : Keeps wr e e') : havoc wr e e' = e' := by
  funext i
  unfold havoc
  cases hi : wr.elem i with
  | true => rfl
  | false => exact (h i hi).symm

/-- What a round hands on. -/
def Rnd {σ : Type} (N : Nat) (w0 : World) (wr : List Nat) (e : Env) (S : σ → List (Nat × Value)) (K : σ → List Res) (I : σ → Prop) (μ : σ → Nat) (m : Nat) (a : Act) (w : World) : Prop :=
  ∃ s e', a = mk N e' ∧ I s ∧ μ s < m ∧ Keeps wr e e' ∧ Ats (S s) e' ∧ St w0 (K s) w

/-- A LOOP: the slots that its body writes, what they hold at a round's head by the ghost s, what is owned, what is known, a measure. -/
theorem gc_loop {σ : Type} {c : Code} (wr : List Nat) (S : σ → List (Nat × Value)) (K : σ → List Res) (I : σ → Prop) (μ : σ → Nat) (s0 : σ) (hI : I s0) (hA : Ats (S s0) e) (hK : Sub L (K s0))
    (round : ∀ s base, I s → GC P (Exit.then (Rnd N w0 wr e S K I μ (μ s)) Q) N w0 (K s) c (sets (S s) (havoc wr e base))) : GC P Q N w0 L (.loop c) e := ⟨fun w s => by
  refine wp_loop_ghost (fun n a w => ∃ s e', a = mk N e' ∧ I s ∧ μ s = n ∧ Keeps wr e e' ∧ Ats (S s) e' ∧ St w0 (K s) w) (μ s0) ⟨s0, e, rfl, hI, rfl, Keeps.refl, hA, St.sub hK s⟩ ?_
  rintro n a w ⟨s, e', rfl, hI, rfl, hk, ha, hs⟩
  have h := (round s e' hI).h w hs
  rw [havoc_keeps hk, sets_ats ha] at h
  refine wp_mono h ?_
  intro x a' w' hq
  cases x with
  | normal =>
    obtain ⟨s', e'', h1, h2, h3, h4, h5, h6⟩ := hq
    exact ⟨μ s', h3, s', e'', h1, h2, rfl, h4, h5, h6⟩
  | exit id => exact hq
  | goto l => exact hq
  | ret => exact hq
  | panic ch => exact hq
  | outgrown => exact hq⟩

theorem gx_round {σ : Type} {wr : List Nat} {e0 : Env} {S : σ → List (Nat × Value)} {K : σ → List Res} {I : σ → Prop} {μ : σ → Nat} {m : Nat} (s : σ) (hI : I s) (hm : μ s < m) (hk : Keeps wr e0 e) (hA : Ats (S s) e)
    (hK : Sub L (K s)) : GX (Exit.then (Rnd N w0 wr e0 S K I μ m) Q) N w0 L .normal e := ⟨fun _ st => ⟨s, e, rfl, hI, hm, hk, hA, St.sub hK st⟩⟩

/-! ### Entering and leaving -/
def argE : Nat → List Value → Env
  | _, [] => fun _ => undef
  | k, v :: l => upd (argE (k + 1) l) k v

theorem argE_apply : ∀ (l : List Value) (k i : Nat), argE k l i = if k ≤ i then l.getD (i - k) undef else undef
  | [], k, i => by simp [argE]
  | v :: l, k, i => by
    show upd (argE (k + 1) l) k v i = _
    rw [upd_apply, argE_apply l (k + 1) i]
    by_cases h : i = k
    · subst h; simp
    · by_cases hk : k ≤ i
      · have : i - k = (i - (k + 1)) + 1 := by omega
        rw [if_neg h, if_pos (by omega), if_pos hk, this]
        simp
      · rw [if_neg h, if_neg (by omega), if_neg hk]

/-- The post of a body. -/
def Post (P : Program) (fn : Func) (w0 : World) (φ : Value → World → Prop) : Exit → Act → World → Prop := bodyPost P fn fun x w' => ∃ v, x = .returned v ∧ Ext w0 w' ∧ φ v w'

theorem ok_enter {f : FuncId} {fn : Func} {c : Code} {l : List Value} {w : World} {φ : Value → World → Prop} (hf : P.funcs[f]? = some fn) (hb : fn.body = some c) (hN : fn.ntmps = N) (hs : Nat.ble l.length N = true)
    (h : GC P (Post P fn w φ) N w [] c (argE 0 l)) : Ok P f l.toArray w φ := by
  refine calls_of_wp hf hb ?_
  have hle : l.toArray.size ≤ N := by simpa using Nat.le_of_ble_eq_true hs
  rw [hN, mk_args N l.toArray hle]
  have he : (fun i => l.toArray.getD i undef) = argE 0 l := by
    funext i
    rw [argE_apply]
    simp
  rw [he]
  exact h.h w (St.init w)

theorem gx_ret {fn : Func} {φ : Value → World → Prop} {v : Value} (hr : ∀ w, St w0 L w → (results fn (mk N e).tmps).run P w = .ok v w) (h : ∀ w, St w0 L w → φ v w) :
    GX (Post P fn w0 φ) N w0 L .ret e := ⟨fun w s => ⟨rfl, v, hr w s, v, rfl, s.below, h w s⟩⟩
theorem gx_ret1 {fn : Func} {φ : Value → World → Prop} {v : Value} {t : Nat} (hres : fn.results = #[.tmp t]) (hv : ev N e (.tmp t) = v) (h : ∀ w, St w0 L w → φ v w) :
    GX (Post P fn w0 φ) N w0 L .ret e :=
  gx_ret (fun w _ => by rw [results_tmp hres, mk_getD]; exact congrArg (Result.ok · w) hv) h
theorem gx_ret2 {fn : Func} {φ : Value → World → Prop} {u v : Value} {t s : Nat} (hres : fn.results = #[.tmp t, .tmp s]) (hu : ev N e (.tmp t) = u) (hv : ev N e (.tmp s) = v) (h : ∀ w, St w0 L w → φ (.tuple #[u, v]) w) :
    GX (Post P fn w0 φ) N w0 L .ret e :=
  gx_ret (fun w _ => by rw [results_tmp2 hres, mk_getD, mk_getD]; subst hu hv; rfl) h
theorem gx_ret3 {fn : Func} {φ : Value → World → Prop} {u v x : Value} {t s r : Nat} (hres : fn.results = #[.tmp t, .tmp s, .tmp r]) (hu : ev N e (.tmp t) = u) (hv : ev N e (.tmp s) = v) (hx : ev N e (.tmp r) = x)
    (h : ∀ w, St w0 L w → φ (.tuple #[u, v, x]) w) : GX (Post P fn w0 φ) N w0 L .ret e :=
  gx_ret (fun w _ => by
    have g := fun t => mk_getD N e t
    simp only [Array.getD_eq_getD_getElem?] at g
    simp only [results, hres]; subst hu hv hx; simp [ev, g]) h
end

/-! ### A goal that the walk leaves as it is (a mark for the tool that records steps) -/
structure Leaf (p : Prop) : Prop where
  h : p
section
variable {P : Program} {ops : Array Oper} {Q : Exit → Act → World → Prop} {N : Nat} {w0 : World} {L : List Res} {rest : List Oper} {e : Env} {c : Code} {x : Exit} {tail : Env → Prop}
theorem leafW (h : Leaf (GW P ops Q N w0 L rest e)) : GW P ops Q N w0 L rest e := h.h
theorem leafC (h : Leaf (GC P Q N w0 L c e)) : GC P Q N w0 L c e := h.h
theorem leafX (h : Leaf (GX Q N w0 L x e)) : GX Q N w0 L x e := h.h
theorem leafD (h : Leaf (GD P ops N w0 L tail rest e)) : GD P ops N w0 L tail rest e := h.h
theorem unleaf {p : Prop} (h : p) : Leaf p := ⟨h⟩
end
end Go.Proofs.YteiboodeepjanaaGreat

