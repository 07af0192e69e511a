/- Texts in one file: FwA FwT FwC FwS FwH. -/
import Derived.Tactics
import Derived.Below
import Derived.Orders
import Derived.Maps.AppendAt
import Derived.Deep.LoopGhost
import Derived.Calls
import GoSem.Dispatch
import Derived.Laws.MakeOwn
import Derived.Great.BuildSlice
import Derived.Maps.RangeRun
set_option maxRecDepth 100000
set_option maxHeartbeats 8000000
namespace Go.Proofs.YtafbfldjcikmcaaGreat
open Go.RowKit
abbrev Env := Nat → Value
def upd (e : Env) (d : Nat) (v : Value) : Env := fun i => bif Nat.beq i d then v else e i
def updO (e : Env) (o : Option Nat) (v : Value) : Env := match o with | some d => upd e d v | none => e
def mk (N : Nat) (e : Env) : Act := ⟨Array.ofFn (n := N) (fun i => e i.1), []⟩
def ev (N : Nat) (e : Env) : Operand → Value
 | .tmp t => bif Nat.blt t N then e t else undef
 | .const v => v
 | .global g => .pointer (some ⟨g, 0, none⟩)
 | .func f => .func (.func f) #[] #[]

theorem mk_getD (N : Nat) (e : Env) (t : Nat) : (mk N e).tmps.getD t undef = bif Nat.blt t N then e t else undef := by
 by_cases h : t < N
 ·have : Nat.blt t N = true := by rw [Nat.blt_eq]; exact h
  simp [mk, this, h]
 ·have : Nat.blt t N = false := by rw [← Bool.not_eq_true, Nat.blt_eq]; exact h
  simp [mk, this, h]

theorem mk_eval (N : Nat) (e : Env) : (mk N e).eval = ev N e := by
 funext x
 cases x with
 | tmp t => exact mk_getD N e t
 | const v => rfl
 | global g => rfl
 | func f => rfl

theorem upd_apply (e : Env) (d : Nat) (v : Value) (i : Nat) : upd e d v i = if i = d then v else e i := by
 unfold upd
 by_cases h : i = d
 ·simp [h]
 ·have : Nat.beq i d = false := by rw [← Bool.not_eq_true]; intro hb; exact h (Nat.eq_of_beq_eq_true hb)
  simp [h, this]

theorem mk_put (N : Nat) (e : Env) (d : Option Nat) (v : Value) : (mk N e).put d v = mk N (updO e d v) := by
 cases d with
 | none => rfl
 | some d =>
  show (⟨(mk N e).tmps.setIfInBounds d v, []⟩ : Act) = _
  unfold mk updO
  congr 1
  apply Array.ext
  ·simp
  ·intro i h1 h2
   simp only [Array.size_setIfInBounds, Array.size_ofFn] at h1
   rw [Array.getElem_setIfInBounds (by simpa using h1)]
   simp only [Array.getElem_ofFn, upd_apply]
   by_cases hdi : d = i
   ·simp [hdi]
   ·simp [hdi, Ne.symm hdi]

theorem mk_args (N : Nat) (args : Array Value) (h : args.size ≤ N) :
  (⟨args ++ Array.replicate (N - args.size) undef, []⟩ : Act) = mk N (fun i => args.getD i undef) := by
 unfold mk
 congr 1
 apply Array.ext
 ·simp; omega
 ·intro i h1 h2
  simp only [Array.getElem_ofFn]
  simp only [Array.size_append, Array.size_replicate] at h1
  by_cases hi : i < args.size
  ·rw [Array.getElem_append_left hi]; simp [hi]
  ·rw [Array.getElem_append_right (by omega)]; simp [hi]

/-- Nothing that is there in w has turned in w'. -/
def Ext (w w' : World) : Prop := Below w.heap.size w w'
theorem Ext.refl (w : World) : Ext w w := Below.refl _ _
theorem Ext.trans {a b c : World} (h : Ext a b) (k : Ext b c) : Ext a c := Below.trans h (Below.mono k h.size)
theorem Ext.drawn (w : World) (n : Nat) : Ext w { w with drawn := n } := ⟨rfl, rfl, rfl, Nat.le_refl _, fun _ _ => rfl⟩
theorem Ext.push (w : World) (o : Obj) : Ext w { w with heap := w.heap.push o } :=
 ⟨rfl, rfl, rfl, by simp, fun k hk => by rw [Array.getElem?_push, if_neg (by omega)]⟩

/-- A call that returns, keeps all that was there, and whose result meets φ. -/
def Ok (P : Program) (f : FuncId) (args : Array Value) (w : World) (φ : Value → World → Prop) : Prop :=
 Calls P f args w fun x w' => ∃ v, x = .returned v ∧ Ext w w' ∧ φ v w'

theorem Ok.mono {P : Program} {f : FuncId} {args : Array Value} {w : World} {φ ψ : Value → World → Prop} (h : Ok P f args w φ)
  (hi : ∀ v w', Ext w w' → φ v w' → ψ v w') : Ok P f args w ψ :=
 Calls.mono h fun _ _ ⟨v, e, x, p⟩ => ⟨v, e, x, hi v _ x p⟩

structure Res where
 fp : Nat → Prop
 p : World → Prop
 stable : ∀ w w', (∀ b, fp b → w'.heap[b]? = w.heap[b]?) → p w → p w'

def Sep (B : Nat) : List Res → World → Prop
 | [], _ => True
 | r :: L, w => r.p w ∧ (∀ b, r.fp b → B ≤ b ∧ b < w.heap.size) ∧ (∀ b, r.fp b → ∀ q ∈ L, ¬ q.fp b) ∧ Sep B L w

theorem Sep.fp {B : Nat} : ∀ {L : List Res} {w : World}, Sep B L w → ∀ r ∈ L, ∀ b, r.fp b → B ≤ b ∧ b < w.heap.size
 | _ :: _, _, h, r, hr, b, hb => by
  rcases List.mem_cons.1 hr with rfl | hr
  ·exact h.2.1 b hb
  ·exact Sep.fp h.2.2.2 r hr b hb

/-- What is held stays held where the footprints have not turned. -/
theorem Sep.keep {B : Nat} : ∀ {L : List Res} {w w' : World}, Sep B L w → w.heap.size ≤ w'.heap.size → (∀ b, (∃ r ∈ L, r.fp b) → w'.heap[b]? = w.heap[b]?) → Sep B L w'
 | [], _, _, _, _, _ => trivial
 | r :: _, _, _, h, hs, hk =>
  ⟨r.stable _ _ (fun b hb => hk b ⟨r, List.mem_cons_self, hb⟩) h.1, fun b hb => ⟨(h.2.1 b hb).1, Nat.lt_of_lt_of_le (h.2.1 b hb).2 hs⟩, h.2.2.1,
   Sep.keep h.2.2.2 hs fun b ⟨q, hq, hb⟩ => hk b ⟨q, List.mem_cons_of_mem _ hq, hb⟩⟩

structure St (w0 : World) (L : List Res) (w : World) : Prop where
 below : Below w0.heap.size w0 w
 sep : Sep w0.heap.size L w

theorem St.init (w : World) : St w [] w := ⟨Below.refl _ _, trivial⟩

theorem St.ext {w0 w w' : World} {L : List Res} (h : St w0 L w) (x : Ext w w') : St w0 L w' :=
 ⟨h.below.trans (x.mono h.below.size), h.sep.keep x.size fun b ⟨r, hr, hb⟩ => x.block b (h.sep.fp r hr b hb).2⟩

theorem St.add {w0 w w' : World} {L : List Res} {r : Res} (h : St w0 L w) (x : Ext w w') (hp : r.p w') (hf : ∀ b, r.fp b → w.heap.size ≤ b ∧ b < w'.heap.size) : St w0 (r :: L) w' :=
 ⟨(h.ext x).below, hp, fun b hb => ⟨Nat.le_trans h.below.size (hf b hb).1, (hf b hb).2⟩, fun b hb q hq hqb => by
  have := (h.sep.fp q hq b hqb).2
  have := (hf b hb).1
  omega, (h.ext x).sep⟩

/-- L is r together with L', in some order. -/
inductive Pick : List Res → Res → List Res → Prop
 | here {r : Res} {L : List Res} : Pick (r :: L) r L
 | there {q r : Res} {L L' : List Res} : Pick L r L' → Pick (q :: L) r (q :: L')

theorem Pick.mem {L L' : List Res} {r : Res} (h : Pick L r L') : ∀ q, q ∈ L ↔ q = r ∨ q ∈ L' := by
 induction h with
 | here => intro q; simp
 | there _ ih => intro q; simp only [List.mem_cons, ih]; constructor <;> (intro h; rcases h with h | h | h <;> simp [h])

theorem Pick.sep {B : Nat} {L L' : List Res} {r : Res} {w : World} (h : Pick L r L') (hs : Sep B L w) : Sep B (r :: L') w := by
 induction h with
 | here => exact hs
 | @there q r L L' hp ih =>
  obtain ⟨h1, h2, h3, h4⟩ := hs
  obtain ⟨g1, g2, g3, g4⟩ := ih h4
  refine ⟨g1, g2, fun b hb x hx hxb => ?_, h1, h2, fun b hb x hx => h3 b hb x ((hp.mem x).2 (.inr hx)), g4⟩
  rcases List.mem_cons.1 hx with rfl | hx
  ·exact h3 b hxb r ((hp.mem r).2 (.inl rfl)) hb
  ·exact g3 b hb x hx hxb

theorem St.pick {w0 w : World} {L L' : List Res} {r : Res} (h : St w0 L w) (p : Pick L r L') : St w0 (r :: L') w := ⟨h.below, p.sep h.sep⟩
theorem St.drop {w0 w : World} {L : List Res} {r : Res} (h : St w0 (r :: L) w) : St w0 L w := ⟨h.below, h.sep.2.2.2⟩
theorem St.head {w0 w : World} {L : List Res} {r : Res} (h : St w0 (r :: L) w) : r.p w := h.sep.1

/-- The head resource is turned into another one; the world changes inside its footprint, or grows, alone. -/
theorem St.turn {w0 w w' : World} {L : List Res} {r r' : Res} (h : St w0 (r :: L) w) (hs : w.heap.size ≤ w'.heap.size) (ho : w'.os = w.os) (ht : w'.tape = w.tape) (hu : w'.output = w.output)
  (hb : ∀ b, b < w.heap.size → ¬ r.fp b → w'.heap[b]? = w.heap[b]?) (hp : r'.p w') (hf : ∀ b, r'.fp b → r.fp b ∨ (w.heap.size ≤ b ∧ b < w'.heap.size)) : St w0 (r' :: L) w' := by
 obtain ⟨hB, h1, h2, h3, h4⟩ := h
 have hL : ∀ b, (∃ q ∈ L, q.fp b) → w'.heap[b]? = w.heap[b]? := fun b ⟨q, hq, hqb⟩ => hb b (h4.fp q hq b hqb).2 fun hr => h3 b hr q hq hqb
 refine ⟨hB.trans ⟨ho, ht, hu, hs, fun b hlt => hb b (Nat.lt_of_lt_of_le hlt hB.size) fun hr => ?_⟩, hp, fun b hr => ?_, fun b hr q hq hqb => ?_, h4.keep hs hL⟩
 ·have := (h2 b hr).1; omega
 ·rcases hf b hr with h | h
  ·exact ⟨(h2 b h).1, Nat.lt_of_lt_of_le (h2 b h).2 hs⟩
  ·exact ⟨Nat.le_trans hB.size h.1, h.2⟩
 ·rcases hf b hr with h | h
  ·exact h3 b h q hq hqb
  ·have := (h4.fp q hq b hqb).2; omega

/-- K is a part of L. -/
inductive Sub : List Res → List Res → Prop
 | nil {L : List Res} : Sub L []
 | cons {L L' K : List Res} {r : Res} : Pick L r L' → Sub L' K → Sub L (r :: K)

theorem Sub.mem {L K : List Res} (h : Sub L K) : ∀ q ∈ K, q ∈ L := by
 induction h with
 | nil => intro q hq; cases hq
 | cons p _ ih =>
  intro q hq
  rcases List.mem_cons.1 hq with rfl | hq
  ·exact (p.mem _).2 (.inl rfl)
  ·exact (p.mem _).2 (.inr (ih q hq))
theorem Sub.sep {B : Nat} {L K : List Res} {w : World} (h : Sub L K) : Sep B L w → Sep B K w := by
 induction h with
 | nil => intro _; trivial
 | cons p s ih =>
  intro hs
  obtain ⟨h1, h2, h3, h4⟩ := p.sep hs
  exact ⟨h1, h2, fun b hb q hq => h3 b hb q (s.mem q hq), ih h4⟩
theorem St.sub {w0 w : World} {L K : List Res} (s : Sub L K) (h : St w0 L w) : St w0 K w := ⟨h.below, s.sep h.sep⟩

/-- A variable of the function's own: a block that is known whole. -/
def Box (b : Nat) (t : TypeId) (cs : Array Value) : Res := ⟨fun x => x = b, fun w => w.heap[b]? = some (.cells cs t (0, 0)), fun _ _ h p => (h b rfl).trans p⟩

structure GW (P : Program) (ops : Array Oper) (Q : Exit → Act → World → Prop) (N : Nat) (w0 : World) (L : List Res) (rest : List Oper) (e : Env) : Prop where
 h : ∀ w, St w0 L w → wpList P ops Q rest (mk N e) w
structure GC (P : Program) (Q : Exit → Act → World → Prop) (N : Nat) (w0 : World) (L : List Res) (c : Code) (e : Env) : Prop where
 h : ∀ w, St w0 L w → Code.wp P c Q (mk N e) w
structure GX (Q : Exit → Act → World → Prop) (N : Nat) (w0 : World) (L : List Res) (x : Exit) (e : Env) : Prop where
 h : ∀ w, St w0 L w → Q x (mk N e) w

section
variable {P : Program} {ops : Array Oper} {Q : Exit → Act → World → Prop} {N : Nat} {w0 : World} {L : List Res} {rest : List Oper} {e : Env} {o : Oper}

theorem gc_seq {x y : Code} (h : GC P (Exit.then (y.wp P Q) Q) N w0 L x e) : GC P Q N w0 L (.seq x y) e := ⟨fun w s => wp_seq (h.h w s)⟩
theorem gc_block {id : Nat} {c : Code} (h : GC P (Exit.inBlock id Q) N w0 L c e) : GC P Q N w0 L (.block id c) e := ⟨fun w s => wp_block (h.h w s)⟩
theorem gc_skip (h : GX Q N w0 L .normal e) : GC P Q N w0 L .skip e := ⟨fun w s => wp_skip (h.h w s)⟩
theorem gc_exit {id : Nat} (h : GX Q N w0 L (.exit id) e) : GC P Q N w0 L (.exit id) e := ⟨fun w s => wp_exit (h.h w s)⟩
theorem gc_ret (h : GX Q N w0 L .ret e) : GC P Q N w0 L .ret e := ⟨fun w s => wp_ret (h.h w s)⟩
theorem gc_region {id : Nat} {l : List Oper} (h : GW P l.toArray Q N w0 L l e) : GC P Q N w0 L (.region id l.toArray false) e := ⟨fun w s => wp_region_lit (h.h w s)⟩
theorem gc_if {c : Operand} {x y : Code} {t : Bool} (hc : ev N e c = .bool t) (ht : t = true → GC P Q N w0 L x e) (hf : t = false → GC P Q N w0 L y e) : GC P Q N w0 L (.cond c x y) e := ⟨fun w s =>
 wp_cond_split (by rw [mk_eval]; exact hc) (fun h => (ht h).h w s) (fun h => (hf h).h w s)⟩
theorem gc_if_true {c : Operand} {x y : Code} (hc : ev N e c = .bool true) (h : GC P Q N w0 L x e) : GC P Q N w0 L (.cond c x y) e := gc_if hc (fun _ => h) (fun h => by cases h)
theorem gc_if_false {c : Operand} {x y : Code} (hc : ev N e c = .bool false) (h : GC P Q N w0 L y e) : GC P Q N w0 L (.cond c x y) e := gc_if hc (fun h => by cases h) (fun _ => h)
theorem gc_if_dec {c : Operand} {x y : Code} {p : Prop} [Decidable p] (hc : ev N e c = .bool (decide p)) (ht : p → GC P Q N w0 L x e) (hf : ¬ p → GC P Q N w0 L y e) : GC P Q N w0 L (.cond c x y) e :=
 gc_if hc (fun h => ht (of_decide_eq_true h)) (fun h => hf (of_decide_eq_false h))
theorem gx_next {y : Code} (h : GC P Q N w0 L y e) : GX (Exit.then (y.wp P Q) Q) N w0 L .normal e := ⟨h.h⟩
theorem gx_then_ret {next : Act → World → Prop} (h : GX Q N w0 L .ret e) : GX (Exit.then next Q) N w0 L .ret e := ⟨h.h⟩
theorem gx_then_exit {next : Act → World → Prop} {id : Nat} (h : GX Q N w0 L (.exit id) e) : GX (Exit.then next Q) N w0 L (.exit id) e := ⟨h.h⟩
theorem gx_block {id : Nat} (h : GX Q N w0 L .normal e) : GX (Exit.inBlock id Q) N w0 L .normal e := ⟨h.h⟩
theorem gx_block_ret {id : Nat} (h : GX Q N w0 L .ret e) : GX (Exit.inBlock id Q) N w0 L .ret e := ⟨h.h⟩
theorem gx_block_exit {id : Nat} (h : GX Q N w0 L .normal e) : GX (Exit.inBlock id Q) N w0 L (.exit id) e := ⟨fun w s => by
 simp only [Exit.inBlock, if_true]; exact h.h w s⟩
theorem gx_block_other {id id' : Nat} (hne : Nat.beq id' id = false) (h : GX Q N w0 L (.exit id') e) : GX (Exit.inBlock id Q) N w0 L (.exit id') e := ⟨fun w s => by
 have : ¬ id' = id := fun h => by rw [h, Nat.beq_refl] at hne; cases hne
 simp only [Exit.inBlock, this, if_false]; exact h.h w s⟩

def wantedE (N : Nat) (ops : Array Oper) (e : Env) (o : Oper) : Bool :=
 match o.guard with
 | none => true
 | some (j, want) => match (ops[j]?).bind (·.dst) with
  | some d => match bif Nat.blt d N then e d else undef with
   | .bool b => b == want
   | _ => false
  | none => false

theorem wanted_mk : Region.wanted o (yielded ops (mk N e).tmps) = wantedE N ops e o := by
 unfold Region.wanted wantedE
 cases hg : o.guard with
 | none => rfl
 | some g =>
  obtain ⟨j, want⟩ := g
  simp only [yielded]
  cases hd : (ops[j]?).bind (·.dst) with
  | none => rfl
  | some d =>
   simp only [Option.bind_some]
   by_cases h : d < N
   ·have hb : Nat.blt d N = true := by rw [Nat.blt_eq]; exact h
    have hget : (mk N e).tmps[d]? = some (e d) := by simp [mk, h]
    rw [hget, hb]
    simp only [cond_true]
    cases e d <;> rfl
   ·have hb : Nat.blt d N = false := by rw [← Bool.not_eq_true, Nat.blt_eq]; exact h
    have hget : (mk N e).tmps[d]? = none := by simp [mk, h]
    rw [hget, hb]
    rfl

theorem wl_run {w w' : World} {v : Value} (hw : wantedE N ops e o = true) (hr : (execOp (ev N e) o).run P w = .ok (.value v) w') (k : wpList P ops Q rest (mk N (updO e o.dst v)) w') :
  wpList P ops Q (o :: rest) (mk N e) w := by
 refine wpList_step fun K hK => ?_
 rw [if_pos (by rw [wanted_mk]; exact hw)]
 unfold Oper.wp
 rw [mk_eval, hr]
 show K ((mk N e).put o.dst v) w'
 rw [mk_put]
 exact hK _ _ k

theorem wl_skip_run {w w' : World} (hw : wantedE N ops e o = true) (hr : (execOp (ev N e) o).run P w = .ok .skip w') (k : wpList P ops Q rest (mk N (updO e o.dst undef)) w') :
  wpList P ops Q (o :: rest) (mk N e) w := by
 refine wpList_step fun K hK => ?_
 rw [if_pos (by rw [wanted_mk]; exact hw)]
 unfold Oper.wp
 rw [mk_eval, hr]
 show K ((mk N e).put o.dst undef) w'
 rw [mk_put]
 exact hK _ _ k

theorem wl_enter {w w' : World} {f : FuncId} {args : Array Value} (hw : wantedE N ops e o = true) (hr : (execOp (ev N e) o).run P w = .ok (.enter f args) w')
  (k : Calls P f args w' fun x w'' => ∃ v, x = .returned v ∧ wpList P ops Q rest (mk N (updO e o.dst v)) w'') : wpList P ops Q (o :: rest) (mk N e) w := by
 refine wpList_step fun K hK => ?_
 rw [if_pos (by rw [wanted_mk]; exact hw)]
 unfold Oper.wp
 rw [mk_eval, hr]
 refine Calls.mono k ?_
 rintro x w'' ⟨v, rfl, h⟩
 show K ((mk N e).put o.dst v) w''
 rw [mk_put]
 exact hK _ _ h

theorem wl_not {w : World} (hw : wantedE N ops e o = false) (k : wpList P ops Q rest (mk N (updO e o.dst undef)) w) : wpList P ops Q (o :: rest) (mk N e) w := by
 refine wpList_step fun K hK => ?_
 rw [if_neg (by rw [wanted_mk, hw]; simp), mk_put]
 exact hK _ _ k

/-- What the operation gives is known, and nothing that was there turns. -/
def Step (P : Program) (ρ : Operand → Value) (o : Oper) (w : World) (φ : Value → World → Prop) : Prop :=
 match (execOp ρ o).run P w with
 | .ok (.value v) w' => Ext w w' ∧ φ v w'
 | .ok .skip w' => Ext w w' ∧ φ undef w'
 | .ok (.enter f args) w' => Ext w w' ∧ Ok P f args w' φ
 | _ => False

/-- The operation gives c at whatever world that holds L. -/
def Det (P : Program) (ops : Array Oper) (N : Nat) (w0 : World) (L : List Res) (o : Oper) (e : Env) (c : Value) : Prop :=
 (wantedE N ops e o = true ∧ ∀ w, St w0 L w → Step P (ev N e) o w fun v _ => v = c) ∨ (wantedE N ops e o = false ∧ c = undef)

theorem wl_step {w : World} {φ : Value → World → Prop} (hw : wantedE N ops e o = true) (hs : Step P (ev N e) o w φ)
  (k : ∀ v w', Ext w w' → φ v w' → wpList P ops Q rest (mk N (updO e o.dst v)) w') : wpList P ops Q (o :: rest) (mk N e) w := by
 unfold Step at hs
 split at hs
 ·rename_i hr; exact wl_run hw hr (k _ _ hs.1 hs.2)
 ·rename_i hr; exact wl_skip_run hw hr (k _ _ hs.1 hs.2)
 ·rename_i hr
  refine wl_enter hw hr (Calls.mono hs.2 ?_)
  rintro x w'' ⟨v, rfl, hx, hv⟩
  exact ⟨v, rfl, k _ _ (hs.1.trans hx) hv⟩
 ·exact hs.elim

theorem gw_nil (h : GX Q N w0 L .normal e) : GW P ops Q N w0 L [] e := ⟨fun w s => wpList_nil (h.h w s)⟩
theorem gw_det {c : Value} (hd : Det P ops N w0 L o e c) (k : GW P ops Q N w0 L rest (updO e o.dst c)) : GW P ops Q N w0 L (o :: rest) e := ⟨fun w s => by
 rcases hd with ⟨hw, hs⟩ | ⟨hw, rfl⟩
 ·exact wl_step hw (hs w s) fun v w' x hv => by subst hv; exact k.h w' (s.ext x)
 ·exact wl_not hw (k.h w s)⟩

theorem det_not (hw : wantedE N ops e o = false) : Det P ops N w0 L o e undef := .inr ⟨hw, rfl⟩
theorem det_pure {c : Value} (hw : wantedE N ops e o = true) (hr : ∀ w, (execOp (ev N e) o).run P w = .ok (.value c) w) : Det P ops N w0 L o e c :=
 .inl ⟨hw, fun w _ => by unfold Step; rw [hr w]; exact ⟨Ext.refl _, rfl⟩⟩
theorem det_eq {c c' : Value} (h : Det P ops N w0 L o e c) (hc : c = c') : Det P ops N w0 L o e c' := hc ▸ h
theorem det_enter {c : Value} {f : FuncId} {args : Array Value} (hw : wantedE N ops e o = true) (hr : ∀ w, (execOp (ev N e) o).run P w = .ok (.enter f args) w)
  (hC : ∀ w, St w0 L w → Ok P f args w fun v _ => v = c) : Det P ops N w0 L o e c :=
 .inl ⟨hw, fun w s => by unfold Step; rw [hr w]; exact ⟨Ext.refl _, hC w s⟩⟩

theorem guard_split {d : Nat} {b : Bool} {F : Env → Prop} (hb : e d = .bool b) (ht : b = true → F (upd e d (.bool true))) (hf : b = false → F (upd e d (.bool false))) : F e := by
 have key : ∀ v, e d = v → upd e d v = e := fun v hv => by
  funext i
  rw [upd_apply]
  split
  ·rename_i h; rw [h]; exact hv.symm
  ·rfl
 cases b with
 | true => have := ht rfl; rwa [key _ hb] at this
 | false => have := hf rfl; rwa [key _ hb] at this

inductive GD (P : Program) (ops : Array Oper) (N : Nat) (w0 : World) (L : List Res) (tail : Env → Prop) : List Oper → Env → Prop
 | nil {e : Env} : tail e → GD P ops N w0 L tail [] e
 | cons {o : Oper} {rest : List Oper} {e : Env} (c : Value) : Det P ops N w0 L o e c → GD P ops N w0 L tail rest (updO e o.dst c) → GD P ops N w0 L tail (o :: rest) e

theorem gd_nil {tail : Env → Prop} (h : tail e) : GD P ops N w0 L tail [] e := .nil h
theorem gd_det {tail : Env → Prop} {c : Value} (hd : Det P ops N w0 L o e c) (k : GD P ops N w0 L tail rest (updO e o.dst c)) : GD P ops N w0 L tail (o :: rest) e := .cons c hd k
end

/- Regions that draw their order, loops, entering and leaving a function. No program in sight. -/

section
variable {P : Program} {ops : Array Oper} {Q : Exit → Act → World → Prop} {N : Nat} {w0 : World} {L : List Res} {rest : List Oper} {e : Env} {o : Oper}

def bindsOn (o : Oper) (j : Nat) : Bool := o.after.any fun x => Region.binds .any x && x.on == j

def opOk (ops : Array Oper) (k i : Nat) (o : Oper) : Bool :=
 (o.after.all fun x => !Region.binds .any x || Nat.blt x.on i) && (match o.op with | .select .. => false | _ => true) &&
 (bif Nat.blt i k then
  (List.range k).all fun j => match (ops[j]?).bind (·.dst) with
   | none => true
   | some d => (Nat.beq j i || o.dst != some d) && (!(o.looksAt ops).contains d || (Nat.blt j i && bindsOn o j))
 else (List.range k).all (bindsOn o ·) && (Nat.beq i k || bindsOn o (i - 1)))

def drawOk (ops : Array Oper) (k : Nat) : Bool :=
 Nat.ble k ops.size && (List.range ops.size).all fun i => match ops[i]? with
  | none => true
  | some o => opOk ops k i o

/-- The frame after the first i operations of the text. -/
def envAt (e : Env) : List Oper → List Value → Env
 | o :: l, c :: cs => envAt (updO e o.dst c) l cs
 | _, _ => e

theorem gd_vals {tail : Env → Prop} : ∀ (l : List Oper) (e : Env), GD P ops N w0 L tail l e →
  ∃ cs : List Value, cs.length = l.length ∧ (∀ (i : Nat) (o : Oper), l[i]? = some o → ∃ c, cs[i]? = some c ∧ Det P ops N w0 L o (envAt e (l.take i) (cs.take i)) c) ∧ tail (envAt e l cs)
 | [], e, .nil h => ⟨[], rfl, fun i o h => by simp at h, h⟩
 | x :: l, e, .cons c hd h => by
  obtain ⟨cs, hl, hi, ht⟩ := gd_vals l _ h
  refine ⟨c :: cs, by simp [hl], fun i o ho => ?_, ht⟩
  cases i with
  | zero =>
   simp only [List.getElem?_cons_zero, Option.some.injEq] at ho
   subst ho
   exact ⟨c, rfl, hd⟩
  | succ i => exact hi i o ho

/-- What a slot holds after the first operations: the value of the one that writes it, or what it held. -/
theorem envAt_spec : ∀ (l : List Oper) (cs : List Value) (e : Env) (t : Nat), cs.length = l.length →
  (∀ (i j : Nat) (oi oj : Oper), l[i]? = some oi → l[j]? = some oj → oi.dst = some t → oj.dst = some t → i = j) →
  ((∀ (i : Nat) (oi : Oper), l[i]? = some oi → oi.dst ≠ some t) → envAt e l cs t = e t) ∧ (∀ (i : Nat) (oi : Oper) (c : Value), l[i]? = some oi → oi.dst = some t → cs[i]? = some c → envAt e l cs t = c)
 | [], _, _, _, _, _ => ⟨fun _ => rfl, fun i oi c h => by simp at h⟩
 | x :: l, [], _, _, h, _ => by simp at h
 | x :: l, c :: cs, e, t, h, hu => by
  have hu' : ∀ (i j : Nat) (oi oj : Oper), l[i]? = some oi → l[j]? = some oj → oi.dst = some t → oj.dst = some t → i = j := fun i j oi oj h1 h2 h3 h4 => by
   have := hu (i + 1) (j + 1) oi oj (by simpa using h1) (by simpa using h2) h3 h4
   omega
  obtain ⟨g1, g2⟩ := envAt_spec l cs (updO e x.dst c) t (by simpa using h) hu'
  refine ⟨fun hn => ?_, fun i oi c' ho hd hc => ?_⟩
  ·show envAt (updO e x.dst c) l cs t = e t
   rw [g1 fun i oi hi => hn (i + 1) oi (by simpa using hi)]
   have hx := hn 0 x rfl
   cases hxd : x.dst with
   | none => rfl
   | some d =>
    show upd e d c t = e t
    rw [upd_apply, if_neg]
    intro heq
    exact hx (by rw [hxd, heq])
  ·show envAt (updO e x.dst c) l cs t = c'
   cases i with
   | zero =>
    simp only [List.getElem?_cons_zero, Option.some.injEq] at ho hc
    subst ho hc
    rw [g1]
    ·rw [hd]
     show upd e t c t = c
     rw [upd_apply, if_pos rfl]
    ·intro i oi hi hd'
     have := hu 0 (i + 1) x oi rfl (by simpa using hi) hd hd'
     omega
   | succ i => exact g2 i oi c' (by simpa using ho) hd (by simpa using hc)

theorem step_congr {ρ ρ' : Operand → Value} {w : World} {φ : Value → World → Prop} (hs : ∀ cs b, o.op ≠ .select cs b) (h : ∀ x ∈ o.op.operands, ρ x = ρ' x) (hh : Step P ρ o w φ) : Step P ρ' o w φ := by
 unfold Step at *
 rwa [← execOp_congr o hs h]

theorem looks_operand {t : Nat} (h : .tmp t ∈ o.op.operands) : t ∈ o.looksAt ops := by
 unfold Oper.looksAt
 exact List.mem_append.2 (.inl (List.mem_filterMap.2 ⟨.tmp t, Array.mem_toList_iff.2 h, rfl⟩))

theorem looks_guard {j d : Nat} {want : Bool} (h : o.guard = some (j, want)) (hd : (ops[j]?).bind (·.dst) = some d) : d ∈ o.looksAt ops := by
 unfold Oper.looksAt
 refine List.mem_append.2 (.inr ?_)
 rw [h]
 simp [hd]

/-- What an operation gives hangs on the slots that it looks at alone. -/
theorem det_congr {e e' : Env} {c : Value} (hs : ∀ cs b, o.op ≠ .select cs b) (h : ∀ t ∈ o.looksAt ops, e t = e' t) (hd : Det P ops N w0 L o e c) : Det P ops N w0 L o e' c := by
 have hw : wantedE N ops e o = wantedE N ops e' o := by
  unfold wantedE
  cases hg : o.guard with
  | none => rfl
  | some g =>
   obtain ⟨j, want⟩ := g
   cases hj : (ops[j]?).bind (·.dst) with
   | none => simp only [hj]
   | some d => simp only [hj, h d (looks_guard hg hj)]
 unfold Det at *
 rw [← hw]
 refine hd.imp (fun ⟨h1, h2⟩ => ⟨h1, fun w s => step_congr hs (fun x hx => ?_) (h2 w s)⟩) id
 cases x with
 | tmp t =>
  show (bif Nat.blt t N then e t else undef) = (bif Nat.blt t N then e' t else undef)
  rw [h t (looks_operand hx)]
 | const v => rfl
 | global g => rfl
 | func f => rfl

theorem det_wpOp {i : Nat} {c : Value} {K : Act → World → Prop} {w : World} (hi : ops[i]? = some o) (hd : Det P ops N w0 L o e c) (s : St w0 L w)
  (k : ∀ w', St w0 L w' → K (mk N (updO e o.dst c)) w') : wpOp P ops Q i K (mk N e) w := by
 unfold wpOp
 simp only [hi]
 rcases hd with ⟨hw, hs⟩ | ⟨hw, rfl⟩
 ·rw [if_pos (by rw [wanted_mk]; exact hw)]
  refine .inl ?_
  have h := hs w s
  unfold Oper.wp
  rw [mk_eval]
  unfold Step at h
  split at h
  ·rename_i hr
   rw [hr]
   show K ((mk N e).put o.dst _) _
   rw [mk_put, h.2]
   exact k _ (s.ext h.1)
  ·rename_i hr
   rw [hr]
   show K ((mk N e).put o.dst undef) _
   rw [mk_put, h.2]
   exact k _ (s.ext h.1)
  ·rename_i hr
   rw [hr]
   refine Calls.mono h.2 ?_
   rintro x w'' ⟨v, rfl, hx, rfl⟩
   show K ((mk N e).put o.dst v) w''
   rw [mk_put]
   exact k _ (s.ext (h.1.trans hx))
  ·exact h.elim
 ·rw [if_neg (by rw [wanted_mk, hw]; simp), mk_put]
  exact k _ s

theorem opOk_of {k : Nat} (h : drawOk ops k = true) {i : Nat} (hi : ops[i]? = some o) : opOk ops k i o = true := by
 unfold drawOk at h
 rw [Bool.and_eq_true, List.all_eq_true] at h
 have := h.2 i (List.mem_range.2 (Array.getElem?_eq_some_iff.1 hi).1)
 simpa [hi] using this

theorem opOk_edges {k i : Nat} (h : opOk ops k i o = true) : ∀ x ∈ o.after, Region.binds .any x = true → x.on < i := by
 unfold opOk at h
 rw [Bool.and_eq_true, Bool.and_eq_true, Array.all_eq_true_iff_forall_mem] at h
 intro x hx hb
 have := h.1.1 x hx
 rw [hb] at this
 simpa using this

theorem opOk_select {k i : Nat} (h : opOk ops k i o = true) : ∀ cs b, o.op ≠ .select cs b := by
 unfold opOk at h
 rw [Bool.and_eq_true, Bool.and_eq_true] at h
 intro cs b heq
 have := h.1.2
 rw [heq] at this
 simp at this

theorem opOk_first {k i : Nat} (h : opOk ops k i o = true) (hik : i < k) {j d : Nat} (hj : j < k) (hd : (ops[j]?).bind (·.dst) = some d) :
  (j = i ∨ o.dst ≠ some d) ∧ (d ∈ o.looksAt ops → j < i ∧ bindsOn o j = true) := by
 unfold opOk at h
 rw [Bool.and_eq_true] at h
 have h2 := h.2
 have hlt : Nat.blt i k = true := by rw [Nat.blt_eq]; exact hik
 rw [hlt] at h2
 simp only [cond_true, List.all_eq_true, List.mem_range] at h2
 have h3 := h2 j hj
 simp only [hd, Bool.and_eq_true, Bool.or_eq_true, Bool.not_eq_true', bne_iff_ne, Nat.blt_eq] at h3
 refine ⟨h3.1.imp (fun h => Nat.eq_of_beq_eq_true h) id, fun hl => ?_⟩
 rcases h3.2 with h4 | h4
 ·have : (o.looksAt ops).contains d = true := List.contains_iff_mem.2 hl
  rw [this] at h4
  cases h4
 ·exact h4

theorem opOk_rest {k i : Nat} (h : opOk ops k i o = true) (hik : ¬ i < k) : (∀ j, j < k → bindsOn o j = true) ∧ (i = k ∨ bindsOn o (i - 1) = true) := by
 unfold opOk at h
 rw [Bool.and_eq_true] at h
 have h2 := h.2
 have hb : Nat.blt i k = false := by rw [← Bool.not_eq_true, Nat.blt_eq]; exact hik
 rw [hb] at h2
 simp only [cond_false, Bool.and_eq_true, List.all_eq_true, List.mem_range, Bool.or_eq_true] at h2
 exact ⟨h2.1, h2.2.imp (fun h => Nat.eq_of_beq_eq_true h) id⟩

theorem bindsOn_listed {j : Nat} {listed : Array Bool} (h : bindsOn o j = true) (hall : ∀ x ∈ o.after, Region.binds .any x = true → listed.getD x.on false = true) : listed.getD j false = true := by
 unfold bindsOn at h
 obtain ⟨x, hx, hb⟩ := Array.any_eq_true'.1 h
 simp only [Bool.and_eq_true, beq_iff_eq] at hb
 rw [← hb.2]
 exact hall x hx hb.1

/-- The operations from k on, one after the other. -/
theorem any_rest {k : Nat} (hok : drawOk ops k = true) : ∀ (fuel m : Nat) (listed : Array Bool) (a : Act) (w : World), k ≤ m → m + fuel = ops.size → listed.size = ops.size →
  (∀ i, i < ops.size → listed.getD i true = decide (i < m)) → wpList P ops Q (ops.toList.drop m) a w → wpAny P .any ops Q fuel listed a w := by
 intro fuel
 induction fuel with
 | zero =>
  intro m listed a w hkm hm hsz hl h
  have hready : Region.ready .any ops listed = [] := by
   rw [List.eq_nil_iff_forall_not_mem]
   intro j hj
   obtain ⟨h0, o, ho, _⟩ := mem_ready.1 hj
   have hlt := (Array.getElem?_eq_some_iff.1 ho).1
   rw [hl j hlt] at h0
   simp at h0
   omega
  rw [List.drop_eq_nil_of_le (by simp; omega)] at h
  exact ⟨hready, h⟩
 | succ fuel ih =>
  intro m listed a w hkm hm hsz hl h
  have hlt : m < ops.size := by omega
  have hom : ops[m]? = some ops[m] := Array.getElem?_eq_getElem hlt
  have hdrop : ops.toList.drop m = ops[m] :: ops.toList.drop (m + 1) := by
   rw [List.drop_eq_getElem_cons (by simpa using hlt)]
   simp
  have hlist : ∀ i, listed.getD i false = decide (i < m) := fun i => by
   by_cases hi : i < ops.size
   ·have := hl i hi
    rw [← this]
    have hi' : i < listed.size := by omega
    simp [hi']
   ·have hi' : ¬ i < listed.size := by omega
    simp [hi']
    omega
  have hmem : m ∈ Region.ready .any ops listed := by
   rw [mem_ready]
   refine ⟨by rw [hl m hlt]; simp, _, hom, fun x hx hb => ?_⟩
   have := opOk_edges (opOk_of hok hom) x hx hb
   rw [hlist]
   simpa using this
  refine ⟨fun h0 => (by rw [h0] at hmem; cases hmem), fun j hj => ?_⟩
  have hjm : j = m := by
   obtain ⟨h0, oj, hoj, hall⟩ := mem_ready.1 hj
   have hjlt := (Array.getElem?_eq_some_iff.1 hoj).1
   rw [hl j hjlt] at h0
   simp at h0
   rcases (opOk_rest (opOk_of hok hoj) (by omega)).2 with h1 | h1
   ·omega
   ·have := bindsOn_listed h1 hall
    rw [hlist] at this
    simp at this
    omega
  subst hjm
  rw [hdrop] at h
  unfold wpList at h
  unfold wpOp
  simp only [hom]
  have hnext : ∀ a w, wpList P ops Q (ops.toList.drop (j + 1)) a w → wpAny P .any ops Q fuel (listed.setIfInBounds j true) a w := fun a w h => by
   refine ih (j + 1) _ a w (by omega) (by omega) (by simpa using hsz) (fun i hi => ?_) h
   by_cases hij : j = i
   ·subst hij
    have : j < listed.size := by omega
    simp [this]
   ·rw [getD_set_ne true hij, hl i hi]
    simp
    omega
  split
  ·rename_i hw
   rw [if_pos hw] at h
   exact h.imp (Oper.wp_mono hnext) id
  ·rename_i hw
   rw [if_neg hw] at h
   exact hnext _ _ h

/-- How many are listed. -/
def listedCount (listed : Array Bool) (n : Nat) : Nat := ((List.range n).filter fun i => listed.getD i false).length

theorem count_succ (listed : Array Bool) (n : Nat) : listedCount listed (n + 1) = listedCount listed n + if listed.getD n false = true then 1 else 0 := by
 unfold listedCount
 rw [List.range_succ, List.filter_append, List.length_append]
 congr 1
 rw [List.filter_cons]
 split <;> rfl

theorem count_set {listed : Array Bool} {i : Nat} (hi : i < listed.size) (h : listed.getD i false = false) : ∀ n, listedCount (listed.setIfInBounds i true) n = listedCount listed n + if i < n then 1 else 0 := by
 intro n
 induction n with
 | zero => simp [listedCount]
 | succ n ih =>
  rw [count_succ, count_succ, ih]
  by_cases hin : i = n
  ·subst hin
   have h1 : (listed.setIfInBounds i true).getD i false = true := by
    rw [Array.getD_eq_getD_getElem?, Array.getElem?_setIfInBounds_self_of_lt hi]; rfl
   rw [h1, h]
   simp
  ·have h1 : (listed.setIfInBounds i true).getD n false = listed.getD n false := getD_set_ne false hin
   rw [h1]
   have h2 : (i < n + 1) ↔ (i < n) := by omega
   simp only [h2]
   omega

theorem count_all {listed : Array Bool} : ∀ n, listedCount listed n = n → ∀ i, i < n → listed.getD i false = true := by
 intro n
 unfold listedCount
 intro h i hi
 have := List.length_filter_eq_length_iff.1 (h.trans (by simp : n = (List.range n).length))
 exact this i (List.mem_range.2 hi)

theorem any_first {k : Nat} (hok : drawOk ops k = true) {cs : List Value} {e : Env} (hcs : cs.length = k)
  (hdet : ∀ (i : Nat) (o : Oper), ops[i]? = some o → i < k → ∃ c, cs[i]? = some c ∧ Det P ops N w0 L o (envAt e (ops.toList.take i) (cs.take i)) c)
  (htail : GW P ops Q N w0 L (ops.toList.drop k) (envAt e (ops.toList.take k) cs)) :
  ∀ (fuel : Nat) (listed : Array Bool) (e' : Env) (w : World), listed.size = ops.size → listedCount listed ops.size + fuel = ops.size → (∀ i, k ≤ i → listed.getD i false = false) →
   (∀ (i : Nat) (o : Oper) (d : Nat) (c : Value), i < k → listed.getD i false = true → ops[i]? = some o → o.dst = some d → cs[i]? = some c → e' d = c) →
   (∀ t, (∀ (i : Nat) (o : Oper), i < k → listed.getD i false = true → ops[i]? = some o → o.dst ≠ some t) → e' t = e t) →
   St w0 L w → wpAny P .any ops Q fuel listed (mk N e') w := by
 have hkn : k ≤ ops.size := by
  unfold drawOk at hok
  rw [Bool.and_eq_true] at hok
  exact Nat.le_of_ble_eq_true hok.1
 have huniq : ∀ (i j : Nat) (oi oj : Oper) (d : Nat), i < k → j < k → ops[i]? = some oi → ops[j]? = some oj → oi.dst = some d → oj.dst = some d → i = j := fun i j oi oj d hi hj hoi hoj hdi hdj => by
  have := (opOk_first (opOk_of hok hoi) hi hj (d := d) (by simp [hoj, hdj])).1
  rcases this with h | h
  ·exact h.symm
  ·exact absurd hdi h
 have hspec : ∀ i, i ≤ k → ∀ t, ((∀ (j : Nat) (oj : Oper), j < i → ops[j]? = some oj → oj.dst ≠ some t) → envAt e (ops.toList.take i) (cs.take i) t = e t) ∧
   (∀ (j : Nat) (oj : Oper) (c : Value), j < i → ops[j]? = some oj → oj.dst = some t → cs[j]? = some c → envAt e (ops.toList.take i) (cs.take i) t = c) := fun i hi t => by
  have hget : ∀ (j : Nat) (oj : Oper), (ops.toList.take i)[j]? = some oj ↔ j < i ∧ ops[j]? = some oj := fun j oj => by
   rw [List.getElem?_take]
   by_cases hji : j < i
   ·simp [hji]
   ·simp [hji]
  have h := envAt_spec (ops.toList.take i) (cs.take i) e t (by simp; omega) (fun a b oa ob ha hb hda hdb => by
   obtain ⟨ha1, ha2⟩ := (hget a oa).1 ha
   obtain ⟨hb1, hb2⟩ := (hget b ob).1 hb
   exact huniq a b oa ob t (by omega) (by omega) ha2 hb2 hda hdb)
  refine ⟨fun hn => h.1 fun j oj hj => hn j oj ((hget j oj).1 hj).1 ((hget j oj).1 hj).2, fun j oj c hji hoj hd hc => h.2 j oj c ((hget j oj).2 ⟨hji, hoj⟩) hd ?_⟩
  rw [List.getElem?_take, if_pos hji]
  exact hc
 intro fuel
 induction fuel with
 | zero =>
  intro listed e' w hsz hcnt hrest hval hold s
  have hall := count_all ops.size (by omega : listedCount listed ops.size = ops.size)
  by_cases hk : k < ops.size
  ·have h1 := hall k hk
   rw [hrest k (Nat.le_refl _)] at h1
   cases h1
  ·have hkeq : k = ops.size := by omega
   have he : e' = envAt e (ops.toList.take k) cs := by
    funext t
    have hs := hspec k (Nat.le_refl _) t
    rw [List.take_of_length_le (by omega : cs.length ≤ k)] at hs
    by_cases hex : ∃ j oj, j < k ∧ ops[j]? = some oj ∧ oj.dst = some t
    ·obtain ⟨j, oj, hj, hoj, hd⟩ := hex
     obtain ⟨c, hc⟩ : ∃ c, cs[j]? = some c := ⟨cs[j], List.getElem?_eq_getElem (by omega)⟩
     rw [hval j oj t c hj (hall j (by omega)) hoj hd hc, hs.2 j oj c hj hoj hd hc]
    ·rw [hold t fun i oi hi _ hoi hd => hex ⟨i, oi, hi, hoi, hd⟩, hs.1 fun j oj hj hoj hd => hex ⟨j, oj, hj, hoj, hd⟩]
   have hw := htail.h w s
   rw [← he] at hw
   exact any_rest hok 0 k listed _ w (Nat.le_refl _) (by omega) hsz (fun i hi => by
    have h1 := hall i hi
    have hi' : i < listed.size := by omega
    simp only [Array.getD_eq_getD_getElem?, hi', getElem?_pos, Option.getD_some] at h1 ⊢
    rw [h1]
    simp
    omega) hw
 | succ fuel ih =>
  intro listed e' w hsz hcnt hrest hval hold s
  by_cases hfirst : ∃ i, i < k ∧ listed.getD i false = false
  ·-- some operation of the first k is not listed: the least such one is ready
   have hleast : ∃ i, (i < k ∧ listed.getD i false = false) ∧ ∀ j, j < i → j < k → listed.getD j false = true := by
    obtain ⟨n, hn, hmin⟩ := exists_least hfirst
    refine ⟨n, hn, fun j hj hjk => ?_⟩
    cases hb : listed.getD j false with
    | true => rfl
    | false => have := hmin j ⟨hjk, hb⟩; omega
   obtain ⟨i0, ⟨hi0, hun0⟩, hmin⟩ := hleast
   have hi0n : i0 < ops.size := by omega
   have hready0 : i0 ∈ Region.ready .any ops listed := by
    rw [mem_ready]
    refine ⟨?_, _, Array.getElem?_eq_getElem hi0n, fun x hx hb => ?_⟩
    ·have : i0 < listed.size := by omega
     simpa [this] using hun0
    ·have := opOk_edges (opOk_of hok (Array.getElem?_eq_getElem hi0n)) x hx hb
     exact hmin x.on this (by omega)
   refine ⟨fun h0 => (by rw [h0] at hready0; cases hready0), fun i hi => ?_⟩
   obtain ⟨hun, oi, hoi, hall⟩ := mem_ready.1 hi
   have hilt := (Array.getElem?_eq_some_iff.1 hoi).1
   have hilt' : i < listed.size := by omega
   have hun' : listed.getD i false = false := by simpa [hilt'] using hun
   have hik : i < k := by
    rcases Nat.lt_or_ge i k with h | h
    ·exact h
    ·have := bindsOn_listed ((opOk_rest (opOk_of hok hoi) (by omega)).1 i0 hi0) hall
     rw [hun0] at this
     cases this
   obtain ⟨c, hc, hd⟩ := hdet i oi hoi hik
   have hsame : ∀ t ∈ oi.looksAt ops, envAt e (ops.toList.take i) (cs.take i) t = e' t := fun t ht => by
    have hs := hspec i (by omega) t
    by_cases hex : ∃ j oj, j < k ∧ ops[j]? = some oj ∧ oj.dst = some t
    ·obtain ⟨j, oj, hj, hoj, hdj⟩ := hex
     obtain ⟨hji, hbd⟩ := (opOk_first (opOk_of hok hoi) hik hj (d := t) (by simp [hoj, hdj])).2 ht
     obtain ⟨cj, hcj⟩ : ∃ c, cs[j]? = some c := ⟨cs[j], List.getElem?_eq_getElem (by omega)⟩
     rw [hs.2 j oj cj hji hoj hdj hcj, hval j oj t cj hj (bindsOn_listed hbd hall) hoj hdj hcj]
    ·rw [hs.1 fun j oj hj hoj hd => hex ⟨j, oj, by omega, hoj, hd⟩, hold t fun j oj hj _ hoj hd => hex ⟨j, oj, hj, hoj, hd⟩]
   have hd' := det_congr (opOk_select (opOk_of hok hoi)) hsame hd
   refine det_wpOp hoi hd' s fun w' s' => ?_
   have hset : ∀ j, (listed.setIfInBounds i true).getD j false = if i = j then true else listed.getD j false := fun j => by
    by_cases hij : i = j
    ·subst hij; simp [hilt']
    ·rw [getD_set_ne false hij, if_neg hij]
   refine ih _ _ w' (by simpa using hsz) ?_ (fun j hj => ?_) (fun j oj d cj hj hl hoj hdj hcj => ?_) (fun t ht => ?_) s'
   ·rw [count_set hilt' hun', if_pos hilt]; omega
   ·rw [hset, if_neg (by omega)]; exact hrest j hj
   ·rw [hset] at hl
    by_cases hij : i = j
    ·subst hij
     rw [hoi] at hoj
     injection hoj with hoj
     subst hoj
     rw [hc] at hcj
     injection hcj with hcj
     subst hcj
     rw [hdj]
     show upd e' d c d = c
     rw [upd_apply, if_pos rfl]
    ·rw [if_neg hij] at hl
     have := hval j oj d cj hj hl hoj hdj hcj
     cases hdi : oi.dst with
     | none => exact this
     | some d' =>
      show upd e' d' c d = cj
      rw [upd_apply, if_neg]
      ·exact this
      ·intro heq
       subst heq
       exact hij (huniq i j oi oj d hik hj hoi hoj hdi hdj)
   ·have h1 : e' t = e t := hold t fun j oj hj hl hoj => ht j oj hj (by rw [hset, hl]; split <;> rfl) hoj
    have h2 := ht i oi hik (by rw [hset, if_pos rfl]) hoi
    cases hdi : oi.dst with
    | none => exact h1
    | some d' =>
     show upd e' d' c t = e t
     rw [upd_apply, if_neg]
     ·exact h1
     ·intro heq
      exact h2 (by rw [hdi, heq])
  ·-- all of the first k are listed
   have hlist : ∀ i, i < k → listed.getD i false = true := fun i hi => by
    cases hb : listed.getD i false with
    | true => rfl
    | false => exact absurd ⟨i, hi, hb⟩ hfirst
   have he : e' = envAt e (ops.toList.take k) cs := by
    funext t
    have hs := hspec k (Nat.le_refl _) t
    rw [List.take_of_length_le (by omega : cs.length ≤ k)] at hs
    by_cases hex : ∃ j oj, j < k ∧ ops[j]? = some oj ∧ oj.dst = some t
    ·obtain ⟨j, oj, hj, hoj, hd⟩ := hex
     obtain ⟨c, hc⟩ : ∃ c, cs[j]? = some c := ⟨cs[j], List.getElem?_eq_getElem (by omega)⟩
     rw [hval j oj t c hj (hlist j hj) hoj hd hc, hs.2 j oj c hj hoj hd hc]
    ·rw [hold t fun i oi hi _ hoi hd => hex ⟨i, oi, hi, hoi, hd⟩, hs.1 fun j oj hj hoj hd => hex ⟨j, oj, hj, hoj, hd⟩]
   have hcount : listedCount listed ops.size = k := by
    have hsplit : ∀ n, (∀ i, k ≤ i → listed.getD i false = false) → (∀ i, i < k → listed.getD i false = true) → listedCount listed n = min n k := by
     intro n h1 h2
     induction n with
     | zero => simp [listedCount]
     | succ n ihn =>
      rw [count_succ, ihn]
      by_cases hnk : n < k
      ·rw [h2 n hnk]; simp; omega
      ·rw [h1 n (by omega)]; simp; omega
    rw [hsplit _ hrest hlist]; omega
   have hw := htail.h w s
   rw [← he] at hw
   refine any_rest hok (fuel + 1) k listed _ w (Nat.le_refl _) (by omega) hsz (fun i hi => ?_) hw
   have hi' : i < listed.size := by omega
   by_cases hik : i < k
   ·have h1 := hlist i hik
    simp only [Array.getD_eq_getD_getElem?, hi', getElem?_pos, Option.getD_some] at h1 ⊢
    rw [h1]; simp [hik]
   ·have h1 := hrest i (by omega)
    simp only [Array.getD_eq_getD_getElem?, hi', getElem?_pos, Option.getD_some] at h1 ⊢
    rw [h1]; simp [hik]

/-- A REGION THAT DRAWS: the first k operations give known values, in whatever order; the rest come after them, one after the other. -/
theorem gc_draw {id : Nat} {l : List Oper} (k : Nat) (hm : P.follows .mixedOrders = true) (hok : drawOk l.toArray k = true)
  (h : GD P l.toArray N w0 L (fun e' => GW P l.toArray Q N w0 L (l.drop k) e') (l.take k) e) : GC P Q N w0 L (.region id l.toArray true) e := ⟨fun w s => by
 obtain ⟨cs, hl, hdet, htail⟩ := gd_vals _ _ h
 have hkn : k ≤ l.length := by
  unfold drawOk at hok
  rw [Bool.and_eq_true] at hok
  simpa using Nat.le_of_ble_eq_true hok.1
 have hlk : cs.length = k := by rw [hl, List.length_take]; omega
 refine wp_region_any hm (any_first hok hlk (fun i o hi hik => ?_) htail l.toArray.size _ e _ (by simp) ?_ ?_ ?_ (fun _ _ => rfl) (s.ext (Ext.drawn w _)))
 ·obtain ⟨c, hc, hd⟩ := hdet i o (by rw [List.getElem?_take, if_pos hik]; simpa using hi)
  refine ⟨c, hc, ?_⟩
  rw [List.take_take, Nat.min_eq_left (by omega)] at hd
  exact hd
 ·have : listedCount (Array.replicate l.toArray.size false) l.toArray.size = 0 := by
   unfold listedCount
   rw [List.length_eq_zero_iff, List.filter_eq_nil_iff]
   intro i _
   by_cases hi : i < l.length <;> simp [hi]
  omega
 ·intro i _
  by_cases hi : i < l.length <;> simp [hi]
 ·intro i o d c _ hl'
  by_cases hi : i < l.length <;> simp [hi] at hl'⟩

def havoc (wr : List Nat) (e base : Env) : Env := fun i => bif wr.elem i then base i else e i
def sets : List (Nat × Value) → Env → Env
 | [], e => e
 | p :: l, e => upd (sets l e) p.1 p.2
def Ats : List (Nat × Value) → Env → Prop
 | [], _ => True
 | p :: l, e => e p.1 = p.2 ∧ Ats l e
def Keeps (wr : List Nat) (e e' : Env) : Prop := ∀ i, wr.elem i = false → e' i = e i

theorem Keeps.refl {wr : List Nat} {e : Env} : Keeps wr e e := fun _ _ => rfl
theorem Keeps.upd {wr : List Nat} {e e' : Env} {d : Nat} {v : Value} (hd : wr.elem d = true) (h : Keeps wr e e') : Keeps wr e (upd e' d v) := fun i hi => by
 rw [upd_apply, if_neg]
 ·exact h i hi
 ·rintro rfl
  rw [hd] at hi
  cases hi
theorem Keeps.updO {wr : List Nat} {e e' : Env} {d : Option Nat} {v : Value} (hd : (match d with | some d => wr.elem d | none => true) = true) (h : Keeps wr e e') : Keeps wr e (updO e' d v) := by
 cases d with
 | none => exact h
 | some d => exact Keeps.upd hd h
theorem Keeps.havoc {wr wr' : List Nat} {e e' base : Env} (hs : wr'.all (wr.elem ·) = true) (h : Keeps wr e e') : Keeps wr e (havoc wr' e' base) := fun i hi => by
 unfold Go.Proofs.YtafbfldjcikmcaaGreat.havoc
 have : wr'.elem i = false := by
  cases hw : wr'.elem i with
  | false => rfl
  | true =>
   have := List.all_eq_true.1 hs i (List.elem_iff.1 hw)
   rw [hi] at this
   cases this
 rw [this]
 exact h i hi
theorem Keeps.sets {wr : List Nat} {e e' : Env} : ∀ {l : List (Nat × Value)}, l.all (wr.elem ·.1) = true → Keeps wr e e' → Keeps wr e (sets l e')
 | [], _, h => h
 | p :: l, hs, h => by
  rw [List.all_cons, Bool.and_eq_true] at hs
  exact Keeps.upd hs.1 (Keeps.sets hs.2 h)

theorem sets_ats : ∀ {l : List (Nat × Value)} {e : Env}, Ats l e → sets l e = e
 | [], _, _ => rfl
 | p :: l, e, h => by
  show upd (sets l e) p.1 p.2 = e
  rw [sets_ats h.2]
  funext i
  rw [upd_apply]
  split
  ·rename_i hi; rw [hi]; exact h.1.symm
  ·rfl
theorem havoc_keeps {wr : List Nat} {e e' : Env} (h : Keeps wr e e') : havoc wr e e' = e' := by
 funext i
 unfold havoc
 cases hi : wr.elem i with
 | true => rfl
 | false => exact (h i hi).symm

/-- What a round hands on. -/
def Rnd {σ : Type} (N : Nat) (w0 : World) (wr : List Nat) (e : Env) (S : σ → List (Nat × Value)) (K : σ → List Res) (I : σ → Prop) (μ : σ → Nat) (m : Nat) (a : Act) (w : World) : Prop :=
 ∃ s e', a = mk N e' ∧ I s ∧ μ s < m ∧ Keeps wr e e' ∧ Ats (S s) e' ∧ St w0 (K s) w

/-- A LOOP: the slots that its body writes, what they hold at a round's head by the ghost s, what is owned, what is known, a measure. -/
theorem gc_loop {σ : Type} {c : Code} (wr : List Nat) (S : σ → List (Nat × Value)) (K : σ → List Res) (I : σ → Prop) (μ : σ → Nat) (s0 : σ) (hI : I s0) (hA : Ats (S s0) e) (hK : Sub L (K s0))
  (round : ∀ s base, I s → GC P (Exit.then (Rnd N w0 wr e S K I μ (μ s)) Q) N w0 (K s) c (sets (S s) (havoc wr e base))) : GC P Q N w0 L (.loop c) e := ⟨fun w s => by
 refine wp_loop_ghost (fun n a w => ∃ s e', a = mk N e' ∧ I s ∧ μ s = n ∧ Keeps wr e e' ∧ Ats (S s) e' ∧ St w0 (K s) w) (μ s0) ⟨s0, e, rfl, hI, rfl, Keeps.refl, hA, St.sub hK s⟩ ?_
 rintro n a w ⟨s, e', rfl, hI, rfl, hk, ha, hs⟩
 have h := (round s e' hI).h w hs
 rw [havoc_keeps hk, sets_ats ha] at h
 refine wp_mono h ?_
 intro x a' w' hq
 cases x with
 | normal =>
  obtain ⟨s', e'', h1, h2, h3, h4, h5, h6⟩ := hq
  exact ⟨μ s', h3, s', e'', h1, h2, rfl, h4, h5, h6⟩
 | exit id => exact hq
 | goto l => exact hq
 | ret => exact hq
 | panic ch => exact hq
 | outgrown => exact hq⟩

theorem gx_round {σ : Type} {wr : List Nat} {e0 : Env} {S : σ → List (Nat × Value)} {K : σ → List Res} {I : σ → Prop} {μ : σ → Nat} {m : Nat} (s : σ) (hI : I s) (hm : μ s < m) (hk : Keeps wr e0 e) (hA : Ats (S s) e)
  (hK : Sub L (K s)) : GX (Exit.then (Rnd N w0 wr e0 S K I μ m) Q) N w0 L .normal e := ⟨fun _ st => ⟨s, e, rfl, hI, hm, hk, hA, St.sub hK st⟩⟩

def argE : Nat → List Value → Env
 | _, [] => fun _ => undef
 | k, v :: l => upd (argE (k + 1) l) k v

theorem argE_apply : ∀ (l : List Value) (k i : Nat), argE k l i = if k ≤ i then l.getD (i - k) undef else undef
 | [], k, i => by simp [argE]
 | v :: l, k, i => by
  show upd (argE (k + 1) l) k v i = _
  rw [upd_apply, argE_apply l (k + 1) i]
  by_cases h : i = k
  ·subst h; simp
  ·by_cases hk : k ≤ i
   ·have : i - k = (i - (k + 1)) + 1 := by omega
    rw [if_neg h, if_pos (by omega), if_pos hk, this]
    simp
   ·rw [if_neg h, if_neg (by omega), if_neg hk]

/-- The post of a body. -/
def Post (P : Program) (fn : Func) (w0 : World) (φ : Value → World → Prop) : Exit → Act → World → Prop := bodyPost P fn fun x w' => ∃ v, x = .returned v ∧ Ext w0 w' ∧ φ v w'

theorem ok_enter {f : FuncId} {fn : Func} {c : Code} {l : List Value} {w : World} {φ : Value → World → Prop} (hf : P.funcs[f]? = some fn) (hb : fn.body = some c) (hN : fn.ntmps = N) (hs : Nat.ble l.length N = true)
  (h : GC P (Post P fn w φ) N w [] c (argE 0 l)) : Ok P f l.toArray w φ := by
 refine calls_of_wp hf hb ?_
 have hle : l.toArray.size ≤ N := by simpa using Nat.le_of_ble_eq_true hs
 rw [hN, mk_args N l.toArray hle]
 have he : (fun i => l.toArray.getD i undef) = argE 0 l := by
  funext i
  rw [argE_apply]
  simp
 rw [he]
 exact h.h w (St.init w)

theorem gx_ret {fn : Func} {φ : Value → World → Prop} {v : Value} (hr : ∀ w, St w0 L w → (results fn (mk N e).tmps).run P w = .ok v w) (h : ∀ w, St w0 L w → φ v w) :
  GX (Post P fn w0 φ) N w0 L .ret e := ⟨fun w s => ⟨rfl, v, hr w s, v, rfl, s.below, h w s⟩⟩
theorem gx_ret1 {fn : Func} {φ : Value → World → Prop} {v : Value} {t : Nat} (hres : fn.results = #[.tmp t]) (hv : ev N e (.tmp t) = v) (h : ∀ w, St w0 L w → φ v w) :
  GX (Post P fn w0 φ) N w0 L .ret e :=
 gx_ret (fun w _ => by rw [results_tmp hres, mk_getD]; exact congrArg (Result.ok · w) hv) h
theorem gx_ret2 {fn : Func} {φ : Value → World → Prop} {u v : Value} {t s : Nat} (hres : fn.results = #[.tmp t, .tmp s]) (hu : ev N e (.tmp t) = u) (hv : ev N e (.tmp s) = v) (h : ∀ w, St w0 L w → φ (.tuple #[u, v]) w) :
  GX (Post P fn w0 φ) N w0 L .ret e :=
 gx_ret (fun w _ => by rw [results_tmp2 hres, mk_getD, mk_getD]; subst hu hv; rfl) h
theorem gx_ret3 {fn : Func} {φ : Value → World → Prop} {u v x : Value} {t s r : Nat} (hres : fn.results = #[.tmp t, .tmp s, .tmp r]) (hu : ev N e (.tmp t) = u) (hv : ev N e (.tmp s) = v) (hx : ev N e (.tmp r) = x)
  (h : ∀ w, St w0 L w → φ (.tuple #[u, v, x]) w) : GX (Post P fn w0 φ) N w0 L .ret e :=
 gx_ret (fun w _ => by
  have g := fun t => mk_getD N e t
  simp only [Array.getD_eq_getD_getElem?] at g
  simp only [results, hres]; subst hu hv hx; simp [ev, g]) h
end

section
variable {P : Program} {ops : Array Oper} {Q : Exit → Act → World → Prop} {N : Nat} {w0 : World} {L : List Res} {rest : List Oper} {e : Env} {c : Code} {x : Exit} {tail : Env → Prop}
end
def notAgg (P : Program) (t : TypeId) : Bool := match P.underlying t with
 | some (.struct _) => false
 | some (.array _ _) => false
 | some _ => true
 | none => false
def aggSz (P : Program) (t : TypeId) : Option Nat := match P.underlying t with
 | some (.struct _) => (P.info? t).map (·.size)
 | some (.array _ _) => (P.info? t).map (·.size)
 | _ => none
def sliceSz (P : Program) (t : TypeId) : Option (TypeId × Nat) := match P.underlying t with
 | some (.slice el) => (P.info? el).map fun i => (el, i.size)
 | _ => none
def arrSz (P : Program) (t : TypeId) : Option (Nat × Nat) := match P.underlying t with
 | some (.array n el) => (P.info? el).map fun i => (n, i.size)
 | _ => none
def fieldOff (P : Program) (s : TypeId) (f : Nat) : Option Nat := match P.underlying s with
 | some (.struct fs) => match fs[f]? with
  | some fl => match P.info? fl.type with
   | some i => bif Nat.beq i.size 0 then none else some fl.offset
   | none => none
  | none => none
 | _ => none
def sizeB (P : Program) (t : TypeId) : Option Nat := (P.info? t).map (·.size)
def zeroB (P : Program) (t : TypeId) : Option Value := (P.info? t).bind (·.zero)
def callable (P : Program) (f : FuncId) : Bool := match P.funcs[f]? with
 | some fn => !(fn.name == "runtime.NumGoroutine") && !fn.body.isNone
 | none => false
def isSliceT (P : Program) (t : TypeId) : Bool := match P.underlying t with
 | some (.slice _) => true
 | _ => false
def isStringT (P : Program) (t : TypeId) : Bool := match P.underlying t with
 | some .string => true
 | _ => false

class CSlice (P : Program) (t : Nat) (el sz : outParam Nat) : Prop where h : sliceSz P t = some (el, sz)
class CAgg (P : Program) (t : Nat) (n : outParam Nat) : Prop where h : aggSz P t = some n
class CArr (P : Program) (t : Nat) (n sz : outParam Nat) : Prop where h : arrSz P t = some (n, sz)
class CSize (P : Program) (t : Nat) (n : outParam Nat) : Prop where h : sizeB P t = some n
class CNotAgg (P : Program) (t : Nat) : Prop where h : notAgg P t = true
class CIsSlice (P : Program) (t : Nat) : Prop where h : isSliceT P t = true
class CIsStr (P : Program) (t : Nat) : Prop where h : isStringT P t = true
class CField (P : Program) (s f : Nat) (off : outParam Nat) : Prop where h : fieldOff P s f = some off
class CCall (P : Program) (f : Nat) : Prop where h : callable P f = true
class CZero (P : Program) (t : Nat) (z : outParam Value) : Prop where h : zeroB P t = some z
def bytesB (P : Program) (t : TypeId) : Option Nat := (P.info? t).map (·.bytes)
class CBytes (P : Program) (t : Nat) (n : outParam Nat) : Prop where h : bytesB P t = some n
def intKindB (P : Program) (t : TypeId) : Option IntKind := match P.underlying t with
 | some (.int k) => some k
 | _ => none
class CInt (P : Program) (t : Nat) (k : outParam IntKind) : Prop where h : intKindB P t = some k
/-- The places of a struct's fields: offset and size. -/
def placesB (P : Program) (t : TypeId) : Option (List (Nat × Nat)) := match P.underlying t with
 | some (.struct fs) => fs.toList.mapM fun f => (P.info? f.type).map fun i => (f.offset, i.size)
 | _ => none
class CPlaces (P : Program) (t : Nat) (ps : outParam (List (Nat × Nat))) : Prop where h : placesB P t = some ps
def mapKV (P : Program) (t : TypeId) : Option (TypeId × TypeId) := match P.underlying t with
 | some (.map k v) => some (k, v)
 | _ => none
class CMap (P : Program) (t : Nat) (k v : outParam Nat) : Prop where h : mapKV P t = some (k, v)
/-- A struct of integers alone, n of them, whose values can be held against each other. -/
def intStruct (P : Program) (t : TypeId) : Option Nat := match P.underlying t with
 | some (.struct fs) =>
  if fs.toList.zipIdx.all (fun (f, i) => f.name != "_" && f.offset == i && (match P.underlying f.type with | some (.int .i64) => true | _ => false)) && !P.stoodInHeld t && !P.eqGuardType P.depth t then some fs.size else none
 | _ => none
class CInts (P : Program) (t : Nat) (n : outParam Nat) : Prop where h : intStruct P t = some n
section
variable {P : Program} {w : World} {t : TypeId} {a : Addr} {v : Value}

theorem run_loadVar1 (ht : notAgg P t = true) (hc : w.cell? a = some v) : (loadVar t a).run P w = .ok v w := by
 unfold notAgg at ht
 split at ht <;> try cases ht
 rename_i d h1 h2 hu
 have : (isAgg t).run P w = .ok false w := by
  unfold isAgg
  simp only [Sem.run_bind, run_underlying hu, Result.andThen_ok]
  rfl
 unfold loadVar
 simp only [Sem.run_bind, this, Result.andThen_ok, Bool.false_eq_true, if_false]
 show Sem.run P (.load .plain a .pure) w = _
 simp [Sem.run, hc]
end

section
variable {P : Program} {w : World} {t : TypeId} {a : Addr} {v : Value}

theorem run_loadVarN {cs : List Value} (ht : aggSz P t = some cs.length) (hc : ∀ j u, cs[j]? = some u → w.cell? (a.add j) = some u) : (loadVar t a).run P w = .ok (.agg cs.toArray) w := by
 have hA : (isAgg t).run P w = .ok true w ∧ ∃ i, P.info? t = some i ∧ i.size = cs.length := by
  unfold aggSz at ht
  unfold isAgg
  split at ht
  ·rename_i fs hu
   simp only [Sem.run_bind, run_underlying hu, Result.andThen_ok]
   exact ⟨rfl, by simpa using ht⟩
  ·rename_i n el hu
   simp only [Sem.run_bind, run_underlying hu, Result.andThen_ok]
   exact ⟨rfl, by simpa using ht⟩
  ·cases ht
 obtain ⟨h1, i, hi, hn⟩ := hA
 have h2 : (sizeOf t).run P w = .ok cs.length w := by simp [sizeOf, typeInfo, hi, hn]
 unfold loadVar
 simp only [Sem.run_bind, h1, Result.andThen_ok, if_true, h2, run_loadCells_list w a cs hc]
 rfl
end

section
variable {P : Program} {ops : Array Oper} {Q : Exit → Act → World → Prop} {N : Nat} {w0 : World} {L L' : List Res} {rest : List Oper} {e : Env} {o : Oper} {t : TypeId} {x y : Operand} {a : Addr} {v : Value}

theorem det_run {c : Value} (hw : wantedE N ops e o = true) (hr : ∀ w, St w0 L w → (execOp (ev N e) o).run P w = .ok (.value c) w) : Det P ops N w0 L o e c :=
 .inl ⟨hw, fun w s => by unfold Step; rw [hr w s]; exact ⟨Ext.refl _, rfl⟩⟩

theorem det_load (hop : o.op = .load t x) (hw : wantedE N ops e o = true) (hx : ev N e x = .pointer (some a)) (hl : ∀ w, St w0 L w → (loadVar t a).run P w = .ok v w) : Det P ops N w0 L o e v :=
 det_run hw fun w s => by
  unfold execOp
  simp only [hop, Instr.loadAt, hx, Instr.sureAddr, Sem.run_bind, Sem.run_pure, Result.andThen_ok, hl w s]

theorem det_load_old (hop : o.op = .load t x) (hw : wantedE N ops e o = true) (hx : ev N e x = .pointer (some a)) (ht : notAgg P t = true) (hb : a.block < w0.heap.size) (hc : w0.cell? a = some v) : Det P ops N w0 L o e v :=
 det_load hop hw hx fun _ s => run_loadVar1 ht ((s.below.cell hb).trans hc)
theorem det_load_oldN {cs : List Value} (hop : o.op = .load t x) (hw : wantedE N ops e o = true) (hx : ev N e x = .pointer (some a)) (ht : aggSz P t = some cs.length) (hb : a.block < w0.heap.size)
  (hc : ∀ j u, cs[j]? = some u → w0.cell? (a.add j) = some u) : Det P ops N w0 L o e (.agg cs.toArray) :=
 det_load hop hw hx fun _ s => run_loadVarN ht fun j u hu => (s.below.cell (by unfold Addr.add; split <;> exact hb)).trans (hc j u hu)

theorem Box.cell {b : Nat} {ty : TypeId} {cs : Array Value} {w : World} (h : (Box b ty cs).p w) (i : Nat) : w.cell? ⟨b, i, none⟩ = cs[i]? := by
 have : w.heap[b]? = some (.cells cs ty (0, 0)) := h
 simp [World.cell?, this]

theorem det_load_box {b i : Nat} {ty : TypeId} {cs : Array Value} (hop : o.op = .load t x) (hw : wantedE N ops e o = true) (hx : ev N e x = .pointer (some ⟨b, i, none⟩)) (ht : notAgg P t = true) (hp : Pick L (Box b ty cs) L')
  (hc : cs[i]? = some v) : Det P ops N w0 L o e v :=
 det_load hop hw hx fun _ s => run_loadVar1 ht ((Box.cell (s.pick hp).head i).trans hc)
theorem det_load_boxN {b : Nat} {ty : TypeId} {cs : Array Value} (hop : o.op = .load t x) (hw : wantedE N ops e o = true) (hx : ev N e x = .pointer (some ⟨b, 0, none⟩)) (ht : aggSz P t = some cs.size) (hp : Pick L (Box b ty cs) L') :
  Det P ops N w0 L o e (.agg cs) :=
 det_load hop hw hx fun _ s => by
  have h := run_loadVarN (cs := cs.toList) (a := ⟨b, 0, none⟩) (w := _) (by simpa using ht) fun j u hu => by
   have hadd : (⟨b, 0, none⟩ : Addr).add j = ⟨b, j, none⟩ := by unfold Addr.add; split <;> simp_all
   rw [hadd, Box.cell (s.pick hp).head j]
   simpa using hu
  simpa using h

theorem det_index {ix : Operand} {n c m : Nat} {k : IntKind} {z : Int} {el sz : Nat} (hop : o.op = .indexAddr t x ix) (hw : wantedE N ops e o = true) (hx : ev N e x = .slice (some a) n c) (hi : ev N e ix = .int k z) (ht : sliceSz P t = some (el, sz))
  (hz : z = (m : Int)) (hm : m < n) : Det P ops N w0 L o e (.pointer (some (a.add (m * sz)))) :=
 det_pure hw fun w => by
  unfold sliceSz at ht
  split at ht
  ·rename_i el' hu
   obtain ⟨i, hinfo, heq⟩ := Option.map_eq_some_iff.1 ht
   injection heq with h1 h2
   subst h1 h2
   subst hz
   have h0 : (0 : Int) ≤ (m : Int) ∧ (m : Int) < (n : Int) := by omega
   unfold execOp
   simp [hop, hx, hi, Instr.indexAt, run_underlying hu, asIntOf, sizeOf, typeInfo, hinfo, h0]
   omega
  ·cases ht

theorem det_index_arr {ix : Operand} {n m : Nat} {k : IntKind} {z : Int} {sz : Nat} (hop : o.op = .indexAddr t x ix) (hw : wantedE N ops e o = true) (hx : ev N e x = .pointer (some a)) (hi : ev N e ix = .int k z) (ht : arrSz P t = some (n, sz))
  (hz : z = (m : Int)) (hm : m < n) : Det P ops N w0 L o e (.pointer (some (a.add (m * sz)))) :=
 det_pure hw fun w => by
  unfold arrSz at ht
  split at ht
  ·rename_i n' el' hu
   obtain ⟨i, hinfo, heq⟩ := Option.map_eq_some_iff.1 ht
   injection heq with h1 h2
   subst h1 h2
   subst hz
   have h0 : (0 : Int) ≤ (m : Int) ∧ (m : Int) < (n' : Int) := by omega
   unfold execOp
   simp [hop, hx, hi, Instr.indexAt, run_underlying hu, asIntOf, Instr.sureAddr, sizeOf, typeInfo, hinfo, h0]
   omega
  ·cases ht

theorem det_field {s : TypeId} {f off : Nat} (hop : o.op = .fieldAddr s x f) (hw : wantedE N ops e o = true) (hx : ev N e x = .pointer (some a)) (hf : fieldOff P s f = some off) : Det P ops N w0 L o e (.pointer (some (a.add off))) :=
 det_pure hw fun w => by
  unfold fieldOff at hf
  split at hf
  ·rename_i fs hu
   split at hf
   ·rename_i fl hfl
    split at hf
    ·rename_i i hi
     cases hz : Nat.beq i.size 0 with
     | true => rw [hz] at hf; cases hf
     | false =>
      rw [hz] at hf
      simp only [cond_false, Option.some.injEq] at hf
      subst hf
      have h0 : ¬ i.size = 0 := fun h => by rw [h] at hz; cases hz
      unfold execOp
      simp [hop, hx, Instr.fieldAt, run_underlying hu, hfl, Instr.sureAddr, fieldPlace, sizeOf, typeInfo, hi, h0]
    ·cases hf
   ·cases hf
  ·cases hf

theorem det_len {n c : Nat} {A : Option Addr} (hop : o.op = .call { callee := .builtin .len, args := #[x], argTypes := #[t] }) (hw : wantedE N ops e o = true) (hx : ev N e x = .slice A n c) (ht : isSliceT P t = true) :
  Det P ops N w0 L o e (.int .i64 n) :=
 det_pure hw fun w => by
  unfold isSliceT at ht
  split at ht
  ·rename_i el hu
   unfold execOp
   simp [hop, resolve, invoke, builtin, hx, Builtin.len_, run_underlying hu, goInt]
  ·cases ht
theorem det_len_str {s : ByteArray} (hop : o.op = .call { callee := .builtin .len, args := #[x], argTypes := #[t] }) (hw : wantedE N ops e o = true) (hx : ev N e x = .string s) (ht : isStringT P t = true) :
  Det P ops N w0 L o e (.int .i64 s.size) :=
 det_pure hw fun w => by
  unfold isStringT at ht
  split at ht
  ·rename_i hu
   unfold execOp
   simp [hop, resolve, invoke, builtin, hx, Builtin.len_, run_underlying hu, goInt]
  ·cases ht

theorem run_call {f : FuncId} {as : Array Operand} {ts : Array TypeId} {l : List Value} {w : World} (hop : o.op = .call { callee := .value (.func f), args := as, argTypes := ts }) (hcf : callable P f = true)
  (hl : as.toList.map (ev N e) = l) : (execOp (ev N e) o).run P w = .ok (.enter f l.toArray) w := by
 have hargs : as.map (ev N e) = l.toArray := by rw [← hl, ← Array.toList_map]
 unfold callable at hcf
 split at hcf
 ·rename_i fn hfn
  rw [Bool.and_eq_true, Bool.not_eq_true', Bool.not_eq_true'] at hcf
  have h1 : ¬ fn.name = "runtime.NumGoroutine" := by simpa using hcf.1
  have h2 : ¬ fn.body = none := fun h => by rw [h] at hcf; cases hcf.2
  unfold execOp
  simp [hop, resolve, ev, Deferred.ofValue, invoke, callFunc, program, hfn, h1, h2, hargs, Sem.run]
 ·cases hcf

theorem det_call {f : FuncId} {as : Array Operand} {ts : Array TypeId} {l : List Value} {c : Value} (hop : o.op = .call { callee := .value (.func f), args := as, argTypes := ts }) (hw : wantedE N ops e o = true) (hcf : callable P f = true)
  (hl : as.toList.map (ev N e) = l) (hC : ∀ w, St w0 L w → Ok P f l.toArray w fun v _ => v = c) : Det P ops N w0 L o e c :=
 det_enter hw (fun _ => run_call hop hcf hl) hC

theorem det_mv (hop : o.op = .move x) (hw : wantedE N ops e o = true) (hx : ev N e x = v) : Det P ops N w0 L o e v := det_pure hw fun w => by unfold execOp; rw [hop]; subst hx; rfl
theorem det_as (hop : o.op = .assign x) (hw : wantedE N ops e o = true) (hx : ev N e x = v) : Det P ops N w0 L o e v := det_pure hw fun w => by unfold execOp; rw [hop]; subst hx; rfl
theorem det_pick_t {p q : Operand} (hop : o.op = .pick x p q) (hw : wantedE N ops e o = true) (hc : ev N e x = .bool true) (hx : ev N e p = v) : Det P ops N w0 L o e v :=
 det_pure hw fun w => by unfold execOp; simp [hop, hc, hx, asBool]
theorem det_pick_f {p q : Operand} (hop : o.op = .pick x p q) (hw : wantedE N ops e o = true) (hc : ev N e x = .bool false) (hx : ev N e q = v) : Det P ops N w0 L o e v :=
 det_pure hw fun w => by unfold execOp; simp [hop, hc, hx, asBool]
theorem det_not_ {b : Bool} (hop : o.op = .unOp .not t x) (hw : wantedE N ops e o = true) (hx : ev N e x = .bool b) : Det P ops N w0 L o e (.bool !b) :=
 det_pure hw fun w => by unfold execOp; simp [hop, hx, Op.unary]
theorem det_not_dec {p : Prop} [Decidable p] (hop : o.op = .unOp .not t x) (hw : wantedE N ops e o = true) (hx : ev N e x = .bool (decide p)) : Det P ops N w0 L o e (.bool (decide (¬ p))) :=
 det_eq (det_not_ hop hw hx) (by by_cases h : p <;> simp [h])
theorem det_neg {i j : Int} (hop : o.op = .unOp .neg t x) (hw : wantedE N ops e o = true) (hx : ev N e x = .int .i64 i) (hr : IntKind.i64.wrap (0 - i) = j) : Det P ops N w0 L o e (.int .i64 j) :=
 det_pure hw fun w => by rw [Int.zero_sub] at hr; unfold execOp; simp [hop, hx, Op.unary, Op.intArith, hr]
theorem det_extract {i : Nat} {vs : Array Value} (hop : o.op = .extract x i) (hw : wantedE N ops e o = true) (hx : ev N e x = .tuple vs) (hi : vs[i]? = some v) : Det P ops N w0 L o e v :=
 det_pure hw fun w => by unfold execOp; simp [hop, hx, Instr.extract, hi]

def mvOf : Op → Option Operand
 | .move x => some x
 | .assign x => some x
 | _ => none
theorem det_m (hop : mvOf o.op = some x) (hw : wantedE N ops e o = true) (hx : ev N e x = v) : Det P ops N w0 L o e v := by
 cases h : o.op <;> rw [h] at hop <;> simp [mvOf] at hop
 ·subst hop; exact det_mv h hw hx
 ·subst hop; exact det_as h hw hx

/-- What a test or a sum of two integers gives. -/
def intBin (b : BinOp) (k : IntKind) (i j : Int) : Option Value := match b with
 | .lss => some (.bool (decide (i < j)))
 | .leq => some (.bool (decide (i ≤ j)))
 | .gtr => some (.bool (decide (i > j)))
 | .geq => some (.bool (decide (i ≥ j)))
 | .eql => some (.bool (decide (i = j)))
 | .neq => some (.bool (decide (¬ i = j)))
 | .add => some (.int k (k.wrap (i + j)))
 | .sub => some (.int k (k.wrap (i - j)))
 | .mul => some (.int k (k.wrap (i * j)))
 | _ => none
theorem run_intBin {b : BinOp} {k : IntKind} {i j : Int} {yt : TypeId} {w : World} (hop : o.op = .binOp b t x y yt) (hx : ev N e x = .int k i) (hy : ev N e y = .int k j) (hr : intBin b k i j = some v) : (execOp (ev N e) o).run P w = .ok (.value v) w := by
 have h1 : (i == j) = decide (i = j) := by by_cases h : i = j <;> simp [h]
 have h2 : (i != j) = decide (¬ i = j) := by by_cases h : i = j <;> simp [h]
 unfold execOp
 cases b <;> simp only [intBin, Option.some.injEq, reduceCtorEq] at hr <;> subst hr <;> simp [hop, hx, hy, eqGuard, binOp, Op.intArith, Op.intCmp, h1, h2]
theorem det_cmp {b : BinOp} {k : IntKind} {i j : Int} {yt : TypeId} {r : Bool} (hop : o.op = .binOp b t x y yt) (hw : wantedE N ops e o = true) (hx : ev N e x = .int k i) (hy : ev N e y = .int k j) (hr : intBin b k i j = some (.bool r)) : Det P ops N w0 L o e (.bool r) :=
 det_pure hw fun _ => run_intBin hop hx hy hr
theorem det_ar {b : BinOp} {k : IntKind} {i j r : Int} {yt : TypeId} (hop : o.op = .binOp b t x y yt) (hw : wantedE N ops e o = true) (hx : ev N e x = .int .i64 i) (hy : ev N e y = .int .i64 j) (hr : intBin b .i64 i j = some (.int k (IntKind.i64.wrap r)))
  (hb : -9223372036854775808 ≤ r ∧ r ≤ 9223372036854775807) : Det P ops N w0 L o e (.int k r) :=
 det_pure hw fun _ => by
  have h : IntKind.i64.wrap r = r := by rw [IntKind.wrap_i64]; omega
  rw [h] at hr
  exact run_intBin hop hx hy hr
theorem det_ar_wrap {b : BinOp} {k k' : IntKind} {i j r : Int} {yt : TypeId} (hop : o.op = .binOp b t x y yt) (hw : wantedE N ops e o = true) (hx : ev N e x = .int k i) (hy : ev N e y = .int k j) (hr : intBin b k i j = some (.int k' r)) : Det P ops N w0 L o e (.int k' r) :=
 det_pure hw fun _ => run_intBin hop hx hy hr
theorem det_quo {i j : Int} {yt : TypeId} (hop : o.op = .binOp .quo t x y yt) (hw : wantedE N ops e o = true) (hx : ev N e x = .int .i64 i) (hy : ev N e y = .int .i64 j) (hi : 0 ≤ i) (hj : 0 < j) (hb : i ≤ 9223372036854775807) : Det P ops N w0 L o e (.int .i64 (i / j)) :=
 det_pure hw fun _ => by
  have h0 : ¬ j = 0 := by omega
  have h1 : i.tdiv j = i / j := Int.tdiv_eq_ediv_of_nonneg hi
  have h2 : i / j ≤ i := Int.ediv_le_self j hi
  have h3 : 0 ≤ i / j := Int.ediv_nonneg hi (by omega)
  have h : IntKind.i64.wrap (i / j) = i / j := by rw [IntKind.wrap_i64]; omega
  unfold execOp
  simp [hop, hx, hy, eqGuard, binOp, Op.intDiv, h0, h1, h]
theorem det_rem {i j : Int} {yt : TypeId} (hop : o.op = .binOp .rem t x y yt) (hw : wantedE N ops e o = true) (hx : ev N e x = .int .i64 i) (hy : ev N e y = .int .i64 j) (hi : 0 ≤ i) (hj : 0 < j) : Det P ops N w0 L o e (.int .i64 (i % j)) :=
 det_pure hw fun _ => by
  have h0 : ¬ j = 0 := by omega
  have h1 : i.tmod j = i % j := Int.tmod_eq_emod_of_nonneg hi
  unfold execOp
  simp [hop, hx, hy, eqGuard, binOp, Op.intDiv, h0, h1]
theorem det_bne {p q : Bool} {yt : TypeId} (hop : o.op = .binOp .neq t x y yt) (hw : wantedE N ops e o = true) (hx : ev N e x = .bool p) (hy : ev N e y = .bool q) (ht : P.underlying t = some .bool) : Det P ops N w0 L o e (.bool (!(p == q))) :=
 det_pure hw fun _ => by
  have h : ∀ (d : Nat) (w : World), (Op.equalIn (d + 1) t (.bool p) (.bool q)).run P w = .ok (p == q) w := fun d w => by simp [Op.equalIn, run_underlying ht]
  unfold execOp
  simp only [hop, hx, hy, eqGuard, binOp]
  simp [Op.equal, Op.maxDepth, h 9999]
theorem det_seq {p q : ByteArray} {yt : TypeId} (hop : o.op = .binOp .eql t x y yt) (hw : wantedE N ops e o = true) (hx : ev N e x = .string p) (hy : ev N e y = .string q) : Det P ops N w0 L o e (.bool (p.toList == q.toList)) :=
 det_pure hw fun _ => by
  unfold execOp
  simp [hop, hx, hy, eqGuard, binOp, Op.stringOp]
theorem ext_alloc (w : World) (ob : Obj) : Ext w (w.alloc ob) := Below.alloc (Below.refl _ _) (Nat.le_refl _) ob

theorem St.box {w : World} (s : St w0 L w) (ty : TypeId) (cs : Array Value) : St w0 (Box w.heap.size ty cs :: L) (w.alloc (.cells cs ty)) :=
 s.add (ext_alloc w _) (heap_alloc_new w _) fun b hb => by
  have : b = w.heap.size := hb
  subst this
  simp

theorem gw_box (hop : o.op = .box t x) (hw : wantedE N ops e o = true) (hx : ev N e x = v) (k : ∀ b, GW P ops Q N w0 (Box b t v.cells :: L) rest (updO e o.dst (.pointer (some ⟨b, 0, none⟩)))) : GW P ops Q N w0 L (o :: rest) e := ⟨fun w s =>
 wl_run (w' := w.alloc (.cells v.cells t)) hw (by unfold execOp; simp [hop, Instr.box, hx, newVar, newRow, newObj, Sem.run]) ((k w.heap.size).h _ (s.box t v.cells))⟩

theorem gw_alloc {z : Value} (hop : o.op = .alloc t) (hw : wantedE N ops e o = true) (hz : zeroB P t = some z) (k : ∀ b, GW P ops Q N w0 (Box b t z.cells :: L) rest (updO e o.dst (.pointer (some ⟨b, 0, none⟩)))) : GW P ops Q N w0 L (o :: rest) e := ⟨fun w s => by
 obtain ⟨i, hi, hzi⟩ := Option.bind_eq_some_iff.1 hz
 exact wl_run (w' := w.alloc (.cells z.cells t)) hw (by unfold execOp; simp [hop, Instr.alloc, zeroValue, typeInfo, hi, hzi, newVar, newRow, newObj, Sem.run]) ((k w.heap.size).h _ (s.box t z.cells))⟩

/-- A store into a variable of the function's own. -/
theorem gw_store {b i n : Nat} {ty : TypeId} {cs : Array Value} (hop : o.op = .store t x y) (hw : wantedE N ops e o = true) (hx : ev N e x = .pointer (some ⟨b, i, none⟩)) (hy : ev N e y = v) (ht : sizeB P t = some n) (hn : v.cells.size = n)
  (h1 : v.cells.toList.all (·.oneCell') = true) (hp : Pick L (Box b ty cs) L') (hfit : i + n ≤ cs.size)
  (k : GW P ops Q N w0 (Box b ty (cs.toList.take i ++ v.cells.toList ++ cs.toList.drop (i + n)).toArray :: L') rest (updO e o.dst undef)) : GW P ops Q N w0 L (o :: rest) e := ⟨fun w s => by
 have s1 := s.pick hp
 have hb : w.heap[b]? = some (.cells cs ty (0, 0)) := s1.head
 obtain ⟨inf, hi, hsz⟩ := Option.map_eq_some_iff.1 ht
 have hst := run_storeCells_at (P := P) b i ty v.cells.toList 0 cs w hb (by simp; omega) (fun u hu => List.all_eq_true.1 h1 u hu)
 have hlen : v.cells.toList.length = n := by simpa using hn
 simp only [Nat.add_zero, hlen] at hst
 refine wl_skip_run (w' := w.setRow b (cs.toList.take i ++ v.cells.toList ++ cs.toList.drop (i + n)).toArray) hw ?_ (k.h _ (s1.turn (r' := Box b ty _) ?_ ?_ ?_ ?_ ?_ ?_ ?_))
 ·unfold execOp
  simp [hop, Instr.storeAt, hx, hy, Instr.sureAddr, storeVar, sizeOf, typeInfo, hi, hsz, hn, hst]
 ·simp [World.setRow]
 ·rfl
 ·rfl
 ·rfl
 ·intro c _ hc
  have : c ≠ b := hc
  simp [World.setRow, Array.getElem?_modify, Ne.symm this]
 ·exact setRow_heap w b cs _ ty _ hb
 ·intro c hc
  exact .inl hc⟩

section
variable {d : Nat} {op : Op} {ty : TypeId} {pos : String} {af : Array Edge} {g : Option (Nat × Bool)}
theorem gw_d {c : Value} (hd : Det P ops N w0 L ⟨some d, op, ty, pos, af, g⟩ e c) (k : GW P ops Q N w0 L rest (upd e d c)) : GW P ops Q N w0 L (⟨some d, op, ty, pos, af, g⟩ :: rest) e := gw_det hd k
theorem gd_d {c : Value} {tail : Env → Prop} (hd : Det P ops N w0 L ⟨some d, op, ty, pos, af, g⟩ e c) (k : GD P ops N w0 L tail rest (upd e d c)) : GD P ops N w0 L tail (⟨some d, op, ty, pos, af, g⟩ :: rest) e := gd_det hd k
theorem gw_boxd (hw : wantedE N ops e ⟨some d, .box t x, ty, pos, af, g⟩ = true) (hx : ev N e x = v) (k : ∀ b, GW P ops Q N w0 (Box b t v.cells :: L) rest (upd e d (.pointer (some ⟨b, 0, none⟩)))) : GW P ops Q N w0 L (⟨some d, .box t x, ty, pos, af, g⟩ :: rest) e :=
 gw_box rfl hw hx k
theorem gw_allocd {z : Value} (hw : wantedE N ops e ⟨some d, .alloc t, ty, pos, af, g⟩ = true) (hz : zeroB P t = some z) (k : ∀ b, GW P ops Q N w0 (Box b t z.cells :: L) rest (upd e d (.pointer (some ⟨b, 0, none⟩)))) :
  GW P ops Q N w0 L (⟨some d, .alloc t, ty, pos, af, g⟩ :: rest) e := gw_alloc rfl hw hz k
theorem gw_stored {b i n : Nat} {bt : TypeId} {cs : Array Value} (hw : wantedE N ops e ⟨none, .store t x y, ty, pos, af, g⟩ = true) (hx : ev N e x = .pointer (some ⟨b, i, none⟩)) (hy : ev N e y = v) (ht : sizeB P t = some n) (hn : v.cells.size = n)
  (h1 : v.cells.toList.all (·.oneCell') = true) (hp : Pick L (Box b bt cs) L') (hfit : i + n ≤ cs.size) {cs' : Array Value} (hcs : (cs.toList.take i ++ v.cells.toList ++ cs.toList.drop (i + n)).toArray = cs')
  (k : GW P ops Q N w0 (Box b bt cs' :: L') rest e) : GW P ops Q N w0 L (⟨none, .store t x y, ty, pos, af, g⟩ :: rest) e :=
 gw_store rfl hw hx hy ht hn h1 hp hfit (hcs ▸ k)
end

/-- An operation that hangs on a test that is not decided: the test is decided first. -/
theorem gw_guard {dst : Option Nat} {op : Op} {ty : TypeId} {pos : String} {af : Array Edge} {j s : Nat} {want b : Bool} (hs : (ops[j]?).bind (·.dst) = some s) (hb : e s = .bool b)
  (ht : b = true → GW P ops Q N w0 L (⟨dst, op, ty, pos, af, some (j, want)⟩ :: rest) (upd e s (.bool true))) (hf : b = false → GW P ops Q N w0 L (⟨dst, op, ty, pos, af, some (j, want)⟩ :: rest) (upd e s (.bool false))) :
  GW P ops Q N w0 L (⟨dst, op, ty, pos, af, some (j, want)⟩ :: rest) e := by
 have _ := hs
 exact guard_split (F := fun e => GW P ops Q N w0 L (⟨dst, op, ty, pos, af, some (j, want)⟩ :: rest) e) hb ht hf
theorem gw_guard_dec {dst : Option Nat} {op : Op} {ty : TypeId} {pos : String} {af : Array Edge} {j s : Nat} {want : Bool} {p : Prop} [Decidable p] (hs : (ops[j]?).bind (·.dst) = some s) (hb : e s = .bool (decide p))
  (ht : p → GW P ops Q N w0 L (⟨dst, op, ty, pos, af, some (j, want)⟩ :: rest) (upd e s (.bool true))) (hf : ¬ p → GW P ops Q N w0 L (⟨dst, op, ty, pos, af, some (j, want)⟩ :: rest) (upd e s (.bool false))) :
  GW P ops Q N w0 L (⟨dst, op, ty, pos, af, some (j, want)⟩ :: rest) e :=
 gw_guard hs hb (fun h => ht (of_decide_eq_true h)) (fun h => hf (of_decide_eq_false h))
theorem gd_guard {tail : Env → Prop} {dst : Option Nat} {op : Op} {ty : TypeId} {pos : String} {af : Array Edge} {j s : Nat} {want b : Bool} (hs : (ops[j]?).bind (·.dst) = some s) (hb : e s = .bool b)
  (ht : b = true → GD P ops N w0 L tail (⟨dst, op, ty, pos, af, some (j, want)⟩ :: rest) (upd e s (.bool true))) (hf : b = false → GD P ops N w0 L tail (⟨dst, op, ty, pos, af, some (j, want)⟩ :: rest) (upd e s (.bool false))) :
  GD P ops N w0 L tail (⟨dst, op, ty, pos, af, some (j, want)⟩ :: rest) e := by
 have _ := hs
 exact guard_split (F := fun e => GD P ops N w0 L tail (⟨dst, op, ty, pos, af, some (j, want)⟩ :: rest) e) hb ht hf
theorem gd_guard_dec {tail : Env → Prop} {dst : Option Nat} {op : Op} {ty : TypeId} {pos : String} {af : Array Edge} {j s : Nat} {want : Bool} {p : Prop} [Decidable p] (hs : (ops[j]?).bind (·.dst) = some s) (hb : e s = .bool (decide p))
  (ht : p → GD P ops N w0 L tail (⟨dst, op, ty, pos, af, some (j, want)⟩ :: rest) (upd e s (.bool true))) (hf : ¬ p → GD P ops N w0 L tail (⟨dst, op, ty, pos, af, some (j, want)⟩ :: rest) (upd e s (.bool false))) :
  GD P ops N w0 L tail (⟨dst, op, ty, pos, af, some (j, want)⟩ :: rest) e :=
 gd_guard hs hb (fun h => ht (of_decide_eq_true h)) (fun h => hf (of_decide_eq_false h))

theorem det_load_at {i : Nat} (hop : o.op = .load t x) (hw : wantedE N ops e o = true) (hx : ev N e x = .pointer (some (a.add i))) (ht : notAgg P t = true) (hb : a.block < w0.heap.size) (hc : w0.cell? (a.add i) = some v) : Det P ops N w0 L o e v :=
 det_load_old hop hw hx ht (by unfold Addr.add; split <;> exact hb) hc
theorem det_load_fld {i j : Nat} (hop : o.op = .load t x) (hw : wantedE N ops e o = true) (hx : ev N e x = .pointer (some ((a.add i).add j))) (ht : notAgg P t = true) (hb : a.block < w0.heap.size) (hc : w0.cell? (a.add (i + j)) = some v) : Det P ops N w0 L o e v :=
 det_load_old hop hw hx ht (by unfold Addr.add; split <;> split <;> exact hb) (by
  rw [← hc]
  congr 1
  unfold Addr.add
  by_cases hi : i = 0 <;> by_cases hj : j = 0 <;> simp [hi, hj, Nat.add_assoc])
/-- A whole struct out of a slice that came in. -/
theorem det_load_elem {i : Nat} {cs : List Value} (hop : o.op = .load t x) (hw : wantedE N ops e o = true) (hx : ev N e x = .pointer (some (a.add i))) (ht : aggSz P t = some cs.length) (hb : a.block < w0.heap.size)
  (hc : ∀ j u, cs[j]? = some u → w0.cell? (a.add (i + j)) = some u) : Det P ops N w0 L o e (.agg cs.toArray) :=
 det_load_oldN hop hw hx ht (by unfold Addr.add; split <;> exact hb) fun j u hu => by
  rw [← hc j u hu]
  congr 1
  unfold Addr.add
  by_cases hi : i = 0 <;> by_cases hj : j = 0 <;> simp [hi, hj, Nat.add_assoc]

section
variable {c : Value}
end

section
variable {i j n c m el sz off : Nat} {A : Option Addr} {ix : Operand} {k : IntKind} {z : Int}
theorem w_len [CIsSlice P t] (hop : o.op = .call { callee := .builtin .len, args := #[x], argTypes := #[t] }) (hw : wantedE N ops e o = true) (hx : ev N e x = .slice A n c) : Det P ops N w0 L o e (.int .i64 n) := det_len hop hw hx CIsSlice.h
theorem w_len_str [CIsStr P t] {s : ByteArray} (hop : o.op = .call { callee := .builtin .len, args := #[x], argTypes := #[t] }) (hw : wantedE N ops e o = true) (hx : ev N e x = .string s) : Det P ops N w0 L o e (.int .i64 s.size) := det_len_str hop hw hx CIsStr.h
theorem w_field {s f : Nat} [CField P s f off] (hop : o.op = .fieldAddr s x f) (hw : wantedE N ops e o = true) (hx : ev N e x = .pointer (some a)) : Det P ops N w0 L o e (.pointer (some (a.add off))) := det_field hop hw hx CField.h
theorem w_index [CSlice P t el sz] (hop : o.op = .indexAddr t x ix) (hw : wantedE N ops e o = true) (hx : ev N e x = .slice (some a) n c) (hi : ev N e ix = .int k z) (hz : z = (m : Int)) (hm : m < n) : Det P ops N w0 L o e (.pointer (some (a.add (m * sz)))) :=
 det_index hop hw hx hi CSlice.h hz hm
theorem w_index_arr [CArr P t n sz] (hop : o.op = .indexAddr t x ix) (hw : wantedE N ops e o = true) (hx : ev N e x = .pointer (some a)) (hi : ev N e ix = .int k z) (hz : z = (m : Int)) (hm : m < n) : Det P ops N w0 L o e (.pointer (some (a.add (m * sz)))) :=
 det_index_arr hop hw hx hi CArr.h hz hm
theorem w_load_at [CNotAgg P t] (hop : o.op = .load t x) (hw : wantedE N ops e o = true) (hx : ev N e x = .pointer (some (a.add i))) (hb : a.block < w0.heap.size) (hc : w0.cell? (a.add i) = some v) : Det P ops N w0 L o e v := det_load_at hop hw hx CNotAgg.h hb hc
theorem w_load_fld [CNotAgg P t] (hop : o.op = .load t x) (hw : wantedE N ops e o = true) (hx : ev N e x = .pointer (some ((a.add i).add j))) (hb : a.block < w0.heap.size) (hc : w0.cell? (a.add (i + j)) = some v) : Det P ops N w0 L o e v :=
 det_load_fld hop hw hx CNotAgg.h hb hc
theorem w_load_box [CNotAgg P t] {b : Nat} {ty : TypeId} {cs : Array Value} (hop : o.op = .load t x) (hw : wantedE N ops e o = true) (hx : ev N e x = .pointer (some ⟨b, i, none⟩)) (hp : Pick L (Box b ty cs) L') (hc : cs[i]? = some v) : Det P ops N w0 L o e v :=
 det_load_box hop hw hx CNotAgg.h hp hc
theorem w_load_boxN [CAgg P t n] {b : Nat} {ty : TypeId} {cs : Array Value} (hop : o.op = .load t x) (hw : wantedE N ops e o = true) (hx : ev N e x = .pointer (some ⟨b, 0, none⟩)) (hp : Pick L (Box b ty cs) L') (hn : cs.size = n) : Det P ops N w0 L o e (.agg cs) :=
 det_load_boxN hop hw hx (by rw [hn]; exact CAgg.h) hp
theorem w_load_elem [CAgg P t n] {cs : List Value} (hop : o.op = .load t x) (hw : wantedE N ops e o = true) (hx : ev N e x = .pointer (some (a.add i))) (hb : a.block < w0.heap.size) (hc : ∀ j u, cs[j]? = some u → w0.cell? (a.add (i + j)) = some u) (hn : cs.length = n) :
  Det P ops N w0 L o e (.agg cs.toArray) := det_load_elem hop hw hx (by rw [hn]; exact CAgg.h) hb hc
theorem w_call {f : FuncId} [CCall P f] {as : Array Operand} {ts : Array TypeId} {l : List Value} {r : Value} (hop : o.op = .call { callee := .value (.func f), args := as, argTypes := ts }) (hw : wantedE N ops e o = true)
  (hC : ∀ w, St w0 L w → Ok P f l.toArray w fun v _ => v = r) (hl : as.toList.map (ev N e) = l) : Det P ops N w0 L o e r := det_call hop hw CCall.h hl hC
variable {d : Nat} {op : Op} {ty : TypeId} {pos : String} {af : Array Edge} {g : Option (Nat × Bool)}
theorem w_alloc [CZero P t v] (hw : wantedE N ops e ⟨some d, .alloc t, ty, pos, af, g⟩ = true) (k : ∀ b, GW P ops Q N w0 (Box b t v.cells :: L) rest (upd e d (.pointer (some ⟨b, 0, none⟩)))) :
  GW P ops Q N w0 L (⟨some d, .alloc t, ty, pos, af, g⟩ :: rest) e := gw_allocd hw CZero.h k
theorem w_store [CSize P t n] {b : Nat} {bt : TypeId} {cs : Array Value} (hw : wantedE N ops e ⟨none, .store t x y, ty, pos, af, g⟩ = true) (hx : ev N e x = .pointer (some ⟨b, i, none⟩)) (hy : ev N e y = v) (hn : v.cells.size = n)
  (h1 : v.cells.toList.all (·.oneCell') = true) (hp : Pick L (Box b bt cs) L') (hfit : Nat.ble (i + n) cs.size = true) {cs' : Array Value} (hcs : (cs.toList.take i ++ v.cells.toList ++ cs.toList.drop (i + n)).toArray = cs')
  (k : GW P ops Q N w0 (Box b bt cs' :: L') rest e) : GW P ops Q N w0 L (⟨none, .store t x y, ty, pos, af, g⟩ :: rest) e :=
 gw_stored hw hx hy CSize.h hn h1 hp (Nat.le_of_ble_eq_true hfit) hcs k
end
end

/- How Go's data lie in memory: slices of whatever elements, read as lists. No program in sight. -/

theorem add_block (a : Addr) (n : Nat) : (a.add n).block = a.block := by unfold Addr.add; split <;> rfl
theorem add_add (a : Addr) (i j : Nat) : (a.add i).add j = a.add (i + j) := by
 unfold Addr.add
 by_cases hi : i = 0 <;> by_cases hj : j = 0 <;> simp [hi, hj, Nat.add_assoc]

/-- How a value of type α lies in cells: everything that it leads to lies in the blocks S. -/
structure Rp (α : Type) where
 size : Nat
 rep : World → (Nat → Prop) → α → List Value → Prop
 len : ∀ {w S x cs}, rep w S x cs → cs.length = size
 mono : ∀ {w w' S x cs}, (∀ b, S b → w'.heap[b]? = w.heap[b]?) → rep w S x cs → rep w' S x cs
 grow : ∀ {w S S' x cs}, (∀ b, S b → S' b) → rep w S x cs → rep w S' x cs

/-- The slice value v reads as the list l, inside the blocks S. -/
def SlS {α : Type} (R : Rp α) (w : World) (S : Nat → Prop) (v : Value) (l : List α) : Prop :=
 ∃ A c, v = .slice A l.length c ∧ l.length ≤ c ∧ c ≤ maxLen ∧ ∀ k (h : k < l.length), ∃ ad cs, A = some ad ∧ S ad.block ∧ (∀ j u, cs[j]? = some u → w.cell? (ad.add (k * R.size + j)) = some u) ∧ R.rep w S l[k] cs
/-- The slice value v reads as the list l, below block B. -/
def Sl {α : Type} (R : Rp α) (w : World) (B : Nat) (v : Value) (l : List α) : Prop := SlS R w (fun b => b < B) v l

theorem cell_same {w w' : World} {a : Addr} (h : w'.heap[a.block]? = w.heap[a.block]?) : w'.cell? a = w.cell? a := by
 unfold World.cell?
 rw [h]
theorem SlS.mono {α : Type} {R : Rp α} {w w' : World} {S : Nat → Prop} {v : Value} {l : List α} (hb : ∀ b, S b → w'.heap[b]? = w.heap[b]?) (h : SlS R w S v l) : SlS R w' S v l := by
 obtain ⟨A, c, hv, h1, h2, h3⟩ := h
 refine ⟨A, c, hv, h1, h2, fun k hk => ?_⟩
 obtain ⟨ad, cs, ha, hlt, hc, hr⟩ := h3 k hk
 exact ⟨ad, cs, ha, hlt, fun j u hu => (cell_same (by rw [add_block]; exact hb _ hlt)).trans (hc j u hu), R.mono hb hr⟩
theorem SlS.grow {α : Type} {R : Rp α} {w : World} {S S' : Nat → Prop} {v : Value} {l : List α} (hB : ∀ b, S b → S' b) (h : SlS R w S v l) : SlS R w S' v l := by
 obtain ⟨A, c, hv, h1, h2, h3⟩ := h
 refine ⟨A, c, hv, h1, h2, fun k hk => ?_⟩
 obtain ⟨ad, cs, ha, hlt, hc, hr⟩ := h3 k hk
 exact ⟨ad, cs, ha, hB _ hlt, hc, R.grow hB hr⟩
theorem Sl.mono {α : Type} {R : Rp α} {w w' : World} {B : Nat} {v : Value} {l : List α} (hb : Below B w w') (h : Sl R w B v l) : Sl R w' B v l := SlS.mono (fun b hb' => hb.block b hb') h
theorem Sl.grow {α : Type} {R : Rp α} {w : World} {B B' : Nat} {v : Value} {l : List α} (hB : B ≤ B') (h : Sl R w B v l) : Sl R w B' v l := SlS.grow (fun _ hb => Nat.lt_of_lt_of_le hb hB) h
/-- What was read at the function's beginning is read so at every later point. -/
theorem Sl.later {α : Type} {R : Rp α} {w0 w : World} {L : List Res} {v : Value} {l : List α} (s : St w0 L w) (h : Sl R w0 w0.heap.size v l) : Sl R w w.heap.size v l :=
 (h.mono s.below).grow s.below.size

/-- Data that the function itself has made, in the blocks S. -/
def Deep {α : Type} (S : Nat → Prop) (R : Rp α) (v : Value) (l : List α) : Res := ⟨S, fun w => SlS R w S v l, fun _ _ h p => SlS.mono h p⟩
theorem Sl.deep {α : Type} {R : Rp α} {w0 w : World} {L L' : List Res} {S : Nat → Prop} {v : Value} {l : List α} (s : St w0 L w) (hp : Pick L (Deep S R v l) L') : Sl R w w.heap.size v l :=
 SlS.grow (fun b hb => ((s.pick hp).sep.fp _ List.mem_cons_self b hb).2) (s.pick hp).head

def inI64 (i : Int) : Prop := -9223372036854775808 ≤ i ∧ i ≤ 9223372036854775807

def rInt : Rp Int where
 size := 1
 rep _ _ i cs := cs = [.int .i64 i] ∧ inI64 i
 len h := by rw [h.1]; rfl
 mono _ h := h
 grow _ h := h
def rStr : Rp ByteArray where
 size := 1
 rep _ _ s cs := cs = [.string s] ∧ s.size ≤ maxLen
 len h := by rw [h.1]; rfl
 mono _ h := h
 grow _ h := h

theorem Sl.int {w : World} {B : Nat} {v : Value} {l : List Int} (h : Sl rInt w B v l) : ∃ A c, v = .slice A l.length c ∧ l.length ≤ c ∧ l.length ≤ 9223372036854775807 ∧
  ∀ k (hk : k < l.length), ∃ ad, A = some ad ∧ ad.block < B ∧ w.cell? (ad.add (k * 1)) = some (.int .i64 l[k]) ∧ inI64 l[k] := by
 obtain ⟨A, c, hv, h1, h2, h3⟩ := h
 refine ⟨A, c, hv, h1, by unfold maxLen at h2; omega, fun k hk => ?_⟩
 obtain ⟨ad, cs, ha, hlt, hc, hr⟩ := h3 k hk
 obtain ⟨rfl, hr⟩ := hr
 exact ⟨ad, ha, hlt, hc 0 _ rfl, hr⟩

theorem cast0 : (0 : Int) = ((0 : Nat) : Int) := rfl
theorem castA (k : Nat) : (k : Int) + 1 = ((k + 1 : Nat) : Int) := by omega
theorem castB (k : Nat) : (k : Int) + 2 = ((k + 2 : Nat) : Int) := by omega
theorem castM (k n : Nat) : ((k : Int) + 1) % (n : Int) = (((k + 1) % n : Nat) : Int) := by rw [castA]; rfl
theorem castN (k n : Nat) : ((k : Int) + 2) % (n : Int) = (((k + 2) % n : Nat) : Int) := by rw [castB]; rfl
theorem castR (k n : Nat) : (k : Int) % (n : Int) = ((k % n : Nat) : Int) := by omega
theorem castS {n : Nat} (h : 1 ≤ n) : (n : Int) - 1 = ((n - 1 : Nat) : Int) := by omega
theorem wrap_in {z : Int} (h : -9223372036854775808 ≤ z ∧ z ≤ 9223372036854775807) : IntKind.i64.wrap z = z := by rw [IntKind.wrap_i64]; omega

/- Regions that draw their order and hold operations that make memory: in whatever order. No program in sight. -/

section
variable {X : Type} [Inhabited X] {P : Program} {ops : Array Oper} {Q : Exit → Act → World → Prop} {N : Nat} {w0 : World} {L : List Res} {rest : List Oper} {e : Env} {o : Oper}

/-- The outcomes of some operations alone. -/
def restr (l : List Nat) (β : Nat → X) : Nat → X := fun j => bif l.elem j then β j else default
def setF (β : Nat → X) (i : Nat) (x : X) : Nat → X := fun j => bif Nat.beq j i then x else β j

omit [Inhabited X] in
theorem setF_apply (β : Nat → X) (i : Nat) (x : X) (j : Nat) : setF β i x j = if j = i then x else β j := by
 unfold setF
 by_cases h : j = i
 ·simp [h]
 ·have : Nat.beq j i = false := by rw [← Bool.not_eq_true]; intro hb; exact h (Nat.eq_of_beq_eq_true hb)
  simp [h, this]
omit [Inhabited X] in
theorem setF_self (β : Nat → X) (i : Nat) : setF β i (β i) = β := by
 funext j
 rw [setF_apply]
 split
 ·rename_i h; rw [h]
 ·rfl
theorem restr_congr {l : List Nat} {β β' : Nat → X} (h : ∀ j ∈ l, β j = β' j) : restr l β = restr l β' := by
 funext j
 unfold restr
 cases hj : l.elem j with
 | true => exact h j (List.elem_iff.1 hj)
 | false => rfl
theorem restr_restr {l l' : List Nat} (β : Nat → X) (h : ∀ j ∈ l, j ∈ l') : restr l (restr l' β) = restr l β := by
 apply restr_congr
 intro j hj
 unfold restr
 rw [List.elem_iff.2 (h j hj)]
 rfl

/-- Resources that the step from w to w' has made. -/
def Made (w : World) (rs : List Res) (w' : World) : Prop := Sep w.heap.size rs w'
theorem Made.nil (w w' : World) : Made w [] w' := trivial

theorem sep_append {B : Nat} : ∀ {A C : List Res} {w : World}, Sep B A w → Sep B C w → (∀ r ∈ A, ∀ q ∈ C, ∀ b, r.fp b → ¬ q.fp b) → Sep B (A ++ C) w
 | [], _, _, _, hc, _ => hc
 | r :: A, C, w, ha, hc, hd => ⟨ha.1, ha.2.1, fun b hb q hq => by
   rcases List.mem_append.1 hq with h | h
   ·exact ha.2.2.1 b hb q h
   ·exact hd r List.mem_cons_self q h b hb, sep_append ha.2.2.2 hc fun r' hr' => hd r' (List.mem_cons_of_mem _ hr')⟩

theorem sep_low {B B' : Nat} (hB : B' ≤ B) : ∀ {A : List Res} {w : World}, Sep B A w → Sep B' A w
 | [], _, _ => trivial
 | _ :: _, _, h => ⟨h.1, fun b hb => ⟨Nat.le_trans hB (h.2.1 b hb).1, (h.2.1 b hb).2⟩, h.2.2.1, sep_low hB h.2.2.2⟩

theorem St.adds {w w' : World} {rs : List Res} (s : St w0 L w) (x : Ext w w') (h : Made w rs w') : St w0 (rs ++ L) w' :=
 ⟨(s.ext x).below, sep_append (sep_low s.below.size h) (s.ext x).sep fun r hr q hq b hb hqb => by
  have h1 := (Sep.fp h r hr b hb).1
  have h2 := (s.sep.fp q hq b hqb).2
  omega⟩

/-- What is held, in another order or in part. -/
theorem sep_of_mem {B : Nat} {w : World} {L : List Res} (h : Sep B L w) : ∀ {K : List Res}, K.Sublist L → Sep B K w := by
 induction L with
 | nil => intro K hk; cases hk; trivial
 | cons r L ih =>
  intro K hk
  cases hk with
  | cons _ hk => exact ih h.2.2.2 hk
  | cons_cons _ hk => exact ⟨h.1, h.2.1, fun b hb q hq => h.2.2.1 b hb q (hk.mem hq), ih h.2.2.2 hk⟩

theorem sep_perm {B : Nat} {w : World} {L K : List Res} (hp : L.Perm K) : Sep B L w → Sep B K w := by
 induction hp with
 | nil => exact id
 | cons r hp ih => intro h; exact ⟨h.1, h.2.1, fun b hb q hq => h.2.2.1 b hb q (hp.mem_iff.2 hq), ih h.2.2.2⟩
 | swap r q l =>
  rintro ⟨h1, h2, h3, g1, g2, g3, g4⟩
  refine ⟨g1, g2, fun b hb x hx hxb => ?_, h1, h2, fun b hb x hx => h3 b hb x (List.mem_cons_of_mem _ hx), g4⟩
  rcases List.mem_cons.1 hx with rfl | hx
  ·exact h3 b hxb _ List.mem_cons_self hb
  ·exact g3 b hb x hx hxb
 | trans _ _ ih1 ih2 => exact fun h => ih2 (ih1 h)
theorem St.perm {w : World} {L K : List Res} (hp : L.Perm K) (s : St w0 L w) : St w0 K w := ⟨s.below, sep_perm hp s.sep⟩
theorem St.sublist {w : World} {L K : List Res} (hs : K.Sublist L) (s : St w0 L w) : St w0 K w := ⟨s.below, sep_of_mem s.sep hs⟩

/-- One operation, in whatever world in which the operations before it have left what they leave. -/
def OpB (P : Program) (ops : Array Oper) (N : Nat) (w0 : World) (o : Oper) (i : Nat) (E : (Nat → X) → Env) (RC : (Nat → X) → List Res) (V : (Nat → X) → Value) (R : (Nat → X) → List Res) : Prop :=
 ∀ γ, (wantedE N ops (E γ) o = true ∧ ∀ w, St w0 (RC γ) w → Step P (ev N (E γ)) o w fun v w' => ∃ x, v = V (setF γ i x) ∧ Made w (R (setF γ i x)) w') ∨
  (wantedE N ops (E γ) o = false ∧ V γ = undef ∧ R γ = [])

inductive GB (P : Program) (ops : Array Oper) (N : Nat) (w0 : World) (L : List Res) (pl : Nat → List Nat) (tail : ((Nat → X) → Env) → (Nat → (Nat → X) → List Res) → Prop) : Nat → List Oper → ((Nat → X) → Env) → (Nat → (Nat → X) → List Res) → Prop
 | nil {i : Nat} {E : (Nat → X) → Env} {RL : Nat → (Nat → X) → List Res} : tail E RL → GB P ops N w0 L pl tail i [] E RL
 | cons {i : Nat} {E : (Nat → X) → Env} {RL : Nat → (Nat → X) → List Res} {o : Oper} {rest : List Oper} (V : (Nat → X) → Value) (R : (Nat → X) → List Res) :
   OpB P ops N w0 o i E (fun γ => (pl i).flatMap (RL · γ) ++ L) V R →
   GB P ops N w0 L pl tail (i + 1) rest (fun β => updO (E β) o.dst (V (restr (i :: pl i) β))) (fun j β => bif Nat.beq j i then R (restr (i :: pl i) β) else RL j β) →
   GB P ops N w0 L pl tail i (o :: rest) E RL

def bOk (ops : Array Oper) (k : Nat) (pl : Nat → List Nat) (i : Nat) (o : Oper) : Bool :=
 (match o.op with | .select .. => false | _ => true) &&
 (o.after.all fun x => !Region.binds .any x || Nat.blt x.on i) &&
 (bif Nat.blt i k then
  (o.after.all fun x => !Region.binds .any x || ((pl i).elem x.on && (pl x.on).all ((pl i).elem ·))) &&
  (pl i == (List.range k).filter ((pl i).elem ·)) && ((pl i).all fun j => Nat.blt j i && (bindsOn o j || (pl i).any fun j' => bindsOn o j' && (pl j').elem j)) &&
  ((List.range k).all fun j => match (ops[j]?).bind (·.dst) with
   | none => true
   | some d => (Nat.beq j i || o.dst != some d) && (!(o.looksAt ops).contains d || (pl i).elem j))
 else bif Nat.beq i k then (List.range k).all fun j => bindsOn o j || (List.range k).any fun j' => bindsOn o j' && (pl j').elem j
 else bindsOn o (i - 1))

def blockOk (ops : Array Oper) (k : Nat) (pl : Nat → List Nat) : Bool :=
 Nat.ble k ops.size && (List.range ops.size).all fun i => match ops[i]? with
  | none => true
  | some o => bOk ops k pl i o

theorem bOk_of {k : Nat} {pl : Nat → List Nat} (h : blockOk ops k pl = true) {i : Nat} (hi : ops[i]? = some o) : bOk ops k pl i o = true := by
 unfold blockOk at h
 rw [Bool.and_eq_true, List.all_eq_true] at h
 have := h.2 i (List.mem_range.2 (Array.getElem?_eq_some_iff.1 hi).1)
 simpa [hi] using this

structure BFirst (ops : Array Oper) (k : Nat) (pl : Nat → List Nat) (i : Nat) (o : Oper) : Prop where
 sorted : pl i = (List.range k).filter ((pl i).elem ·)
 edge : ∀ x ∈ o.after, Region.binds .any x = true → x.on < i ∧ x.on ∈ pl i ∧ ∀ j ∈ pl x.on, j ∈ pl i
 pred : ∀ j ∈ pl i, j < i ∧ (bindsOn o j = true ∨ ∃ j', bindsOn o j' = true ∧ j ∈ pl j')
 dst : ∀ j d, j < k → (ops[j]?).bind (·.dst) = some d → (j = i ∨ o.dst ≠ some d) ∧ (d ∈ o.looksAt ops → j ∈ pl i)

theorem bOk_select {k : Nat} {pl : Nat → List Nat} {i : Nat} (h : bOk ops k pl i o = true) : ∀ cs b, o.op ≠ .select cs b := by
 unfold bOk at h
 simp only [Bool.and_eq_true] at h
 intro cs b heq
 have := h.1.1
 rw [heq] at this
 simp at this
theorem bOk_edge {k : Nat} {pl : Nat → List Nat} {i : Nat} (h : bOk ops k pl i o = true) : ∀ x ∈ o.after, Region.binds .any x = true → x.on < i := by
 unfold bOk at h
 simp only [Bool.and_eq_true, Array.all_eq_true_iff_forall_mem] at h
 intro x hx hb
 have := h.1.2 x hx
 rw [hb] at this
 simpa using this

theorem bOk_first {k : Nat} {pl : Nat → List Nat} {i : Nat} (h : bOk ops k pl i o = true) (hik : i < k) : BFirst ops k pl i o := by
 have hedge := bOk_edge h
 unfold bOk at h
 have hb : Nat.blt i k = true := by rw [Nat.blt_eq]; exact hik
 rw [hb] at h
 simp only [cond_true, Bool.and_eq_true, Array.all_eq_true_iff_forall_mem, List.all_eq_true] at h
 obtain ⟨_, ⟨⟨h1, h0⟩, h2⟩, h3⟩ := h
 refine ⟨by simpa using h0, fun x hx hbx => ?_, fun j hj => ?_, fun j d hj hd => ?_⟩
 ·have := h1 x hx
  rw [hbx] at this
  simp only [Bool.not_true, Bool.false_or, Bool.and_eq_true, List.all_eq_true] at this
  exact ⟨hedge x hx hbx, List.elem_iff.1 this.1, fun j hj => List.elem_iff.1 (this.2 j hj)⟩
 ·have := h2 j hj
  simp only [Bool.or_eq_true, List.any_eq_true, Bool.and_eq_true, Nat.blt_eq] at this
  refine ⟨this.1, this.2.imp id fun ⟨j', _, h5, h6⟩ => ⟨j', h5, List.elem_iff.1 h6⟩⟩
 ·have := h3 j (List.mem_range.2 hj)
  simp only [hd, Bool.and_eq_true, Bool.or_eq_true, Bool.not_eq_true', bne_iff_ne] at this
  refine ⟨this.1.imp (fun h => Nat.eq_of_beq_eq_true h) id, fun hl => ?_⟩
  rcases this.2 with h4 | h4
  ·have h5 : (o.looksAt ops).contains d = true := List.contains_iff_mem.2 hl
   rw [h5] at h4
   cases h4
  ·exact List.elem_iff.1 h4

theorem bOk_rest {k : Nat} {pl : Nat → List Nat} {i : Nat} (h : bOk ops k pl i o = true) (hik : ¬ i < k) :
  (i = k ∧ ∀ j, j < k → bindsOn o j = true ∨ ∃ j', j' < k ∧ bindsOn o j' = true ∧ j ∈ pl j') ∨ (k < i ∧ bindsOn o (i - 1) = true) := by
 unfold bOk at h
 have hb : Nat.blt i k = false := by rw [← Bool.not_eq_true, Nat.blt_eq]; exact hik
 rw [hb] at h
 simp only [cond_false, Bool.and_eq_true] at h
 have h2 := h.2
 cases hbe : Nat.beq i k with
 | true =>
  rw [hbe] at h2
  simp only [cond_true, List.all_eq_true, List.mem_range, Bool.or_eq_true, List.any_eq_true, Bool.and_eq_true] at h2
  refine .inl ⟨Nat.eq_of_beq_eq_true hbe, fun j hj => (h2 j hj).imp id fun ⟨j', h3, h4, h5⟩ => ⟨j', h3, h4, List.elem_iff.1 h5⟩⟩
 | false =>
  rw [hbe] at h2
  simp only [cond_false] at h2
  refine .inr ⟨?_, h2⟩
  have : i ≠ k := fun h => by rw [h, Nat.beq_refl] at hbe; cases hbe
  omega

/-- The operations from k on. -/
theorem any_rest' {k : Nat} {pl : Nat → List Nat} (hok : blockOk ops k pl = true) : ∀ (fuel m : Nat) (listed : Array Bool) (a : Act) (w : World), k ≤ m → m + fuel = ops.size → listed.size = ops.size →
  (∀ i, i < ops.size → listed.getD i true = decide (i < m)) → wpList P ops Q (ops.toList.drop m) a w → wpAny P .any ops Q fuel listed a w := by
 intro fuel
 induction fuel with
 | zero =>
  intro m listed a w hkm hm hsz hl h
  have hready : Region.ready .any ops listed = [] := by
   rw [List.eq_nil_iff_forall_not_mem]
   intro j hj
   obtain ⟨h0, o, ho, _⟩ := mem_ready.1 hj
   have hlt := (Array.getElem?_eq_some_iff.1 ho).1
   rw [hl j hlt] at h0
   simp at h0
   omega
  rw [List.drop_eq_nil_of_le (by simp; omega)] at h
  exact ⟨hready, h⟩
 | succ fuel ih =>
  intro m listed a w hkm hm hsz hl h
  have hlt : m < ops.size := by omega
  have hom : ops[m]? = some ops[m] := Array.getElem?_eq_getElem hlt
  have hdrop : ops.toList.drop m = ops[m] :: ops.toList.drop (m + 1) := by
   rw [List.drop_eq_getElem_cons (by simpa using hlt)]
   simp
  have hlist : ∀ i, listed.getD i false = decide (i < m) := fun i => by
   by_cases hi : i < ops.size
   ·have := hl i hi
    rw [← this]
    have hi' : i < listed.size := by omega
    simp [hi']
   ·have hi' : ¬ i < listed.size := by omega
    simp [hi']
    omega
  have hmem : m ∈ Region.ready .any ops listed := by
   rw [mem_ready]
   refine ⟨by rw [hl m hlt]; simp, _, hom, fun x hx hb => ?_⟩
   have := bOk_edge (bOk_of hok hom) x hx hb
   rw [hlist]
   simpa using this
  refine ⟨fun h0 => (by rw [h0] at hmem; cases hmem), fun j hj => ?_⟩
  have hjm : j = m := by
   obtain ⟨h0, oj, hoj, hall⟩ := mem_ready.1 hj
   have hjlt := (Array.getElem?_eq_some_iff.1 hoj).1
   rw [hl j hjlt] at h0
   simp at h0
   rcases bOk_rest (bOk_of hok hoj) (by omega) with h1 | h1
   ·omega
   ·have := bindsOn_listed h1.2 hall
    rw [hlist] at this
    simp at this
    omega
  subst hjm
  rw [hdrop] at h
  unfold wpList at h
  unfold wpOp
  simp only [hom]
  have hnext : ∀ a w, wpList P ops Q (ops.toList.drop (j + 1)) a w → wpAny P .any ops Q fuel (listed.setIfInBounds j true) a w := fun a w h => by
   refine ih (j + 1) _ a w (by omega) (by omega) (by simpa using hsz) (fun i hi => ?_) h
   by_cases hij : j = i
   ·subst hij
    have : j < listed.size := by omega
    simp [this]
   ·rw [getD_set_ne true hij, hl i hi]
    simp
    omega
  split
  ·rename_i hw
   rw [if_pos hw] at h
   exact h.imp (Oper.wp_mono hnext) id
  ·rename_i hw
   rw [if_neg hw] at h
   exact hnext _ _ h

def vals (pl : Nat → List Nat) (V : Nat → (Nat → X) → Value) (n : Nat) (β : Nat → X) : List Value := (List.range n).map fun j => V j (restr (j :: pl j) β)

theorem envAt_snoc : ∀ (pre : List Oper) (cs : List Value) (e : Env) (o : Oper) (c : Value), cs.length = pre.length → envAt e (pre ++ [o]) (cs ++ [c]) = updO (envAt e pre cs) o.dst c
 | [], [], _, _, _, _ => rfl
 | [], _ :: _, _, _, _, h => by simp at h
 | _ :: _, [], _, _, _, h => by simp at h
 | x :: pre, v :: cs, e, o, c, h => envAt_snoc pre cs (updO e x.dst v) o c (by simpa using h)

theorem gb_vals {pl : Nat → List Nat} {tail : ((Nat → X) → Env) → (Nat → (Nat → X) → List Res) → Prop} (e : Env) : ∀ (rest pre : List Oper) (V0 : Nat → (Nat → X) → Value) (R0 : Nat → (Nat → X) → List Res) (E : (Nat → X) → Env) (RL : Nat → (Nat → X) → List Res),
  (∀ β, E β = envAt e pre (vals pl V0 pre.length β)) → (∀ j β, RL j β = if j < pre.length then R0 j (restr (j :: pl j) β) else []) → GB P ops N w0 L pl tail pre.length rest E RL →
  ∃ (V : Nat → (Nat → X) → Value) (R : Nat → (Nat → X) → List Res), (∀ j, j < pre.length → V j = V0 j ∧ R j = R0 j) ∧
   (∀ (n : Nat) (o : Oper), rest[n]? = some o → OpB P ops N w0 o (pre.length + n) (fun γ => envAt e ((pre ++ rest).take (pre.length + n)) (vals pl V (pre.length + n) γ))
    (fun γ => (pl (pre.length + n)).flatMap (fun j => if j < pre.length + n then R j (restr (j :: pl j) γ) else []) ++ L) (V (pre.length + n)) (R (pre.length + n))) ∧
   tail (fun β => envAt e (pre ++ rest) (vals pl V (pre.length + rest.length) β)) (fun j β => if j < pre.length + rest.length then R j (restr (j :: pl j) β) else [])
 | [], pre, V0, R0, E, RL, hE, hR, .nil ht => by
  refine ⟨V0, R0, fun _ _ => ⟨rfl, rfl⟩, fun n o h => by simp at h, ?_⟩
  have h1 : E = fun β => envAt e (pre ++ []) (vals pl V0 (pre.length + ([] : List Oper).length) β) := funext fun β => by simpa using hE β
  have h2 : RL = fun j β => if j < pre.length + ([] : List Oper).length then R0 j (restr (j :: pl j) β) else [] := funext fun j => funext fun β => by simpa using hR j β
  rw [← h1, ← h2]
  exact ht
 | x :: rest, pre, V0, R0, E, RL, hE, hR, .cons V1 R1 hop hrest => by
  let V2 : Nat → (Nat → X) → Value := fun j => if j = pre.length then V1 else V0 j
  let R2 : Nat → (Nat → X) → List Res := fun j => if j = pre.length then R1 else R0 j
  have hlen : (pre ++ [x]).length = pre.length + 1 := by simp
  have hvals : ∀ (V : Nat → (Nat → X) → Value), (∀ j, j < pre.length → V j = V0 j) → ∀ β, vals pl V pre.length β = vals pl V0 pre.length β := fun V hV β => by
   unfold vals
   apply List.map_congr_left
   intro j hj
   rw [hV j (List.mem_range.1 hj)]
  obtain ⟨V, R, hag, hops, htl⟩ := gb_vals e rest (pre ++ [x]) V2 R2 (fun β => updO (E β) x.dst (V1 (restr (pre.length :: pl pre.length) β)))
   (fun j β => bif Nat.beq j pre.length then R1 (restr (pre.length :: pl pre.length) β) else RL j β)
   (fun β => by
    rw [hlen]
    have : vals pl V2 (pre.length + 1) β = vals pl V0 pre.length β ++ [V1 (restr (pre.length :: pl pre.length) β)] := by
     unfold vals
     rw [List.range_succ, List.map_append]
     congr 1
     ·apply List.map_congr_left
      intro j hj
      have := List.mem_range.1 hj
      simp only [V2]
      rw [if_neg (by omega)]
     ·simp [V2]
    rw [this, envAt_snoc _ _ _ _ _ (by simp [vals]), hE β])
   (fun j β => by
    rw [hlen]
    by_cases hj : j = pre.length
    ·subst hj
     simp [R2]
    ·have hb : Nat.beq j pre.length = false := by rw [← Bool.not_eq_true]; intro h; exact hj (Nat.eq_of_beq_eq_true h)
     rw [hb, cond_false, hR j β]
     by_cases hlt : j < pre.length
     ·rw [if_pos hlt, if_pos (by omega)]
      simp only [R2]
      rw [if_neg hj]
     ·rw [if_neg hlt, if_neg (by omega)]) (by rw [hlen]; exact hrest)
  rw [hlen] at hag
  have hV1 : V pre.length = V1 := by rw [(hag pre.length (by omega)).1]; simp [V2]
  have hR1 : R pre.length = R1 := by rw [(hag pre.length (by omega)).2]; simp [R2]
  have hV0 : ∀ j, j < pre.length → V j = V0 j := fun j hj => by rw [(hag j (by omega)).1]; simp only [V2]; rw [if_neg (by omega)]
  have hR0 : ∀ j, j < pre.length → R j = R0 j := fun j hj => by rw [(hag j (by omega)).2]; simp only [R2]; rw [if_neg (by omega)]
  refine ⟨V, R, fun j hj => ⟨hV0 j hj, hR0 j hj⟩, fun n o ho => ?_, ?_⟩
  ·cases n with
   | zero =>
    simp only [List.getElem?_cons_zero, Option.some.injEq] at ho
    subst ho
    simp only [Nat.add_zero]
    rw [hV1, hR1]
    have h1 : (fun γ => envAt e ((pre ++ x :: rest).take pre.length) (vals pl V pre.length γ)) = E := funext fun γ => by
     rw [List.take_append_of_le_length (Nat.le_refl _), List.take_length, hvals V hV0, hE γ]
    have h2 : (fun γ => (pl pre.length).flatMap (fun j => if j < pre.length then R j (restr (j :: pl j) γ) else []) ++ L) = fun γ => (pl pre.length).flatMap (RL · γ) ++ L := funext fun γ => by
     congr 2
     funext j
     rw [hR j γ]
     by_cases hj : j < pre.length
     ·rw [if_pos hj, if_pos hj, hR0 j hj]
     ·rw [if_neg hj, if_neg hj]
    rw [h1, h2]
    exact hop
   | succ n =>
    have := hops n o (by simpa using ho)
    rw [hlen] at this
    have e1 : pre.length + 1 + n = pre.length + (n + 1) := by omega
    rw [e1] at this
    simpa using this
  ·rw [hlen] at htl
   have e1 : pre.length + 1 + rest.length = pre.length + (x :: rest).length := by simp; omega
   rw [e1] at htl
   simpa using htl

theorem sublist_flatMap {α β : Type} (f : α → List β) {l l' : List α} (h : l.Sublist l') : (l.flatMap f).Sublist (l'.flatMap f) := by
 induction h with
 | slnil => simp
 | cons a _ ih => rw [List.flatMap_cons]; exact ih.trans (List.sublist_append_right _ _)
 | cons_cons a _ ih => rw [List.flatMap_cons, List.flatMap_cons]; exact List.Sublist.append (List.Sublist.refl _) ih

theorem pl_trans {k : Nat} {pl : Nat → List Nat} (hok : blockOk ops k pl = true) : ∀ i, i < k → ∀ j ∈ pl i, ∀ m ∈ pl j, m ∈ pl i := by
 have hkn : k ≤ ops.size := by
  unfold blockOk at hok
  rw [Bool.and_eq_true] at hok
  exact Nat.le_of_ble_eq_true hok.1
 intro i
 induction i using Nat.strongRecOn with
 | _ i ih =>
  intro hi j hj m hm
  have hoi : ops[i]? = some ops[i] := Array.getElem?_eq_getElem (by omega)
  have hB := bOk_first (bOk_of hok hoi) hi
  have edge : ∀ j', bindsOn ops[i] j' = true → j' < i ∧ ∀ m ∈ pl j', m ∈ pl i := fun j' hb => by
   unfold bindsOn at hb
   obtain ⟨x, hx, hb⟩ := Array.any_eq_true'.1 hb
   simp only [Bool.and_eq_true, beq_iff_eq] at hb
   have := hB.edge x hx hb.1
   rw [hb.2] at this
   exact ⟨this.1, this.2.2⟩
  rcases (hB.pred j hj).2 with h | ⟨j', h, hjj⟩
  ·exact (edge j h).2 m hm
  ·exact (edge j' h).2 m (ih j' (edge j' h).1 (by have := (edge j' h).1; omega) j hjj m hm)

theorem restr_set {l : List Nat} {β : Nat → X} {i : Nat} {x : X} (h : i ∈ l) : restr l (setF β i x) = setF (restr l β) i x := by
 funext j
 rw [setF_apply]
 unfold restr
 by_cases hj : j = i
 ·subst hj
  rw [List.elem_iff.2 h, cond_true, setF_apply, if_pos rfl, if_pos rfl]
 ·rw [if_neg hj, setF_apply, if_neg hj]
theorem restr_set_not {l : List Nat} {β : Nat → X} {i : Nat} {x : X} (h : i ∉ l) : restr l (setF β i x) = restr l β := by
 apply restr_congr
 intro j hj
 rw [setF_apply, if_neg]
 rintro rfl
 exact h hj

omit [Inhabited X] in
theorem opB_wpOp {i : Nat} {K : Act → World → Prop} {w : World} {E : (Nat → X) → Env} {RC : (Nat → X) → List Res} {V : (Nat → X) → Value} {R : (Nat → X) → List Res} {γ : Nat → X} (hi : ops[i]? = some o) (hs : ∀ cs b, o.op ≠ .select cs b)
  (h : OpB P ops N w0 o i E RC V R) (hsame : ∀ t ∈ o.looksAt ops, E γ t = e t) (s : St w0 (RC γ) w) (k : ∀ x w', Ext w w' → Made w (R (setF γ i x)) w' → K (mk N (updO e o.dst (V (setF γ i x)))) w') : wpOp P ops Q i K (mk N e) w := by
 have hw : wantedE N ops (E γ) o = wantedE N ops e o := by
  unfold wantedE
  cases hg : o.guard with
  | none => rfl
  | some g =>
   obtain ⟨j, want⟩ := g
   cases hj : (ops[j]?).bind (·.dst) with
   | none => simp only [hj]
   | some d => simp only [hj, hsame d (looks_guard hg hj)]
 unfold wpOp
 simp only [hi]
 rcases h γ with ⟨h1, h2⟩ | ⟨h1, h2, h3⟩
 ·rw [hw] at h1
  rw [if_pos (by rw [wanted_mk]; exact h1)]
  refine .inl ?_
  have hstep := step_congr (ρ' := ev N e) hs (fun x hx => by
   cases x with
   | tmp t =>
    show (bif Nat.blt t N then E γ t else undef) = (bif Nat.blt t N then e t else undef)
    rw [hsame t (looks_operand hx)]
   | const v => rfl
   | global g => rfl
   | func f => rfl) (h2 w s)
  unfold Oper.wp
  rw [mk_eval]
  unfold Step at hstep
  split at hstep
  ·rename_i hr
   obtain ⟨hx, x, hv, hm⟩ := hstep
   rw [hr]
   show K ((mk N e).put o.dst _) _
   rw [mk_put, hv]
   exact k x _ hx hm
  ·rename_i hr
   obtain ⟨hx, x, hv, hm⟩ := hstep
   rw [hr]
   show K ((mk N e).put o.dst undef) _
   rw [mk_put, hv]
   exact k x _ hx hm
  ·rename_i hr
   rw [hr]
   refine Calls.mono hstep.2 ?_
   rintro y w'' ⟨v, rfl, hx, x, hv, hm⟩
   show K ((mk N e).put o.dst v) w''
   rw [mk_put, hv]
   exact k x _ (hstep.1.trans hx) hm
  ·exact hstep.elim
 ·rw [hw] at h1
  rw [if_neg (by rw [wanted_mk, h1]; simp), mk_put]
  have := k (γ i) w (Ext.refl _)
  rw [setF_self, h2, h3] at this
  exact this (Made.nil _ _)

set_option maxHeartbeats 1000000 in
theorem any_block {k : Nat} {pl : Nat → List Nat} (hok : blockOk ops k pl = true) {e : Env} {V : Nat → (Nat → X) → Value} {R : Nat → (Nat → X) → List Res}
  (hop : ∀ (i : Nat) (o : Oper), ops[i]? = some o → i < k → OpB P ops N w0 o i (fun γ => envAt e (ops.toList.take i) (vals pl V i γ)) (fun γ => (pl i).flatMap (fun j => if j < i then R j (restr (j :: pl j) γ) else []) ++ L) (V i) (R i))
  (htail : ∀ β, GW P ops Q N w0 ((List.range k).flatMap (fun j => R j (restr (j :: pl j) β)) ++ L) (ops.toList.drop k) (envAt e (ops.toList.take k) (vals pl V k β))) :
  ∀ (fuel : Nat) (listed : Array Bool) (β : Nat → X) (e' : Env) (w : World), listed.size = ops.size → listedCount listed ops.size + fuel = ops.size → (∀ i, k ≤ i → listed.getD i false = false) →
   (∀ i, i < k → listed.getD i false = true → ∀ j ∈ pl i, listed.getD j false = true) →
   (∀ (i : Nat) (o : Oper) (d : Nat), i < k → listed.getD i false = true → ops[i]? = some o → o.dst = some d → e' d = V i (restr (i :: pl i) β)) →
   (∀ t, (∀ (i : Nat) (o : Oper), i < k → listed.getD i false = true → ops[i]? = some o → o.dst ≠ some t) → e' t = e t) →
   St w0 (((List.range k).filter fun i => listed.getD i false).flatMap (fun j => R j (restr (j :: pl j) β)) ++ L) w → wpAny P .any ops Q fuel listed (mk N e') w := by
 have hkn : k ≤ ops.size := by
  unfold blockOk at hok
  rw [Bool.and_eq_true] at hok
  exact Nat.le_of_ble_eq_true hok.1
 have huniq : ∀ (i j : Nat) (oi oj : Oper) (d : Nat), i < k → j < k → ops[i]? = some oi → ops[j]? = some oj → oi.dst = some d → oj.dst = some d → i = j := fun i j oi oj d hi hj hoi hoj hdi hdj => by
  have := ((bOk_first (bOk_of hok hoi) hi).dst j d hj (by simp [hoj, hdj])).1
  rcases this with h | h
  ·exact h.symm
  ·exact absurd hdi h
 have hvget : ∀ (n j : Nat) (β : Nat → X), j < n → (vals pl V n β)[j]? = some (V j (restr (j :: pl j) β)) := fun n j β hj => by
  unfold vals
  rw [List.getElem?_map, List.getElem?_range hj]
  rfl
 have hspec : ∀ i, i ≤ k → ∀ (β : Nat → X) (t : Nat), ((∀ (j : Nat) (oj : Oper), j < i → ops[j]? = some oj → oj.dst ≠ some t) → envAt e (ops.toList.take i) (vals pl V i β) t = e t) ∧
   (∀ (j : Nat) (oj : Oper), j < i → ops[j]? = some oj → oj.dst = some t → envAt e (ops.toList.take i) (vals pl V i β) t = V j (restr (j :: pl j) β)) := fun i hi β t => by
  have hget : ∀ (j : Nat) (oj : Oper), (ops.toList.take i)[j]? = some oj ↔ j < i ∧ ops[j]? = some oj := fun j oj => by
   rw [List.getElem?_take]
   by_cases hji : j < i
   ·simp [hji]
   ·simp [hji]
  have h := envAt_spec (ops.toList.take i) (vals pl V i β) e t (by simp [vals]; omega) (fun a b oa ob ha hb hda hdb => by
   obtain ⟨ha1, ha2⟩ := (hget a oa).1 ha
   obtain ⟨hb1, hb2⟩ := (hget b ob).1 hb
   exact huniq a b oa ob t (by omega) (by omega) ha2 hb2 hda hdb)
  exact ⟨fun hn => h.1 fun j oj hj => hn j oj ((hget j oj).1 hj).1 ((hget j oj).1 hj).2, fun j oj hji hoj hd => h.2 j oj _ ((hget j oj).2 ⟨hji, hoj⟩) hd (hvget i j β hji)⟩
 -- all of the first k are listed: the rest
 have finish : ∀ (fuel : Nat) (listed : Array Bool) (β : Nat → X) (e' : Env) (w : World), listed.size = ops.size → k + fuel = ops.size → (∀ i, k ≤ i → listed.getD i false = false) → (∀ i, i < k → listed.getD i false = true) →
   (∀ (i : Nat) (o : Oper) (d : Nat), i < k → listed.getD i false = true → ops[i]? = some o → o.dst = some d → e' d = V i (restr (i :: pl i) β)) →
   (∀ t, (∀ (i : Nat) (o : Oper), i < k → listed.getD i false = true → ops[i]? = some o → o.dst ≠ some t) → e' t = e t) →
   St w0 (((List.range k).filter fun i => listed.getD i false).flatMap (fun j => R j (restr (j :: pl j) β)) ++ L) w → wpAny P .any ops Q fuel listed (mk N e') w := by
  intro fuel listed β e' w hsz hf hrest hall hval hold s
  have he : e' = envAt e (ops.toList.take k) (vals pl V k β) := by
   funext t
   have hs := hspec k (Nat.le_refl _) β t
   by_cases hex : ∃ (j : Nat) (oj : Oper), j < k ∧ ops[j]? = some oj ∧ oj.dst = some t
   ·obtain ⟨j, oj, hj, hoj, hd⟩ := hex
    rw [hval j oj t hj (hall j hj) hoj hd, hs.2 j oj hj hoj hd]
   ·rw [hold t fun i oi hi _ hoi hd => hex ⟨i, oi, hi, hoi, hd⟩, hs.1 fun j oj hj hoj hd => hex ⟨j, oj, hj, hoj, hd⟩]
  have hfil : ((List.range k).filter fun i => listed.getD i false) = List.range k := List.filter_eq_self.2 fun i hi => hall i (List.mem_range.1 hi)
  rw [hfil] at s
  have hw := (htail β).h w s
  rw [← he] at hw
  refine any_rest' hok fuel k listed _ w (Nat.le_refl _) hf hsz (fun i hi => ?_) hw
  have hi' : i < listed.size := by omega
  by_cases hik : i < k
  ·have h1 := hall i hik
   simp only [Array.getD_eq_getD_getElem?, hi', getElem?_pos, Option.getD_some] at h1 ⊢
   rw [h1]; simp [hik]
  ·have h1 := hrest i (by omega)
   simp only [Array.getD_eq_getD_getElem?, hi', getElem?_pos, Option.getD_some] at h1 ⊢
   rw [h1]; simp [hik]
 have hsplit : ∀ (listed : Array Bool) (n : Nat), (∀ i, k ≤ i → listed.getD i false = false) → (∀ i, i < k → listed.getD i false = true) → listedCount listed n = min n k := by
  intro listed n h1 h2
  induction n with
  | zero => simp [listedCount]
  | succ n ihn =>
   rw [count_succ, ihn]
   by_cases hnk : n < k
   ·rw [h2 n hnk]; simp; omega
   ·rw [h1 n (by omega)]; simp; omega
 intro fuel
 induction fuel with
 | zero =>
  intro listed β e' w hsz hcnt hrest hcl hval hold s
  have hall := count_all ops.size (by omega : listedCount listed ops.size = ops.size)
  by_cases hk : k < ops.size
  ·have h1 := hall k hk
   rw [hrest k (Nat.le_refl _)] at h1
   cases h1
  ·exact finish 0 listed β e' w hsz (by omega) hrest (fun i hi => hall i (by omega)) hval hold s
 | succ fuel ih =>
  intro listed β e' w hsz hcnt hrest hcl hval hold s
  by_cases hfirst : ∃ i, i < k ∧ listed.getD i false = false
  ·have hleast : ∃ i, (i < k ∧ listed.getD i false = false) ∧ ∀ j, j < i → j < k → listed.getD j false = true := by
    obtain ⟨n, hn, hmin⟩ := exists_least hfirst
    refine ⟨n, hn, fun j hj hjk => ?_⟩
    cases hb : listed.getD j false with
    | true => rfl
    | false => have := hmin j ⟨hjk, hb⟩; omega
   obtain ⟨i0, ⟨hi0, hun0⟩, hmin⟩ := hleast
   have hi0n : i0 < ops.size := by omega
   have hready0 : i0 ∈ Region.ready .any ops listed := by
    rw [mem_ready]
    refine ⟨?_, _, Array.getElem?_eq_getElem hi0n, fun x hx hb => ?_⟩
    ·have : i0 < listed.size := by omega
     simpa [this] using hun0
    ·have := bOk_edge (bOk_of hok (Array.getElem?_eq_getElem hi0n)) x hx hb
     exact hmin x.on this (by omega)
   refine ⟨fun h0 => (by rw [h0] at hready0; cases hready0), fun i hi => ?_⟩
   obtain ⟨hun, oi, hoi, hall⟩ := mem_ready.1 hi
   have hilt := (Array.getElem?_eq_some_iff.1 hoi).1
   have hilt' : i < listed.size := by omega
   have hun' : listed.getD i false = false := by simpa [hilt'] using hun
   have hik : i < k := by
    rcases Nat.lt_or_ge i k with h | h
    ·exact h
    ·rcases bOk_rest (bOk_of hok hoi) (by omega) with ⟨_, h1⟩ | ⟨h1, h2⟩
     ·rcases h1 i0 hi0 with h2 | ⟨j', hj', h2, h3⟩
      ·have := bindsOn_listed h2 hall
       rw [hun0] at this
       cases this
      ·have := hcl j' hj' (bindsOn_listed h2 hall) i0 h3
       rw [hun0] at this
       cases this
     ·have := bindsOn_listed h2 hall
      rw [hrest (i - 1) (by omega)] at this
      cases this
   have hB := bOk_first (bOk_of hok hoi) hik
   have hpl : ∀ j ∈ pl i, listed.getD j false = true := fun j hj => by
    rcases (hB.pred j hj).2 with h | ⟨j', h, hjj⟩
    ·exact bindsOn_listed h hall
    ·have hj' : j' < k := by
      unfold bindsOn at h
      obtain ⟨x, hx, hb⟩ := Array.any_eq_true'.1 h
      simp only [Bool.and_eq_true, beq_iff_eq] at hb
      have := (hB.edge x hx hb.1).1
      omega
     exact hcl j' hj' (bindsOn_listed h hall) j hjj
   have hplt : ∀ j ∈ pl i, j < i := fun j hj => (hB.pred j hj).1
   have hrr : ∀ j ∈ pl i, restr (j :: pl j) (restr (i :: pl i) β) = restr (j :: pl j) β := fun j hj => restr_restr β fun m hm => by
    rcases List.mem_cons.1 hm with rfl | hm
    ·exact List.mem_cons_of_mem _ hj
    ·exact List.mem_cons_of_mem _ (pl_trans hok i hik j hj m hm)
   have hsame : ∀ t ∈ oi.looksAt ops, envAt e (ops.toList.take i) (vals pl V i (restr (i :: pl i) β)) t = e' t := fun t ht => by
    have hs := hspec i (by omega) (restr (i :: pl i) β) t
    by_cases hex : ∃ (j : Nat) (oj : Oper), j < k ∧ ops[j]? = some oj ∧ oj.dst = some t
    ·obtain ⟨j, oj, hj, hoj, hdj⟩ := hex
     have hji := (hB.dst j t hj (by simp [hoj, hdj])).2 ht
     rw [hs.2 j oj (hplt j hji) hoj hdj, hval j oj t hj (hpl j hji) hoj hdj, hrr j hji]
    ·rw [hs.1 fun j oj hj hoj hd => hex ⟨j, oj, by omega, hoj, hd⟩, hold t fun j oj hj _ hoj hd => hex ⟨j, oj, hj, hoj, hd⟩]
   have hflat : (pl i).flatMap (fun j => if j < i then R j (restr (j :: pl j) (restr (i :: pl i) β)) else []) = (pl i).flatMap (fun j => R j (restr (j :: pl j) β)) := by
    rw [List.flatMap_def, List.flatMap_def]
    congr 1
    apply List.map_congr_left
    intro j hj
    rw [if_pos (hplt j hj), hrr j hj]
   have hsub : (pl i).Sublist ((List.range k).filter fun i => listed.getD i false) := by
    have h1 : (pl i) = ((List.range k).filter fun i => listed.getD i false).filter ((pl i).elem ·) := by
     rw [List.filter_filter]
     refine hB.sorted.trans ?_
     apply List.filter_congr
     intro j _
     cases hj : (pl i).elem j with
     | false => rfl
     | true => rw [hpl j (List.elem_iff.1 hj)]; rfl
    rw [h1]
    exact List.filter_sublist
   have s' : St w0 ((pl i).flatMap (fun j => if j < i then R j (restr (j :: pl j) (restr (i :: pl i) β)) else []) ++ L) w := by
    rw [hflat]
    exact s.sublist (List.Sublist.append (sublist_flatMap _ hsub) (List.Sublist.refl _))
   refine opB_wpOp (e := e') (γ := restr (i :: pl i) β) hoi (bOk_select (bOk_of hok hoi)) (hop i oi hoi hik) hsame s' fun x w' hx hm => ?_
   have hset : ∀ j, (listed.setIfInBounds i true).getD j false = if i = j then true else listed.getD j false := fun j => by
    by_cases hij : i = j
    ·subst hij; simp [hilt']
    ·rw [getD_set_ne false hij, if_neg hij]
   have hri : restr (i :: pl i) (setF β i x) = setF (restr (i :: pl i) β) i x := restr_set List.mem_cons_self
   have hrj : ∀ j, j < k → listed.getD j false = true → restr (j :: pl j) (setF β i x) = restr (j :: pl j) β := fun j hj hl => restr_set_not fun hm => by
    rcases List.mem_cons.1 hm with rfl | hm
    ·rw [hun'] at hl; cases hl
    ·have := hcl j hj hl i hm
     rw [hun'] at this
     cases this
   refine ih _ (setF β i x) _ w' (by simpa using hsz) ?_ (fun j hj => ?_) (fun j hj hl m hm => ?_) (fun j oj d hj hl hoj hdj => ?_) (fun t ht => ?_) ?_
   ·rw [count_set hilt' hun', if_pos hilt]; omega
   ·rw [hset, if_neg (by omega)]; exact hrest j hj
   ·rw [hset] at hl ⊢
    by_cases hij : i = j
    ·subst hij
     split
     ·rfl
     ·exact hpl m hm
    ·rw [if_neg hij] at hl
     split
     ·rfl
     ·exact hcl j hj hl m hm
   ·rw [hset] at hl
    by_cases hij : i = j
    ·subst hij
     rw [hoi] at hoj
     injection hoj with hoj
     subst hoj
     rw [hdj, hri]
     show upd e' d _ d = _
     rw [upd_apply, if_pos rfl]
    ·rw [if_neg hij] at hl
     have := hval j oj d hj hl hoj hdj
     rw [hrj j hj hl]
     cases hdi : oi.dst with
     | none => exact this
     | some d' =>
      show upd e' d' _ d = _
      rw [upd_apply, if_neg]
      ·exact this
      ·intro heq
       subst heq
       exact hij (huniq i j oi oj d hik hj hoi hoj hdi hdj)
   ·have h1 : e' t = e t := hold t fun j oj hj hl hoj => ht j oj hj (by rw [hset, hl]; split <;> rfl) hoj
    have h2 := ht i oi hik (by rw [hset, if_pos rfl]) hoi
    cases hdi : oi.dst with
    | none => exact h1
    | some d' =>
     show upd e' d' _ t = e t
     rw [upd_apply, if_neg]
     ·exact h1
     ·intro heq
      exact h2 (by rw [hdi, heq])
   ·have s1 := s.adds hx hm
    rw [← hri] at s1
    have hcong : ((List.range k).filter fun j => listed.getD j false).flatMap (fun j => R j (restr (j :: pl j) β)) = ((List.range k).filter fun j => listed.getD j false).flatMap (fun j => R j (restr (j :: pl j) (setF β i x))) := by
     rw [List.flatMap_def, List.flatMap_def]
     congr 1
     apply List.map_congr_left
     intro j hj
     have := List.mem_filter.1 hj
     rw [hrj j (List.mem_range.1 this.1) this.2]
    rw [hcong, ← List.append_assoc, ← List.flatMap_cons (f := fun j => R j (restr (j :: pl j) (setF β i x)))] at s1
    refine s1.perm (List.Perm.append_right L (List.Perm.flatMap_right _ ?_))
    refine (List.perm_ext_iff_of_nodup ?_ (List.nodup_range.sublist List.filter_sublist)).2 fun j => ?_
    ·rw [List.nodup_cons]
     refine ⟨fun hm => ?_, List.nodup_range.sublist List.filter_sublist⟩
     have := (List.mem_filter.1 hm).2
     rw [hun'] at this
     cases this
    ·rw [List.mem_cons, List.mem_filter, List.mem_filter, hset]
     constructor
     ·rintro (rfl | ⟨h1, h2⟩)
      ·exact ⟨List.mem_range.2 hik, by simp⟩
      ·exact ⟨h1, by split <;> first | rfl | exact h2⟩
     ·rintro ⟨h1, h2⟩
      by_cases hij : i = j
      ·exact .inl hij.symm
      ·rw [if_neg hij] at h2; exact .inr ⟨h1, h2⟩
  ·have hlist : ∀ i, i < k → listed.getD i false = true := fun i hi => by
    cases hb : listed.getD i false with
    | true => rfl
    | false => exact absurd ⟨i, hi, hb⟩ hfirst
   have hcount : listedCount listed ops.size = k := by rw [hsplit listed _ hrest hlist]; omega
   exact finish (fuel + 1) listed β e' w hsz (by omega) hrest hlist hval hold s

/-- A REGION THAT DRAWS AND MAKES MEMORY: the first k operations in whatever order (pl: what must have come before each), then the rest. -/
theorem gc_block_draw {id : Nat} {l : List Oper} (X : Type) [Inhabited X] (k : Nat) (pl : Nat → List Nat) (hm : P.follows .mixedOrders = true) (hok : blockOk l.toArray k pl = true)
  (h : GB (X := X) P l.toArray N w0 L pl (fun E RL => ∀ β, GW P l.toArray Q N w0 ((List.range k).flatMap (RL · β) ++ L) (l.drop k) (E β)) 0 (l.take k) (fun _ => e) (fun _ _ => [])) : GC P Q N w0 L (.region id l.toArray true) e := ⟨fun w s => by
 have hkn : k ≤ l.length := by
  unfold blockOk at hok
  rw [Bool.and_eq_true] at hok
  simpa using Nat.le_of_ble_eq_true hok.1
 have hlk : (l.take k).length = k := by rw [List.length_take]; omega
 obtain ⟨V, R, _, hops, ht⟩ := gb_vals (pl := pl) e (l.take k) [] (fun _ _ => undef) (fun _ _ => []) (fun _ => e) (fun _ _ => []) (fun β => rfl) (fun j β => by simp) h
 refine wp_region_any hm (any_block (X := X) (w0 := w0) (L := L) (V := V) (R := R) (k := k) (pl := pl) (e := e) hok (fun i o hi hik => ?_) (fun β => ?_) l.toArray.size _ (fun _ => default) e _ (by simp) ?_ ?_ ?_ ?_ (fun _ _ => rfl) ?_)
 ·have := hops i o (by rw [List.getElem?_take, if_pos hik]; simpa using hi)
  simp only [List.nil_append, List.length_nil, Nat.zero_add, List.take_take, Nat.min_eq_left (Nat.le_of_lt hik)] at this
  exact this
 ·have := ht β
  simp only [List.nil_append, List.length_nil, Nat.zero_add, hlk] at this
  have hf : (List.range k).flatMap (fun j => if j < k then R j (restr (j :: pl j) β) else []) = (List.range k).flatMap (fun j => R j (restr (j :: pl j) β)) := by
   rw [List.flatMap_def, List.flatMap_def]
   congr 1
   apply List.map_congr_left
   intro j hj
   rw [if_pos (List.mem_range.1 hj)]
  rw [hf] at this
  exact this
 ·have : listedCount (Array.replicate l.toArray.size false) l.toArray.size = 0 := by
   unfold listedCount
   rw [List.length_eq_zero_iff, List.filter_eq_nil_iff]
   intro i _
   by_cases hi : i < l.length <;> simp [hi]
  omega
 ·intro i _
  by_cases hi : i < l.length <;> simp [hi]
 ·intro i _ hl'
  by_cases hi : i < l.length <;> simp [hi] at hl'
 ·intro i o d _ hl'
  by_cases hi : i < l.length <;> simp [hi] at hl'
 ·have hf : ((List.range k).filter fun i => (Array.replicate l.toArray.size false).getD i false) = [] := by
   rw [List.filter_eq_nil_iff]
   intro i _
   by_cases hi : i < l.length <;> simp [hi]
  rw [hf]
  exact s.ext (Ext.drawn w _)⟩
end

/- More rules: strings, maximum and minimum, cuts of slices, rows of the function's own, sums of a region. No program in sight. -/

section
variable {P : Program} {ops : Array Oper} {Q : Exit → Act → World → Prop} {N : Nat} {w0 : World} {L L' : List Res} {rest : List Oper} {e : Env} {o : Oper} {t : TypeId} {x y ix : Operand} {a : Addr} {v z : Value} {el sz by_ : Nat} {ps : List (Nat × Nat)}

def bAt (s : ByteArray) (m : Nat) : Int := ((s.data.toList.getD m 0).toNat : Int)
theorem bAt_range (s : ByteArray) (m : Nat) : 0 ≤ bAt s m ∧ bAt s m ≤ 255 := by
 unfold bAt
 have := (s.data.toList.getD m 0).toNat_lt
 omega
theorem w_sidx [CIsStr P t] {s : ByteArray} {m : Nat} {k : IntKind} {z : Int} (hop : o.op = .index t x ix) (hw : wantedE N ops e o = true) (hx : ev N e x = .string s) (hi : ev N e ix = .int k z) (hz : z = (m : Int)) (hm : m < s.size) :
  Det P ops N w0 L o e (.int .u8 (bAt s m)) :=
 det_pure hw fun w => by
  have ht := CIsStr.h (P := P) (t := t)
  unfold isStringT at ht
  split at ht
  ·rename_i hu
   subst hz
   have hg : s[m]? = some s[m] := getElem?_pos s m hm
   have hb : bAt s m = (s[m].toNat : Int) := by
    unfold bAt
    have : m < s.data.size := hm
    simp only [List.getD_eq_getElem?_getD, Array.getElem?_toList, Array.getElem?_eq_getElem this, Option.getD_some]
    rfl
   unfold execOp
   simp [hop, hx, hi, Instr.index, run_underlying hu, asIntOf, hg, hb]
  ·cases ht

theorem w_max {i j : Int} {ts : Array TypeId} (hop : o.op = .call { callee := .builtin .max, args := #[x, y], argTypes := ts }) (hw : wantedE N ops e o = true) (hx : ev N e x = .int .i64 i) (hy : ev N e y = .int .i64 j) : Det P ops N w0 L o e (.int .i64 (max i j)) :=
 det_pure hw fun w => by
  have : max i j = if i < j then j else i := by omega
  unfold execOp
  simp [hop, resolve, invoke, builtin, hx, hy, Builtin.max_, Builtin.max2, this]
theorem w_min {i j : Int} {ts : Array TypeId} (hop : o.op = .call { callee := .builtin .min, args := #[x, y], argTypes := ts }) (hw : wantedE N ops e o = true) (hx : ev N e x = .int .i64 i) (hy : ev N e y = .int .i64 j) : Det P ops N w0 L o e (.int .i64 (min i j)) :=
 det_pure hw fun w => by
  have : min i j = if j < i then j else i := by omega
  unfold execOp
  simp [hop, resolve, invoke, builtin, hx, hy, Builtin.min_, Builtin.min2, this]

theorem w_cut_hi [CSlice P t el sz] {A : Option Addr} {n c m : Nat} {k : IntKind} {z : Int} (hop : o.op = .slice t x none (some ix) none) (hw : wantedE N ops e o = true) (hx : ev N e x = .slice A n c) (hi : ev N e ix = .int k z) (hz : z = (m : Int)) (hm : m ≤ c) :
  Det P ops N w0 L o e (.slice A m c) :=
 det_pure hw fun w => by
  have ht := CSlice.h (P := P) (t := t) (el := el) (sz := sz)
  unfold sliceSz at ht
  split at ht
  ·rename_i el' hu
   obtain ⟨i, hinfo, heq⟩ := Option.map_eq_some_iff.1 ht
   subst hz
   have h0 : (0 : Int) ≤ (m : Int) ∧ (m : Int) ≤ (c : Int) := by omega
   have hmap : A.map (fun q : Addr => q.add 0) = A := by cases A <;> simp [Addr.add]
   unfold execOp
   simp only [hop, hx, hi, Option.map_none, Option.map_some, Instr.sliceAt, Sem.run_bind, run_underlying hu, Result.andThen_ok, Instr.slice, Instr.sliceBounds, Instr.sliceBound, asIntOf, Sem.run_pure, sizeOf, typeInfo]
   simp [h0, hinfo, hmap, program, Sem.run]
  ·cases ht
theorem add_zero (b i : Nat) : (⟨b, 0, none⟩ : Addr).add i = ⟨b, i, none⟩ := by
 unfold Addr.add
 split <;> simp_all
theorem w_load_row [CNotAgg P t] {b i : Nat} {ty : TypeId} {cs : Array Value} (hop : o.op = .load t x) (hw : wantedE N ops e o = true) (hx : ev N e x = .pointer (some ((⟨b, 0, none⟩ : Addr).add i))) (hp : Pick L (Box b ty cs) L') (hc : cs[i]? = some v) : Det P ops N w0 L o e v :=
 w_load_box hop hw (by rw [hx, add_zero]) hp hc

theorem gw_makeN [CSlice P t el sz] [CZero P el z] [CBytes P el by_] {d n : Nat} {ty : TypeId} {pos : String} {af : Array Edge} {g : Option (Nat × Bool)} {kl kc : IntKind} {l c : Int} (hw : wantedE N ops e ⟨some d, .makeSlice t x y, ty, pos, af, g⟩ = true)
  (hx : ev N e x = .int kl l) (hy : ev N e y = .int kc c) (hl : l = (n : Int)) (hc : c = (n : Int)) (hb : by_ * n ≤ 281474976710656) (hn : n ≤ 9223372036854775807)
  (k : ∀ b, GW P ops Q N w0 (Box b el (madeCells z.cells (n * sz)) :: L) rest (upd e d (.slice (some ⟨b, 0, none⟩) n n))) : GW P ops Q N w0 L (⟨some d, .makeSlice t x y, ty, pos, af, g⟩ :: rest) e := ⟨fun w s => by
 have ht := CSlice.h (P := P) (t := t) (el := el) (sz := sz)
 have hz := CZero.h (P := P) (t := el) (z := z)
 have hby := CBytes.h (P := P) (t := el) (n := by_)
 unfold sliceSz at ht
 split at ht
 ·rename_i el' hu
  obtain ⟨i, hinfo, heq⟩ := Option.map_eq_some_iff.1 ht
  injection heq with h1 h2
  subst h1 h2 hl hc
  obtain ⟨i', hi', hzi⟩ := Option.bind_eq_some_iff.1 hz
  rw [hinfo] at hi'
  injection hi' with hi'
  subst hi'
  unfold bytesB at hby
  rw [hinfo] at hby
  have hby' : i.bytes = by_ := by simpa using hby
  subst hby'
  have hr := run_make (P := P) w t el' i z hu hinfo hzi kl kc n n (by omega) (by omega) (by
   have : ((i.bytes * n : Nat) : Int) ≤ 281474976710656 := by omega
   rwa [Int.natCast_mul] at this) (by omega)
  simp only [Int.toNat_natCast] at hr
  refine wl_run (w' := w.alloc (.cells (madeCells z.cells (n * i.size)) el')) hw ?_ ((k w.heap.size).h _ (s.box el' _))
  unfold execOp
  simp [hx, hy, hr]
 ·cases ht⟩
theorem made1 {n : Nat} (hsz : z.cells.size = 1) : madeCells z.cells (n * 1) = Array.replicate n (z.cells.getD 0 undef) := by
 rw [Nat.mul_one]
 unfold madeCells
 apply Array.ext
 ·simp
 ·intro j h3 h4
  simp at h3
  simp [hsz, Nat.mod_one]
theorem gw_make1 [CSlice P t el 1] [CZero P el z] [CBytes P el by_] {d n : Nat} {ty : TypeId} {pos : String} {af : Array Edge} {g : Option (Nat × Bool)} {kl kc : IntKind} {l c : Int} (hw : wantedE N ops e ⟨some d, .makeSlice t x y, ty, pos, af, g⟩ = true)
  (hx : ev N e x = .int kl l) (hy : ev N e y = .int kc c) (hl : l = (n : Int)) (hc : c = (n : Int)) (hb : by_ * n ≤ 281474976710656) (hn : n ≤ 9223372036854775807) (hsz : z.cells.size = 1)
  (k : ∀ b, GW P ops Q N w0 (Box b el (Array.replicate n (z.cells.getD 0 undef)) :: L) rest (upd e d (.slice (some ⟨b, 0, none⟩) n n))) : GW P ops Q N w0 L (⟨some d, .makeSlice t x y, ty, pos, af, g⟩ :: rest) e :=
 gw_makeN hw hx hy hl hc hb hn fun b => by rw [made1 hsz]; exact k b

def Own (A : Option Addr) (n c : Nat) (el : TypeId) (sz : Nat) (xs : List Value) : Res :=
 ⟨fun b => (Value.slice A n c).ownBlock = some b, fun w => w.ownsRow 0 el sz (.slice A n c) n xs, fun w w' h hp => by
  obtain ⟨h1, h2⟩ := hp
  refine ⟨h1, ?_⟩
  rcases h2 with h2 | ⟨g, cap, cur, hv, hg, hh, r⟩
  ·exact Or.inl h2
  ·refine Or.inr ⟨g, cap, cur, hv, hg, ?_, r⟩
   rw [← hh]
   exact h g (by rw [hv]; rfl)⟩

theorem gc_own0 (el : TypeId) (sz : Nat) {c : Code} (k : GC P Q N w0 (Own none 0 0 el sz [] :: L) c e) : GC P Q N w0 L c e := ⟨fun w s =>
 k.h w (s.add (Ext.refl w) (World.ownsRow_nil w 0 el sz) fun b hb => by simp [Own, Value.ownBlock] at hb)⟩

/-- append(s, x...): s a row of the function's own, x whatever slice, read by a list of cells. -/
theorem gw_append [CSlice P t el sz] [CZero P el z] [CBytes P el by_] {d n c m c' : Nat} {A B : Option Addr} {ty : TypeId} {pos : String} {af : Array Edge} {g : Option (Nat × Bool)} {xs news : List Value}
  (hw : wantedE N ops e ⟨some d, .call { callee := .builtin .append, args := #[x, y], argTypes := #[t, t] }, ty, pos, af, g⟩ = true) (hx : ev N e x = .slice A n c) (hy : ev N e y = .slice B m c')
  (hp : Pick L (Own A n c el sz xs) L') (hl : news.length = m * sz) (hB : ∀ w, St w0 L w → 0 < m → ∃ ad, B = some ad ∧ ∀ j u, news[j]? = some u → w.cell? (ad.add j) = some u) (h1 : ∀ u ∈ news, u.oneCell' = true)
  (h63 : n + m ≤ maxLen) (hbytes : (n + m) * by_ ≤ 140737488355328) (hsz : 0 < sz) (hzs : z.cells.size = sz)
  (k : ∀ A' c'', GW P ops Q N w0 (Own A' (n + m) c'' el sz (xs ++ news) :: L') rest (upd e d (.slice A' (n + m) c''))) :
  GW P ops Q N w0 L (⟨some d, .call { callee := .builtin .append, args := #[x, y], argTypes := #[t, t] }, ty, pos, af, g⟩ :: rest) e := ⟨fun w s => by
 have ht := CSlice.h (P := P) (t := t) (el := el) (sz := sz)
 have hz := CZero.h (P := P) (t := el) (z := z)
 have hby := CBytes.h (P := P) (t := el) (n := by_)
 unfold sliceSz at ht
 split at ht
 ·rename_i el' hu
  obtain ⟨i, hinfo, heq⟩ := Option.map_eq_some_iff.1 ht
  injection heq with e1 e2
  subst e1 e2
  obtain ⟨i', hi', hzi⟩ := Option.bind_eq_some_iff.1 hz
  rw [hinfo] at hi'
  injection hi' with hi'
  subst hi'
  unfold bytesB at hby
  rw [hinfo] at hby
  have hby' : i.bytes = by_ := by simpa using hby
  subst hby'
  have s1 := s.pick hp
  have hown : w.ownsRow 0 el' i.size (.slice A n c) n xs := s1.head
  have hrun : ∃ v' w', (Builtin.append_ #[t, t] ty #[.slice A n c, .slice B m c']).run P w = .ok v' w' ∧ w'.ownsRow 0 el' i.size v' (n + m) (xs ++ news) ∧ w.grownBy w' (Value.slice A n c).ownBlock ∧
    (v'.ownBlock = (Value.slice A n c).ownBlock ∨ v'.ownBlock = some w.heap.size) := by
   rcases Nat.eq_zero_or_pos m with h0 | h0
   ·subst h0
    have hn : news = [] := List.eq_nil_of_length_eq_zero (by simpa using hl)
    subst hn
    refine ⟨.slice A n c, w, ?_, by simpa using hown, ⟨rfl, rfl, rfl, Nat.le_refl _, fun _ _ _ => rfl⟩, .inl rfl⟩
    rcases hown.2 with ⟨hv, rfl⟩ | ⟨g', cap, cur, hv, _, _, hnc, _⟩
    ·injection hv with ha hn hc
     subst ha hc
     cases B <;> simp [Builtin.append_, run_underlying hu, sizeOf, typeInfo, hinfo, Builtin.lenOf, Builtin.firstCells, loadCells, loadCellsFrom]
    ·injection hv with ha hn hc
     subst ha hc
     cases B <;> simp [Builtin.append_, run_underlying hu, sizeOf, typeInfo, hinfo, Builtin.lenOf, Builtin.firstCells, hnc, storeCells, loadCells, loadCellsFrom]
   ·obtain ⟨ad, rfl, hcells⟩ := hB w s h0
    obtain ⟨v', w', hr, h2, h3, _, h5⟩ := run_append_own_at (P := P) w 0 t ty el' i z i.size i.bytes hu hinfo hzi rfl rfl hzs hsz (.slice A n c) n xs hown ad m c' news hl hcells h1 h63 hbytes (Nat.zero_le _)
    exact ⟨v', w', hr, h2, h3, h5⟩
  obtain ⟨v', w', hr, h2, h3, h4⟩ := hrun
  obtain ⟨A', c'', rfl⟩ : ∃ A' c'', v' = .slice A' (n + m) c'' := by
   rcases h2.2 with ⟨hv, h0⟩ | ⟨g', cap, cur, hv, _⟩
   ·exact ⟨none, 0, by rw [hv, h0]⟩
   ·exact ⟨_, _, hv⟩
  refine wl_run (w' := w') hw ?_ ((k A' c'').h _ (s1.turn (r' := Own A' (n + m) c'' el' i.size (xs ++ news)) h3.size h3.os h3.tape h3.output (fun b hb hnb => h3.block b hb fun he => hnb he.symm) h2 fun b hb => ?_))
  ·unfold execOp
   simp [hx, hy, resolve, invoke, builtin, hr]
  ·have hb' : (Value.slice A' (n + m) c'').ownBlock = some b := hb
   rcases h4 with h4 | h4
   ·exact .inl (h4.symm.trans hb')
   ·rw [h4] at hb'
    injection hb' with hb'
    subst hb'
    exact .inr ⟨Nat.le_refl _, (h2.lt _ h4).2⟩
 ·cases ht⟩

theorem fold_fill : ∀ (l : List Value) (k : Nat) (cs : Array Value), k + l.length ≤ cs.size →
  (((l.zipIdx k).foldl (fun cs (q : Value × Nat) => cs.setIfInBounds q.2 q.1) cs).toList) = cs.toList.take k ++ l ++ cs.toList.drop (k + l.length)
 | [], k, cs, _ => by simp
 | x :: l, k, cs, h => by
  simp only [List.length_cons] at h
  rw [List.zipIdx_cons, List.foldl_cons, fold_fill l (k + 1) _ (by simp; omega), Array.toList_setIfInBounds]
  have hk : k < cs.toList.length := by simp; omega
  rw [List.take_succ_eq_append_getElem (by simpa using hk)]
  simp only [List.getElem_set_self, List.length_cons]
  rw [List.take_set_of_le (Nat.le_refl k), List.drop_set_of_lt (by omega), show k + 1 + l.length = k + (l.length + 1) from by omega]
  simp

theorem fill_one {cs : Array Value} {n : Nat} (hcs : cs.size = n) (hv : v.cells.size = n) : Instr.fill (fun j => some (j * n, n)) cs [(0, v)] = some v.cells := by
 unfold Instr.fill
 simp only [hv, hcs, Nat.zero_mul, Nat.zero_add]
 have h := fold_fill v.cells.toList 0 cs (by simp; omega)
 have h2 : (Array.foldl (fun cs (x : Value × Nat) => cs.setIfInBounds x.2 x.1) cs v.cells.zipIdx) = v.cells := by
  rw [← Array.foldl_toList]
  apply Array.ext'
  rw [Array.toList_zipIdx, h]
  have : cs.toList.drop (0 + v.cells.toList.length) = [] := List.drop_eq_nil_of_le (by simp; omega)
  rw [this]
  simp
 simp [Instr.fill]
 simpa [hv] using h2

/-- x = []T{v}: one element. -/
theorem gw_bslice1 [CSlice P t el sz] [CZero P el z] {d : Nat} {q : Operand} {ty : TypeId} {pos : String} {af : Array Edge} {g : Option (Nat × Bool)} (hw : wantedE N ops e ⟨some d, .buildSlice t 1 #[(0, q)], ty, pos, af, g⟩ = true) (hq : ev N e q = v)
  (hv : v.cells.size = sz) (hsz : Nat.ble sz 1000 = true) (hpos : Nat.blt 0 sz = true) (k : ∀ b, GW P ops Q N w0 (Box b el v.cells :: L) rest (upd e d (.slice (some ⟨b, 0, none⟩) 1 1))) : GW P ops Q N w0 L (⟨some d, .buildSlice t 1 #[(0, q)], ty, pos, af, g⟩ :: rest) e := ⟨fun w s => by
 have ht := CSlice.h (P := P) (t := t) (el := el) (sz := sz)
 have hz := CZero.h (P := P) (t := el) (z := z)
 unfold sliceSz at ht
 split at ht
 ·rename_i el' hu
  obtain ⟨i, hinfo, heq⟩ := Option.map_eq_some_iff.1 ht
  injection heq with e1 e2
  subst e1 e2
  obtain ⟨i', hi', hzi⟩ := Option.bind_eq_some_iff.1 hz
  rw [hinfo] at hi'
  injection hi' with hi'
  subst hi'
  have hle := Nat.le_of_ble_eq_true hsz
  have hp : 0 < i.size := by rw [Nat.blt_eq] at hpos; exact hpos
  have hr := run_buildSlice (P := P) w t el' 1 #[(0, v)] v.cells i z hu hinfo hzi (by omega) (by omega) (fill_one (by simp) hv)
  refine wl_run (w' := w.alloc (.cells v.cells el')) hw ?_ ((k w.heap.size).h _ (s.box el' _))
  unfold execOp
  simp [hq, hr]
 ·cases ht⟩
theorem gw_bslice [CSlice P t el sz] [CZero P el z] {d len : Nat} {parts : Array (Nat × Operand)} {cells : Array Value} {ty : TypeId} {pos : String} {af : Array Edge} {g : Option (Nat × Bool)} (hw : wantedE N ops e ⟨some d, .buildSlice t len parts, ty, pos, af, g⟩ = true)
  (hsz : Nat.ble (len * sz) 100000 = true) (hpos : Nat.blt 0 (len * sz) = true) (hf : Instr.fill (fun i => some (i * sz, sz)) ((Array.range (len * sz)).map (z.cells[· % z.cells.size]!)) (parts.toList.map fun q => (q.1, ev N e q.2)) = some cells)
  (k : ∀ b, GW P ops Q N w0 (Box b el cells :: L) rest (upd e d (.slice (some ⟨b, 0, none⟩) len len))) : GW P ops Q N w0 L (⟨some d, .buildSlice t len parts, ty, pos, af, g⟩ :: rest) e := ⟨fun w s => by
 have ht := CSlice.h (P := P) (t := t) (el := el) (sz := sz)
 have hz := CZero.h (P := P) (t := el) (z := z)
 unfold sliceSz at ht
 split at ht
 ·rename_i el' hu
  obtain ⟨i, hinfo, heq⟩ := Option.map_eq_some_iff.1 ht
  injection heq with e1 e2
  subst e1 e2
  obtain ⟨i', hi', hzi⟩ := Option.bind_eq_some_iff.1 hz
  rw [hinfo] at hi'
  injection hi' with hi'
  subst hi'
  have hle := Nat.le_of_ble_eq_true hsz
  have hp : 0 < len * i.size := by rw [Nat.blt_eq] at hpos; exact hpos
  have hparts : (parts.map fun q => (q.1, ev N e q.2)).toList = parts.toList.map fun q => (q.1, ev N e q.2) := by simp
  have hr := run_buildSlice (P := P) w t el' len (parts.map fun q => (q.1, ev N e q.2)) cells i z hu hinfo hzi (by omega) (by omega) (by rw [hparts]; exact hf)
  refine wl_run (w' := w.alloc (.cells cells el')) hw ?_ ((k w.heap.size).h _ (s.box el' _))
  unfold execOp
  simp [hr]
 ·cases ht⟩
/-- T{..}: a struct. -/
theorem w_build [CPlaces P t ps] [CZero P t z] {parts : Array (Nat × Operand)} {cells : Array Value} (hop : o.op = .build t parts) (hw : wantedE N ops e o = true)
  (hf : Instr.fill (fun i => ps[i]?) z.cells (parts.toList.map fun q => (q.1, ev N e q.2)) = some cells) : Det P ops N w0 L o e (.agg cells) :=
 det_pure hw fun w => by
  have ht := CPlaces.h (P := P) (t := t) (ps := ps)
  have hz := CZero.h (P := P) (t := t) (z := z)
  unfold placesB at ht
  split at ht
  ·rename_i fs hu
   obtain ⟨i, hi, hzi⟩ := Option.bind_eq_some_iff.1 hz
   have hparts : (parts.map fun q => (q.1, ev N e q.2)).toList = parts.toList.map fun q => (q.1, ev N e q.2) := by simp
   have hr := run_build (P := P) w t (parts.map fun q => (q.1, ev N e q.2)) cells (by
    unfold Program.built
    simp only [hi, hu, hzi, ht, hparts]
    rw [← hf]
    congr 1
    funext j
    simp)
   unfold execOp
   simp [hop, hr]
  ·cases ht
end

/- Maps of the function's own, comparisons of structs of integers, conversions. No program in sight. -/

section
variable {κ : Type} [DecidableEq κ]
def aget (l : List (κ × Value)) (k : κ) : Option Value := (l.find? (fun p => p.1 == k)).map (·.2)
def aset : List (κ × Value) → κ → Value → List (κ × Value)
 | [], k, v => [(k, v)]
 | p :: l, k, v => if p.1 = k then (k, v) :: l else p :: aset l k v
theorem aget_nil (k : κ) : aget ([] : List (κ × Value)) k = none := rfl
theorem aget_cons (p : κ × Value) (l : List (κ × Value)) (k : κ) : aget (p :: l) k = if p.1 = k then some p.2 else aget l k := by
 unfold aget
 rw [List.find?_cons]
 by_cases h : p.1 = k
 ·simp [h]
 ·have hb : (p.1 == k) = false := by simpa using h
  rw [hb, if_neg h]
theorem aget_aset (l : List (κ × Value)) (k k' : κ) (v : Value) : aget (aset l k v) k' = if k = k' then some v else aget l k' := by
 induction l with
 | nil => simp [aset, aget_cons, aget_nil]
 | cons p l ih =>
  unfold aset
  by_cases h : p.1 = k
  ·rw [if_pos h, aget_cons, aget_cons]
   by_cases h2 : k = k'
   ·simp [h2]
   ·simp [h2]
    intro h3
    exact absurd (h.symm.trans h3) h2
  ·rw [if_neg h, aget_cons, aget_cons, ih]
   by_cases h2 : p.1 = k'
   ·have : ¬ k = k' := fun h3 => h (h2.trans h3.symm)
    simp [h2, this]
   ·simp [h2]

/-- How a key is written as a value, and how the model holds two of them against each other. -/
structure KeyLaw (P : Program) (kt : TypeId) (kv : κ → Value) : Prop where
 find : ∀ (k : κ) (l : List (κ × Value)) (es : List MapEntry) (w : World), es.map (fun e => (e.key, e.val)) = l.map (fun p => (kv p.1, p.2)) → (Instr.findKey kt (kv k) es).run P w = .ok ((l.findIdx? (fun p => decide (k = p.1))).map fun j => (j, ((l[j]?).map (·.2)).getD undef)) w
 check : ∀ (em : Bool) (k : κ) (w : World), (Instr.checkKey em 10000 kt (kv k)).run P w = .ok () w
 stays : ∀ (k : κ), Instr.sameBits 10000 (kv k) (kv k) = true

def ents (kv : κ → Value) (l : List (κ × Value)) (es : Array MapEntry) : Prop := es.toList.map (fun e => (e.key, e.val)) = l.map fun p => (kv p.1, p.2)

def MapR (b : Nat) (kv : κ → Value) (l : List (κ × Value)) : Res :=
 ⟨fun x => x = b, fun w => ∃ es clock, w.heap[b]? = some (.map es clock) ∧ ents kv l es ∧ (∀ x ∈ es.toList, x.born < clock) ∧ es.toList.Pairwise (fun x y => x.born < y.born), fun _ _ h ⟨es, clock, h1, h2⟩ => ⟨es, clock, (h b rfl).trans h1, h2⟩⟩

variable {P : Program} {kt : TypeId} {kv : κ → Value}

theorem findNow_spec {d : TypeDesc} (hd : ∀ a b : κ, Instr.sameNow d (kv a) (kv b) = some (decide (a = b))) (k : κ) : ∀ (es : List MapEntry) (l : List (κ × Value)) (i : Nat), es.map (fun e => (e.key, e.val)) = l.map (fun p => (kv p.1, p.2)) →
  Instr.findNow d (kv k) es i = some ((l.findIdx? (fun p => decide (k = p.1))).map fun j => (i + j, ((l[j]?).map (·.2)).getD undef))
 | [], [], i, _ => rfl
 | [], _ :: _, _, h => by simp at h
 | _ :: _, [], _, h => by simp at h
 | e :: es, p :: l, i, h => by
  simp only [List.map_cons, List.cons.injEq, Prod.mk.injEq] at h
  obtain ⟨⟨h1, h2⟩, h3⟩ := h
  unfold Instr.findNow
  rw [h1, hd k p.1, List.findIdx?_cons]
  by_cases hk : k = p.1
  ·simp [hk, h2]
  ·simp only [hk, decide_false, Bool.false_eq_true, if_false]
   rw [findNow_spec hd k es l (i + 1) h3]
   simp only [Option.map_map, Option.some.injEq]
   congr 1
   funext j
   simp [Nat.add_assoc, Nat.add_comm 1 j]

theorem aget_find (l : List (κ × Value)) (k : κ) : aget l k = (l.findIdx? (fun p => decide (k = p.1))).bind fun j => (l[j]?).map (·.2) := by
 induction l with
 | nil => rfl
 | cons p l ih =>
  rw [aget_cons, List.findIdx?_cons]
  by_cases h : p.1 = k
  ·simp [h]
  ·have h' : ¬ k = p.1 := fun h2 => h h2.symm
   simp only [h, h', if_false, decide_false, Bool.false_eq_true]
   rw [ih]
   cases l.findIdx? (fun p => decide (k = p.1)) <;> simp

theorem aset_find (l : List (κ × Value)) (k : κ) (v : Value) : aset l k v = match l.findIdx? (fun p => decide (k = p.1)) with
  | some j => l.set j (k, v)
  | none => l ++ [(k, v)] := by
 induction l with
 | nil => rfl
 | cons p l ih =>
  unfold aset
  rw [List.findIdx?_cons]
  by_cases h : p.1 = k
  ·simp [h]
  ·have h' : ¬ k = p.1 := fun h2 => h h2.symm
   simp only [h, h', if_false, decide_false, Bool.false_eq_true]
   rw [ih]
   cases l.findIdx? (fun p => decide (k = p.1)) <;> simp

theorem find_lt {l : List (κ × Value)} {k : κ} {j : Nat} (h : l.findIdx? (fun p => decide (k = p.1)) = some j) : j < l.length ∧ (l[j]?).map (·.1) = some k := by
 obtain ⟨h1, h2, _⟩ := List.findIdx?_eq_some_iff_getElem.1 h
 refine ⟨h1, ?_⟩
 rw [List.getElem?_eq_getElem h1]
 simp at h2
 simp [h2]

theorem run_findKey (K : KeyLaw P kt kv) (k : κ) {l : List (κ × Value)} {es : List MapEntry} (h : es.map (fun e => (e.key, e.val)) = l.map (fun p => (kv p.1, p.2))) (w : World) :
  (Instr.findKey kt (kv k) es).run P w = .ok ((l.findIdx? (fun p => decide (k = p.1))).map fun j => (j, ((l[j]?).map (·.2)).getD undef)) w := by
 exact K.find k l es w h
theorem find_kind {d : TypeDesc} (hu : P.underlying kt = some d) (hd : ∀ a b : κ, Instr.sameNow d (kv a) (kv b) = some (decide (a = b))) (k : κ) (l : List (κ × Value)) (es : List MapEntry) (w : World) (h : es.map (fun e => (e.key, e.val)) = l.map (fun p => (kv p.1, p.2))) :
  (Instr.findKey kt (kv k) es).run P w = .ok ((l.findIdx? (fun p => decide (k = p.1))).map fun j => (j, ((l[j]?).map (·.2)).getD undef)) w := by
 unfold Instr.findKey
 simp only [Sem.run_bind, run_underlying hu, Result.andThen_ok, findNow_spec hd k es l 0 h, Nat.zero_add]
 rfl
end

section
variable {κ : Type} [DecidableEq κ] {P : Program} {ops : Array Oper} {Q : Exit → Act → World → Prop} {N : Nat} {w0 : World} {L L' : List Res} {rest : List Oper} {e : Env} {o : Oper} {t : TypeId} {x y ix : Operand} {a : Addr} {v z : Value} {kt vt : Nat} {kv : κ → Value} {l : List (κ × Value)} {k : κ} {b : Nat}

theorem w_lookup (K : KeyLaw P kt kv) [CMap P t kt vt] [CZero P vt z] (hop : o.op = .lookup t x ix false) (hw : wantedE N ops e o = true) (hx : ev N e x = .map (some b)) (hi : ev N e ix = kv k) (hp : Pick L (MapR b kv l) L') : Det P ops N w0 L o e ((aget l k).getD z) :=
 det_run hw fun w s => by
  obtain ⟨es, clock, h1, h2, _⟩ := (s.pick hp).head
  have ht := CMap.h (P := P) (t := t) (k := kt) (v := vt)
  have hz := CZero.h (P := P) (t := vt) (z := z)
  unfold mapKV at ht
  split at ht
  ·rename_i k' v' hu
   injection ht with ht
   injection ht with e1 e2
   subst e1 e2
   obtain ⟨i, hinf, hzi⟩ := Option.bind_eq_some_iff.1 hz
   have hget : (getObj b).run P w = .ok (.map es clock) w := by
    unfold getObj
    simp [Sem.run, h1]
   unfold execOp
   simp only [hop, hx, hi, Instr.lookup, Sem.run_bind, run_underlying hu, Result.andThen_ok, hget, Sem.run_pure, K.check, run_findKey K k (l := l) (es := es.toList) h2]
   rw [aget_find]
   cases hf : l.findIdx? (fun p => decide (k = p.1)) with
   | none => simp [zeroValue, typeInfo, hinf, hzi]
   | some j =>
    obtain ⟨hj, _⟩ := find_lt hf
    simp [List.getElem?_eq_getElem hj]
  ·cases ht
theorem w_lookup_ok (K : KeyLaw P kt kv) [CMap P t kt vt] [CZero P vt z] (hop : o.op = .lookup t x ix true) (hw : wantedE N ops e o = true) (hx : ev N e x = .map (some b)) (hi : ev N e ix = kv k) (hp : Pick L (MapR b kv l) L') :
  Det P ops N w0 L o e (.tuple #[(aget l k).getD z, .bool (aget l k).isSome]) :=
 det_run hw fun w s => by
  obtain ⟨es, clock, h1, h2, _⟩ := (s.pick hp).head
  have ht := CMap.h (P := P) (t := t) (k := kt) (v := vt)
  have hz := CZero.h (P := P) (t := vt) (z := z)
  unfold mapKV at ht
  split at ht
  ·rename_i k' v' hu
   injection ht with ht
   injection ht with e1 e2
   subst e1 e2
   obtain ⟨i, hinf, hzi⟩ := Option.bind_eq_some_iff.1 hz
   have hget : (getObj b).run P w = .ok (.map es clock) w := by
    unfold getObj
    simp [Sem.run, h1]
   unfold execOp
   simp only [hop, hx, hi, Instr.lookup, Sem.run_bind, run_underlying hu, Result.andThen_ok, hget, Sem.run_pure, K.check, run_findKey K k (l := l) (es := es.toList) h2]
   rw [aget_find]
   cases hf : l.findIdx? (fun p => decide (k = p.1)) with
   | none => simp [zeroValue, typeInfo, hinf, hzi]
   | some j =>
    obtain ⟨hj, _⟩ := find_lt hf
    simp [List.getElem?_eq_getElem hj]
  ·cases ht

omit [DecidableEq κ] in
theorem gw_makeMap {d : Nat} {ty : TypeId} {pos : String} {af : Array Edge} {g : Option (Nat × Bool)} (kv : κ → Value) (hw : wantedE N ops e ⟨some d, .makeMap t none, ty, pos, af, g⟩ = true)
  (k : ∀ b, GW P ops Q N w0 (MapR b kv [] :: L) rest (upd e d (.map (some b)))) : GW P ops Q N w0 L (⟨some d, .makeMap t none, ty, pos, af, g⟩ :: rest) e := ⟨fun w s =>
 wl_run (w' := w.alloc (.map #[] 0)) hw (by unfold execOp; simp [Instr.makeMap, newObj, Sem.run]) ((k w.heap.size).h _ (s.add (ext_alloc w _) ⟨#[], 0, heap_alloc_new w _, rfl, by simp, by simp⟩ fun b hb => by
  have : b = w.heap.size := hb
  subst this
  simp))⟩

omit [DecidableEq κ] in
theorem ents_set {es : Array MapEntry} {l : List (κ × Value)} {j : Nat} {k : κ} {v : Value} (h : ents kv l es) : ents kv (l.set j (k, v)) (es.modify j fun q => { q with key := kv k, val := v }) := by
 unfold ents at *
 rw [Array.toList_modify, List.map_set, ← h]
 apply List.ext_getElem?
 intro m
 rw [List.getElem?_map, List.getElem?_set, List.getElem?_modify, List.length_map, List.getElem?_map]
 by_cases hm : j = m
 ·subst hm
  by_cases hlt : j < es.toList.length
  ·rw [List.getElem?_eq_getElem hlt]; simp
   simpa using hlt
  ·rw [List.getElem?_eq_none (by omega)]; simp
   simpa using hlt
 ·simp [hm]

theorem gw_mapSet (K : KeyLaw P kt kv) [CMap P t kt vt] {ty : TypeId} {pos : String} {af : Array Edge} {g : Option (Nat × Bool)} (hw : wantedE N ops e ⟨none, .mapUpdate t x ix y, ty, pos, af, g⟩ = true) (hx : ev N e x = .map (some b)) (hi : ev N e ix = kv k)
  (hy : ev N e y = v) (hp : Pick L (MapR b kv l) L') (kk : GW P ops Q N w0 (MapR b kv (aset l k v) :: L') rest e) : GW P ops Q N w0 L (⟨none, .mapUpdate t x ix y, ty, pos, af, g⟩ :: rest) e := ⟨fun w s => by
 have s1 := s.pick hp
 obtain ⟨es, clock, h1, h2, h3, h4⟩ := s1.head
 have ht := CMap.h (P := P) (t := t) (k := kt) (v := vt)
 unfold mapKV at ht
 split at ht
 ·rename_i k' v' hu
  injection ht with ht
  injection ht with e1 e2
  subst e1 e2
  have hlt : b < w.heap.size := (Array.getElem?_eq_some_iff.1 h1).1
  have hget : (getObj b).run P w = .ok (.map es clock) w := by
   unfold getObj
   simp [Sem.run, h1]
  have hset : ∀ ob, (setObj b ob).run P w = .ok () { w with heap := w.heap.setIfInBounds b ob } := fun ob => by
   unfold setObj
   simp [Sem.run, h1]
  have turn : ∀ es' clock', ents kv (aset l k v) es' → (∀ x ∈ es'.toList, x.born < clock') → es'.toList.Pairwise (fun x y => x.born < y.born) → St w0 (MapR b kv (aset l k v) :: L') { w with heap := w.heap.setIfInBounds b (.map es' clock') } := fun es' clock' q1 q2 q3 =>
   s1.turn (by simp) rfl rfl rfl (fun c _ hc => by
    have : b ≠ c := fun h => hc h.symm
    simp [this]) ⟨es', clock', by simp [hlt], q1, q2, q3⟩ fun c hc => .inl hc
  cases hf : l.findIdx? (fun p => decide (k = p.1)) with
  | none =>
   refine wl_skip_run (w' := { w with heap := w.heap.setIfInBounds b (.map (es.push { key := kv k, val := v, born := clock }) (clock + 1)) }) hw ?_ (kk.h _ (turn _ _ ?_ ?_ ?_))
   ·unfold execOp
    simp only [hx, hi, hy, Instr.mapUpdate, Sem.run_bind, run_underlying hu, Result.andThen_ok, hget, K.check, run_findKey K k (l := l) (es := es.toList) h2, hf, Option.map_none, hset, Sem.run_pure]
   ·rw [aset_find, hf]
    unfold ents at *
    simp [h2]
   ·intro q hq
    simp only [Array.toList_push, List.mem_append, List.mem_singleton] at hq
    rcases hq with hq | rfl
    ·have := h3 q hq; omega
    ·simp
   ·rw [Array.toList_push, List.pairwise_append]
    exact ⟨h4, by simp, fun q hq r hr => by simp only [List.mem_singleton] at hr; subst hr; exact h3 q hq⟩
  | some j =>
   obtain ⟨hj, hkj⟩ := find_lt hf
   have hlen : es.toList.length = l.length := by have := congrArg List.length h2; simpa using this
   have hjes : j < es.size := by simp at hlen; omega
   have hkey : es[j]?.map (·.key) = some (kv k) := by
    have h5 : (es.toList.map fun e => (e.key, e.val))[j]? = (l.map fun p => (kv p.1, p.2))[j]? := by rw [show es.toList.map (fun e => (e.key, e.val)) = l.map (fun p => (kv p.1, p.2)) from h2]
    rw [List.getElem?_map, List.getElem?_map, List.getElem?_eq_getElem hj] at h5
    rw [List.getElem?_eq_getElem hj] at hkj
    simp only [Option.map_some, Option.some.injEq] at hkj
    simp only [Array.getElem?_toList, Array.getElem?_eq_getElem hjes, Option.map_some, Option.some.injEq, Prod.mk.injEq] at h5
    rw [Array.getElem?_eq_getElem hjes]
    simp [h5.1, hkj]
   have hstay : (Instr.keyThatStays (kv k) (kv k)).run P w = .ok (kv k) w := by
    unfold Instr.keyThatStays
    simp [K.stays]
   refine wl_skip_run (w' := { w with heap := w.heap.setIfInBounds b (.map (es.modify j fun q => { q with key := kv k, val := v }) clock) }) hw ?_ (kk.h _ (turn _ _ ?_ ?_ ?_))
   ·unfold execOp
    simp only [hx, hi, hy, Instr.mapUpdate, Sem.run_bind, run_underlying hu, Result.andThen_ok, hget, K.check, run_findKey K k (l := l) (es := es.toList) h2, hf, Option.map_some, hkey, Option.getD_some, hstay, hset, Sem.run_pure]
   ·rw [aset_find, hf]
    exact ents_set h2
   ·intro q hq
    rw [Array.toList_modify] at hq
    obtain ⟨m, hm, hmq⟩ := List.getElem_of_mem hq
    rw [List.getElem_modify] at hmq
    simp at hm
    split at hmq
    ·subst hmq; exact h3 es.toList[m] (List.getElem_mem _)
    ·subst hmq; exact h3 es.toList[m] (List.getElem_mem _)
   ·rw [Array.toList_modify, List.pairwise_iff_getElem]
    intro p q hp hq hpq
    rw [List.getElem_modify, List.getElem_modify]
    have h6 := List.pairwise_iff_getElem.1 h4 p q (by simpa using hp) (by simpa using hq) hpq
    split <;> split <;> exact h6
 ·cases ht⟩

theorem ba_beq (a b : ByteArray) : (a == b) = decide (a = b) := by
 cases a; cases b
 show ByteArray.beq _ _ = _
 simp [ByteArray.beq]
 rw [Bool.eq_iff_iff]; simp
/-- Keys that are integers. -/
def kInt (i : Int) : Value := .int .i64 i
theorem intLaw (hu : P.underlying kt = some (.int .i64)) : KeyLaw P kt kInt where
 find := find_kind hu fun a b => by
  show (if IntKind.i64 = IntKind.i64 then some (a == b) else none) = _
  simp
  by_cases h : a = b <;> simp [h]
 check em k w := by
  have : (10000 : Nat) = 9999 + 1 := rfl
  rw [this]
  unfold Instr.checkKey
  simp [run_underlying hu, kInt]
 stays k := by simp [kInt, Instr.sameBits]
def kStr (s : ByteArray) : Value := .string s
theorem strLaw (hu : P.underlying kt = some .string) : KeyLaw P kt kStr where
 find := find_kind hu fun a b => by
  show some (a == b) = _
  rw [ba_beq]
 check em k w := by
  have : (10000 : Nat) = 9999 + 1 := rfl
  rw [this]
  unfold Instr.checkKey
  simp [run_underlying hu, kStr]
 stays k := by simp [kStr, Instr.sameBits, ba_beq]
end
section
variable {P : Program} {ops : Array Oper} {Q : Exit → Act → World → Prop} {N : Nat} {w0 : World} {L L' : List Res} {rest : List Oper} {e : Env} {d off : Nat} {op : Op} {ty t : TypeId} {pos : String} {af : Array Edge} {g : Option (Nat × Bool)} {x y : Operand} {v : Value} {a : Addr} {tail : Env → Prop}
theorem gU (k : GW P ops Q N w0 L rest (upd e d undef)) (hw : wantedE N ops e ⟨some d, op, ty, pos, af, g⟩ = false := by exact rfl) : GW P ops Q N w0 L (⟨some d, op, ty, pos, af, g⟩ :: rest) e := gw_d (det_not hw) k
theorem gM (k : GW P ops Q N w0 L rest (upd e d v)) (hop : mvOf op = some x := by exact rfl) (hw : wantedE N ops e ⟨some d, op, ty, pos, af, g⟩ = true := by exact rfl) (hx : ev N e x = v := by conv => (lhs; whnf)) : GW P ops Q N w0 L (⟨some d, op, ty, pos, af, g⟩ :: rest) e := gw_d (det_m hop hw hx) k
theorem dU (k : GD P ops N w0 L tail rest (upd e d undef)) (hw : wantedE N ops e ⟨some d, op, ty, pos, af, g⟩ = false := by exact rfl) : GD P ops N w0 L tail (⟨some d, op, ty, pos, af, g⟩ :: rest) e := gd_d (det_not hw) k
theorem dM (k : GD P ops N w0 L tail rest (upd e d v)) (hop : mvOf op = some x := by exact rfl) (hw : wantedE N ops e ⟨some d, op, ty, pos, af, g⟩ = true := by exact rfl) (hx : ev N e x = v := by conv => (lhs; whnf)) : GD P ops N w0 L tail (⟨some d, op, ty, pos, af, g⟩ :: rest) e := gd_d (det_m hop hw hx) k
theorem gF {s f : Nat} [CField P s f off] (k : GW P ops Q N w0 L rest (upd e d (.pointer (some (a.add off))))) (hop : op = .fieldAddr s x f := by exact rfl) (hw : wantedE N ops e ⟨some d, op, ty, pos, af, g⟩ = true := by exact rfl) (hx : ev N e x = .pointer (some a) := by exact rfl) : GW P ops Q N w0 L (⟨some d, op, ty, pos, af, g⟩ :: rest) e := gw_d (w_field hop hw hx) k
theorem gC {b : BinOp} {k0 : IntKind} {i j : Int} {yt : TypeId} {r : Bool} (k : GW P ops Q N w0 L rest (upd e d (.bool r))) (hop : op = .binOp b t x y yt := by exact rfl) (hw : wantedE N ops e ⟨some d, op, ty, pos, af, g⟩ = true := by exact rfl) (hx : ev N e x = .int k0 i := by exact rfl) (hy : ev N e y = .int k0 j := by exact rfl) (hr : intBin b k0 i j = some (.bool r) := by exact rfl) : GW P ops Q N w0 L (⟨some d, op, ty, pos, af, g⟩ :: rest) e := gw_d (det_cmp hop hw hx hy hr) k
theorem gL [CIsSlice P t] {A : Option Addr} {n c : Nat} (k : GW P ops Q N w0 L rest (upd e d (.int .i64 n))) (hop : op = .call { callee := .builtin .len, args := #[x], argTypes := #[t] } := by exact rfl) (hw : wantedE N ops e ⟨some d, op, ty, pos, af, g⟩ = true := by exact rfl) (hx : ev N e x = .slice A n c := by exact rfl) : GW P ops Q N w0 L (⟨some d, op, ty, pos, af, g⟩ :: rest) e := gw_d (w_len hop hw hx) k
theorem gA {b : BinOp} {k0 : IntKind} {i j r : Int} {yt : TypeId} (k : GW P ops Q N w0 L rest (upd e d (.int k0 r))) (hop : op = .binOp b t x y yt := by exact rfl) (hw : wantedE N ops e ⟨some d, op, ty, pos, af, g⟩ = true := by exact rfl) (hx : ev N e x = .int .i64 i := by exact rfl) (hy : ev N e y = .int .i64 j := by exact rfl) (hr : intBin b .i64 i j = some (.int k0 (IntKind.i64.wrap r)) := by exact rfl) (hb : -9223372036854775808 ≤ r ∧ r ≤ 9223372036854775807 := by omega) : GW P ops Q N w0 L (⟨some d, op, ty, pos, af, g⟩ :: rest) e := gw_d (det_ar hop hw hx hy hr hb) k
theorem gPp {p q : Operand} {b : Bool} (k : GW P ops Q N w0 L rest (upd e d (.bool b))) (hop : op = .pick x p q := by exact rfl) (hw : wantedE N ops e ⟨some d, op, ty, pos, af, g⟩ = true := by exact rfl) (hc : ev N e x = .bool true := by exact rfl) (hx : ev N e p = .bool b := by exact rfl) : GW P ops Q N w0 L (⟨some d, op, ty, pos, af, g⟩ :: rest) e := gw_d (det_pick_t (v := .bool b) hop hw hc hx) k
theorem gPq {p q : Operand} {b : Bool} (k : GW P ops Q N w0 L rest (upd e d (.bool b))) (hop : op = .pick x p q := by exact rfl) (hw : wantedE N ops e ⟨some d, op, ty, pos, af, g⟩ = true := by exact rfl) (hc : ev N e x = .bool false := by exact rfl) (hx : ev N e q = .bool b := by exact rfl) : GW P ops Q N w0 L (⟨some d, op, ty, pos, af, g⟩ :: rest) e := gw_d (det_pick_f (v := .bool b) hop hw hc hx) k
theorem gW [CNotAgg P t] {b i : Nat} {bt : TypeId} {cs : Array Value} (hp : Pick L (Box b bt cs) L') (k : GW P ops Q N w0 L rest (upd e d v)) (hop : op = .load t x := by exact rfl) (hw : wantedE N ops e ⟨some d, op, ty, pos, af, g⟩ = true := by exact rfl) (hx : ev N e x = .pointer (some ⟨b, i, none⟩) := by exact rfl) (hc : cs[i]? = some v := by exact rfl) : GW P ops Q N w0 L (⟨some d, op, ty, pos, af, g⟩ :: rest) e := gw_d (w_load_box hop hw hx hp hc) k
theorem gD {p : Prop} [Decidable p] {j s : Nat} {dst : Option Nat} {want : Bool} (ht : p → GW P ops Q N w0 L (⟨dst, op, ty, pos, af, some (j, want)⟩ :: rest) (upd e s (.bool true))) (hf : ¬ p → GW P ops Q N w0 L (⟨dst, op, ty, pos, af, some (j, want)⟩ :: rest) (upd e s (.bool false))) (hs : (ops[j]?).bind (·.dst) = some s := by exact rfl) (hb : e s = .bool (decide p) := by exact rfl) : GW P ops Q N w0 L (⟨dst, op, ty, pos, af, some (j, want)⟩ :: rest) e := gw_guard_dec hs hb ht hf
theorem gN {id : Nat} {l : List Oper} {z : Code} (h : GW P l.toArray (Exit.then (z.wp P Q) Q) N w0 L l e) : GW P ops (Exit.then ((Code.seq (.region id l.toArray false) z).wp P Q) Q) N w0 L [] e := gw_nil (gx_next (gc_seq (gc_region h)))
theorem gO {z : Code} (h : GC P Q N w0 L z e) : GW P ops (Exit.then (z.wp P Q) Q) N w0 L [] e := gw_nil (gx_next h)
theorem gV {id : Nat} {l : List Oper} {z : Code} (h : GW P l.toArray (Exit.then (z.wp P Q) Q) N w0 L l e) : GC P Q N w0 L (Code.seq (.region id l.toArray false) z) e := gc_seq (gc_region h)
theorem gQ {x y : Code} (h : GC P (Exit.then (y.wp P Q) Q) N w0 L x e) : GC P Q N w0 L (.seq x y) e := gc_seq h
theorem gG {id : Nat} {l : List Oper} (h : GW P l.toArray Q N w0 L l e) : GC P Q N w0 L (.region id l.toArray false) e := gc_region h
theorem gT {next : Act → World → Prop} (h : GX Q N w0 L .ret e) : GX (Exit.then next Q) N w0 L .ret e := gx_then_ret h
theorem gR (h : GX Q N w0 L .ret e) : GC P Q N w0 L .ret e := gc_ret h
theorem gY {id : Nat} (h : GX Q N w0 L .ret e) : GX (Exit.inBlock id Q) N w0 L .ret e := gx_block_ret h
theorem gX {y : Code} (h : GC P Q N w0 L y e) : GX (Exit.then (y.wp P Q) Q) N w0 L .normal e := gx_next h
theorem gK (h : GX Q N w0 L .normal e) : GC P Q N w0 L .skip e := gc_skip h
theorem gZ {next : Act → World → Prop} {id : Nat} (h : GX Q N w0 L (.exit id) e) : GX (Exit.then next Q) N w0 L (.exit id) e := gx_then_exit h
theorem gJ {id : Nat} (h : GX Q N w0 L .normal e) : GX (Exit.inBlock id Q) N w0 L (.exit id) e := gx_block_exit h
theorem gH {id : Nat} (h : GX Q N w0 L .normal e) : GX (Exit.inBlock id Q) N w0 L .normal e := gx_block h
theorem gB {id : Nat} {c : Code} (h : GC P (Exit.inBlock id Q) N w0 L c e) : GC P Q N w0 L (.block id c) e := gc_block h
theorem gI {id : Nat} (h : GX Q N w0 L (.exit id) e) : GC P Q N w0 L (.exit id) e := gc_exit h
theorem kK {wr : List Nat} {e e' : Env} (h : Keeps wr e e' := by repeat (first | exact Keeps.refl | refine Keeps.upd rfl ?_ | refine Keeps.sets rfl ?_ | refine Keeps.havoc rfl ?_)) : Keeps wr e e' := h
theorem gb1 {fn : Func} {φ : Value → World → Prop} {b : Bool} {t : Nat} (h : ∀ w, St w0 L w → φ (.bool b) w) (hres : fn.results = #[.tmp t] := by exact rfl) (hv : ev N e (.tmp t) = .bool b := by exact rfl) : GX (Post P fn w0 φ) N w0 L .ret e := gx_ret1 hres hv h
theorem gi1 {fn : Func} {φ : Value → World → Prop} {k : IntKind} {i : Int} {t : Nat} (h : ∀ w, St w0 L w → φ (.int k i) w) (hres : fn.results = #[.tmp t] := by exact rfl) (hv : ev N e (.tmp t) = .int k i := by exact rfl) : GX (Post P fn w0 φ) N w0 L .ret e := gx_ret1 hres hv h
end
section
variable {P : Program} {ops : Array Oper} {Q : Exit → Act → World → Prop} {N : Nat} {w0 : World} {L L' : List Res} {rest : List Oper} {e : Env} {o : Oper} {t : TypeId} {x y ix : Operand} {a : Addr} {v z : Value} {n : Nat}

theorem equalIn_int {d : Nat} {ft : TypeId} {i j : Int} {w : World} (hu : P.underlying ft = some (.int .i64)) : (Op.equalIn (d + 1) ft (.int .i64 i) (.int .i64 j)).run P w = .ok (i == j) w := by
 simp [Op.equalIn, run_underlying hu]

theorem part_int {ft : TypeId} {cs : Array Value} {off : Nat} {w : World} (hu : P.underlying ft = some (.int .i64)) (hc : cs[off]? = some v) : (part ft cs off).run P w = .ok v w := by
 simp [part, isAgg, run_underlying hu, hc]

/-- What the model's loop over the fields gives. -/
theorem fields_eq {d : Nat} {w : World} (xs ys : List Int) (hlen : xs.length = ys.length) : ∀ (fs : List Field) (k : Nat), (∀ (j : Nat) (f : Field), fs[j]? = some f → f.name ≠ "_" ∧ f.offset = k + j ∧ P.underlying f.type = some (.int .i64)) → k + fs.length = xs.length →
  (forIn (m := Sem) fs ((none, ()) : Option Bool × Unit) fun f _ =>
   if f.name ≠ "_" then do
    let p ← part f.type (xs.map (Value.int .i64)).toArray f.offset
    let q ← part f.type (ys.map (Value.int .i64)).toArray f.offset
    let r ← Op.equalIn (d + 1) f.type p q
    if (!r) = true then pure (ForInStep.done (some false, ())) else pure (ForInStep.yield (none, ()))
   else pure (ForInStep.yield (none, ()))).run P w = .ok (if xs.drop k = ys.drop k then none else some false, ()) w
 | [], k, _, hk => by
  have h1 : xs.drop k = [] := List.drop_eq_nil_of_le (by simp at hk; omega)
  have h2 : ys.drop k = [] := List.drop_eq_nil_of_le (by simp at hk; omega)
  simp [h1, h2]
 | f :: fs, k, hf, hk => by
  obtain ⟨h1, h2, h3⟩ := hf 0 f rfl
  simp only [Nat.add_zero] at h2
  simp only [List.length_cons] at hk
  have hkx : k < xs.length := by omega
  have hky : k < ys.length := by omega
  have ih := fields_eq (d := d) (w := w) xs ys hlen fs (k + 1) (fun j g hg => by
   have := hf (j + 1) g (by simpa using hg)
   exact ⟨this.1, by omega, this.2.2⟩) (by omega)
  have p1 : (part f.type (xs.map (Value.int .i64)).toArray f.offset).run P w = .ok (.int .i64 xs[k]) w := part_int h3 (by rw [h2]; simp [hkx])
  have p2 : (part f.type (ys.map (Value.int .i64)).toArray f.offset).run P w = .ok (.int .i64 ys[k]) w := part_int h3 (by rw [h2]; simp [hky])
  rw [List.forIn_cons]
  simp only [Sem.run_bind, if_pos h1, p1, p2, Result.andThen_ok, equalIn_int h3]
  rw [List.drop_eq_getElem_cons hkx, List.drop_eq_getElem_cons hky]
  by_cases he : xs[k] = ys[k]
  ·simp only [he, beq_self_eq_true, Bool.not_true, Bool.false_eq_true, if_false, Sem.run_pure, Result.andThen_ok, List.cons.injEq, true_and]
   exact ih
  ·have hb : (xs[k] == ys[k]) = false := by simpa using he
   have hd : ¬ (xs[k] :: xs.drop (k + 1) = ys[k] :: ys.drop (k + 1)) := fun h => by injection h with h _; exact he h
   rw [if_neg hd]
   simp [hb]

theorem run_eq_ints [CInts P t n] {d : Nat} {w : World} {xs ys : List Int} (hx : xs.length = n) (hy : ys.length = n) :
  (Op.equalIn (d + 2) t (.agg (xs.map (Value.int .i64)).toArray) (.agg (ys.map (Value.int .i64)).toArray)).run P w = .ok (decide (xs = ys)) w ∧ P.eqGuardType P.depth t = false := by
 have h := CInts.h (P := P) (t := t) (n := n)
 unfold intStruct at h
 split at h
 ·rename_i fs hu
  split at h
  ·rename_i hc
   injection h with h
   simp only [Bool.and_eq_true, Bool.not_eq_true', List.all_eq_true] at hc
   refine ⟨?_, hc.2⟩
   have hf := fields_eq (P := P) (d := d) (w := w) xs ys (by omega) fs.toList 0 (fun j f hj => by
    have hmem : (f, j) ∈ fs.toList.zipIdx := by
     rw [List.mem_iff_getElem?]
     exact ⟨j, by simp [hj]⟩
    have h1 := hc.1.1 (f, j) hmem
    simp only [bne_iff_ne, beq_iff_eq] at h1
    refine ⟨h1.1.1, by omega, ?_⟩
    have h2 := h1.2
    split at h2
    ·assumption
    ·cases h2) (by simp; omega)
   unfold Op.equalIn
   simp only [Sem.run_bind, run_underlying hu, Result.andThen_ok]
   rw [← Array.forIn_toList]
   have hprog : (program).run P w = .ok P w := rfl
   simp only [hprog, Result.andThen_ok, hc.1.2, Bool.false_eq_true, if_false, Sem.run_bind]
   rw [hf]
   simp only [List.drop_zero, Result.andThen_ok]
   by_cases he : xs = ys <;> simp [he]
  ·cases h
 ·cases h

theorem w_eqs [CInts P t n] {xs ys : List Int} {yt : TypeId} (hop : o.op = .binOp .eql t x y yt) (hw : wantedE N ops e o = true) (hx : ev N e x = .agg (xs.map (Value.int .i64)).toArray) (hy : ev N e y = .agg (ys.map (Value.int .i64)).toArray) (h1 : xs.length = n) (h2 : ys.length = n) :
  Det P ops N w0 L o e (.bool (decide (xs = ys))) :=
 det_pure hw fun w => by
  have h := fun w => run_eq_ints (P := P) (t := t) (n := n) (d := 9998) (w := w) h1 h2
  unfold execOp
  simp only [hop, hx, hy, eqGuard, binOp]
  simp [Op.equal, Op.maxDepth, (h w).1, (h w).2, program, Sem.run]
theorem w_nes [CInts P t n] {xs ys : List Int} {yt : TypeId} (hop : o.op = .binOp .neq t x y yt) (hw : wantedE N ops e o = true) (hx : ev N e x = .agg (xs.map (Value.int .i64)).toArray) (hy : ev N e y = .agg (ys.map (Value.int .i64)).toArray) (h1 : xs.length = n) (h2 : ys.length = n) :
  Det P ops N w0 L o e (.bool (decide (¬ xs = ys))) :=
 det_pure hw fun w => by
  have h := fun w => run_eq_ints (P := P) (t := t) (n := n) (d := 9998) (w := w) h1 h2
  unfold execOp
  simp only [hop, hx, hy, eqGuard, binOp]
  simp [Op.equal, Op.maxDepth, (h w).1, (h w).2, program, Sem.run]
theorem w_eq2 [CInts P t 2] {a1 a2 b1 b2 : Int} {yt : TypeId} (hop : o.op = .binOp .eql t x y yt) (hw : wantedE N ops e o = true) (hx : ev N e x = .agg #[.int .i64 a1, .int .i64 a2]) (hy : ev N e y = .agg #[.int .i64 b1, .int .i64 b2]) : Det P ops N w0 L o e (.bool (decide ((a1, a2) = (b1, b2)))) :=
 det_eq (w_eqs (n := 2) (xs := [a1, a2]) (ys := [b1, b2]) hop hw hx hy rfl rfl) (by congr 1; simp)
theorem w_ne2 [CInts P t 2] {a1 a2 b1 b2 : Int} {yt : TypeId} (hop : o.op = .binOp .neq t x y yt) (hw : wantedE N ops e o = true) (hx : ev N e x = .agg #[.int .i64 a1, .int .i64 a2]) (hy : ev N e y = .agg #[.int .i64 b1, .int .i64 b2]) : Det P ops N w0 L o e (.bool (decide (¬ (a1, a2) = (b1, b2)))) :=
 det_eq (w_nes (n := 2) (xs := [a1, a2]) (ys := [b1, b2]) hop hw hx hy rfl rfl) (by congr 1; simp)

theorem w_callv {f : FuncId} [CCall P f] {fo : Operand} {as : Array Operand} {ts : Array TypeId} {l : List Value} {r : Value} {fst cap : Array Value} (hop : o.op = .call { callee := .value fo, args := as, argTypes := ts }) (hw : wantedE N ops e o = true)
  (hf : ev N e fo = .func (.func f) fst cap) (hC : ∀ w, St w0 L w → Ok P f l.toArray w fun v _ => v = r) (hl : fst.toList ++ as.toList.map (ev N e) ++ cap.toList = l) : Det P ops N w0 L o e r :=
 det_enter (f := f) (args := l.toArray) hw (fun w => by
  have hcf := CCall.h (P := P) (f := f)
  have hargs : fst ++ as.map (ev N e) ++ cap = l.toArray := by rw [← hl]; apply Array.ext'; simp
  unfold callable at hcf
  split at hcf
  ·rename_i fn hfn
   rw [Bool.and_eq_true, Bool.not_eq_true', Bool.not_eq_true'] at hcf
   have h1 : ¬ fn.name = "runtime.NumGoroutine" := by simpa using hcf.1
   have h2 : ¬ fn.body = none := fun h => by rw [h] at hcf; cases hcf.2
   unfold execOp
   simp [hop, resolve, hf, Deferred.ofValue, invoke, callFunc, program, hfn, h1, h2, hargs, Sem.run]
  ·cases hcf) hC

def rSpot : Rp (Int × Int) where
 size := 2
 rep _ _ p cs := cs = [.int .i64 p.1, .int .i64 p.2] ∧ inI64 p.1 ∧ inI64 p.2
 len h := by rw [h.1]; rfl
 mono _ h := h
 grow _ h := h
theorem Sl.spot {w : World} {B : Nat} {v : Value} {l : List (Int × Int)} (h : Sl rSpot w B v l) : ∃ A c, v = .slice A l.length c ∧ l.length ≤ c ∧ l.length ≤ 9223372036854775807 ∧
  ∀ k (hk : k < l.length), ∃ ad, A = some ad ∧ ad.block < B ∧ (∀ j u, [Value.int .i64 l[k].1, Value.int .i64 l[k].2][j]? = some u → w.cell? (ad.add (k * 2 + j)) = some u) ∧ inI64 l[k].1 ∧ inI64 l[k].2 := by
 obtain ⟨A, c, hv, h1, h2, h3⟩ := h
 refine ⟨A, c, hv, h1, by unfold maxLen at h2; omega, fun k hk => ?_⟩
 obtain ⟨ad, cs, ha, hlt, hc, hr⟩ := h3 k hk
 obtain ⟨rfl, hr1, hr2⟩ := hr
 exact ⟨ad, ha, hlt, hc, hr1, hr2⟩

theorem Sl.take {α : Type} {R : Rp α} {w : World} {B : Nat} {A : Option Addr} {n c : Nat} {l : List α} (h : Sl R w B (.slice A n c) l) {m : Nat} (hm : m ≤ l.length) : Sl R w B (.slice A m c) (l.take m) := by
 obtain ⟨A', c', hv, h1, h2, h3⟩ := h
 injection hv with e1 e2 e3
 subst e1 e3
 refine ⟨A, c, by rw [List.length_take, Nat.min_eq_left hm], by rw [List.length_take]; omega, h2, fun k hk => ?_⟩
 have hk' : k < l.length := by rw [List.length_take] at hk; omega
 obtain ⟨ad, cs, ha, hlt, hc, hr⟩ := h3 k hk'
 exact ⟨ad, cs, ha, hlt, hc, by rw [List.getElem_take]; exact hr⟩

/-- A store of a whole struct into its variable. -/
theorem w_store_all [CSize P t n] {b : Nat} {bt ty : TypeId} {cs vs : Array Value} {pos : String} {af : Array Edge} {g : Option (Nat × Bool)} (hw : wantedE N ops e ⟨none, .store t x y, ty, pos, af, g⟩ = true) (hx : ev N e x = .pointer (some ⟨b, 0, none⟩)) (hy : ev N e y = .agg vs) (hn : vs.size = n)
  (h1 : vs.toList.all (·.oneCell') = true) (hp : Pick L (Box b bt cs) L') (hcs : cs.size = n) (k : GW P ops Q N w0 (Box b bt vs :: L') rest e) : GW P ops Q N w0 L (⟨none, .store t x y, ty, pos, af, g⟩ :: rest) e :=
 w_store (v := .agg vs) hw hx hy hn h1 hp (by rw [Nat.zero_add, hcs]; exact Nat.ble_eq_true_of_le (Nat.le_refl _)) (by
  show (cs.toList.take 0 ++ vs.toList ++ cs.toList.drop (0 + n)).toArray = vs
  rw [List.drop_eq_nil_of_le (by simp; omega)]
  simp) k
end

/- Loops that keep all that is owned. No program in sight. -/

theorem Sub.all : ∀ (L : List Res), Sub L L
 | [] => .nil
 | _r :: L => .cons .here (Sub.all L)

section
variable {P : Program} {ops : Array Oper} {Q : Exit → Act → World → Prop} {N : Nat} {w0 : World} {L L' : List Res} {rest : List Oper} {e : Env} {o : Oper} {t : TypeId} {x y ix : Operand} {a : Addr} {v z : Value} {n : Nat}

/-- A loop whose rounds keep all that is owned as it is. -/
theorem gc_loopK {σ : Type} {c : Code} (wr : List Nat) (S : σ → List (Nat × Value)) (I : σ → Prop) (μ : σ → Nat) (s0 : σ) (hI : I s0) (hA : Ats (S s0) e)
  (round : ∀ s base, I s → GC P (Exit.then (Rnd N w0 wr e S (fun _ => L) I μ (μ s)) Q) N w0 L c (sets (S s) (havoc wr e base))) : GC P Q N w0 L (.loop c) e :=
 gc_loop wr S (fun _ => L) I μ s0 hI hA (Sub.all L) round
end

/- Calls that give fresh memory, conversions and shifts, results in variables, and rules for drawn regions that make memory. No program in sight. -/

/-- A call whose result is fresh: V x for some x, and R x is made. -/
def OkM {X : Type} (P : Program) (f : FuncId) (args : Array Value) (w : World) (V : X → Value) (R : X → List Res) : Prop :=
 Ok P f args w fun v w' => ∃ x, v = V x ∧ Made w (R x) w'

section
variable {P : Program} {ops : Array Oper} {Q : Exit → Act → World → Prop} {N : Nat} {w0 : World} {L L' : List Res} {rest : List Oper} {e : Env} {o : Oper} {t : TypeId} {x y ix : Operand} {a : Addr} {v z : Value} {n m : Nat}
variable {d : Nat} {op : Op} {ty : TypeId} {pos : String} {af : Array Edge} {g : Option (Nat × Bool)}

theorem step_call {X : Type} {f : FuncId} [CCall P f] {as : Array Operand} {ts : Array TypeId} {l : List Value} {V : X → Value} {R : X → List Res} {w : World} (hop : o.op = .call { callee := .value (.func f), args := as, argTypes := ts }) (hl : as.toList.map (ev N e) = l)
  (hC : OkM P f l.toArray w V R) : Step P (ev N e) o w fun v w' => ∃ x, v = V x ∧ Made w (R x) w' := by
 unfold Step
 rw [run_call hop CCall.h hl]
 exact ⟨Ext.refl _, hC⟩

/-- A call with a fresh result, in order. -/
theorem gw_callm {X : Type} {f : FuncId} [CCall P f] {as : Array Operand} {ts : Array TypeId} {l : List Value} {V : X → Value} {R : X → List Res} (hw : wantedE N ops e ⟨some d, .call { callee := .value (.func f), args := as, argTypes := ts }, ty, pos, af, g⟩ = true)
  (hC : ∀ w, St w0 L w → OkM P f l.toArray w V R) (hl : as.toList.map (ev N e) = l) (k : ∀ x, GW P ops Q N w0 (R x ++ L) rest (upd e d (V x))) :
  GW P ops Q N w0 L (⟨some d, .call { callee := .value (.func f), args := as, argTypes := ts }, ty, pos, af, g⟩ :: rest) e := ⟨fun w s =>
 wl_step hw (step_call rfl hl (hC w s)) fun v w' x ⟨y, hv, hm⟩ => by subst hv; exact (k y).h w' (s.adds x hm)⟩

theorem det_conv {t2 : TypeId} {k k' k0 : IntKind} {i r : Int} [CInt P t2 k'] [CInt P t k0] (hop : o.op = .convert t t2 x) (hw : wantedE N ops e o = true) (hx : ev N e x = .int k i) (hr : k'.wrap i = r) : Det P ops N w0 L o e (.int k' r) :=
 det_pure hw fun w => by
  have h := CInt.h (P := P) (t := t2) (k := k')
  unfold intKindB at h
  split at h
  ·rename_i k2 hu
   injection h with h
   subst h hr
   have h0 := CInt.h (P := P) (t := t) (k := k0)
   unfold intKindB at h0
   split at h0
   ·rename_i k1 hu1
    unfold execOp
    simp [hop, hx, convert, run_underlying hu, run_underlying hu1, Conv.intToInt]
   ·cases h0
  ·cases h

theorem det_shr {k k' : IntKind} {i j r : Int} {yt : TypeId} (hop : o.op = .binOp .shr t x y yt) (hw : wantedE N ops e o = true) (hx : ev N e x = .int k i) (hy : ev N e y = .int k' j) (hj : 0 ≤ j) (hr : i.fdiv (2 ^ (min j.toNat k.bits)) = r) : Det P ops N w0 L o e (.int k r) :=
 det_pure hw fun w => by
  have : ¬ j < 0 := by omega
  unfold execOp
  simp [hop, hx, hy, binOp, Op.shift, this, hr, eqGuard]

/-- copy into a slice that holds nothing. -/
theorem det_copy0 [CSlice P t n m] {A B : Option Addr} {c k c' : Nat} (hop : o.op = .call { callee := .builtin .copy, args := #[x, y], argTypes := #[t, t] }) (hw : wantedE N ops e o = true) (hx : ev N e x = .slice A 0 c) (hy : ev N e y = .slice B k c') : Det P ops N w0 L o e (.int .i64 0) :=
 det_pure hw fun w => by
  have ht := CSlice.h (P := P) (t := t) (el := n) (sz := m)
  unfold sliceSz at ht
  split at ht
  ·rename_i el' hu
   obtain ⟨i, hinfo, heq⟩ := Option.map_eq_some_iff.1 ht
   injection heq with h1 h2
   subst h1 h2
   unfold execOp
   cases A <;> cases B <;> simp [hop, hx, hy, resolve, invoke, builtin, Builtin.copy_, run_underlying hu, Builtin.lenOf, Builtin.firstCells, sizeOf, typeInfo, hinfo, loadCells, loadCellsFrom, storeCells, goInt]
  ·cases ht

theorem gx_retc [CAgg P t n] {fn : Func} {φ : Value → World → Prop} {b r : Nat} {bt : TypeId} {cs : Array Value} (hres : fn.results = #[.cell r t]) (hv : ev N e (.tmp r) = .pointer (some ⟨b, 0, none⟩)) (hp : Pick L (Box b bt cs) L') (hn : cs.size = n) (h : ∀ w, St w0 L w → φ (.agg cs) w) :
  GX (Post P fn w0 φ) N w0 L .ret e :=
 gx_ret (fun w s => by
  have hl := run_loadVarN (P := P) (t := t) (cs := cs.toList) (a := ⟨b, 0, none⟩) (w := w) (by rw [Array.length_toList, hn]; exact CAgg.h) fun j u hu => by
   have hadd : (⟨b, 0, none⟩ : Addr).add j = ⟨b, j, none⟩ := by unfold Addr.add; split <;> simp_all
   rw [hadd, Box.cell (s.pick hp).head j]
   simpa using hu
  have hg : (mk N e).tmps.getD r undef = .pointer (some ⟨b, 0, none⟩) := by rw [mk_getD]; exact hv
  simp only [Array.getD_eq_getD_getElem?] at hg
  simp [results, hres, hg, asAddr, hl]) h

/-- A load of a struct that is a part of a variable. -/
theorem w_load_part [CAgg P t n] {b i : Nat} {bt : TypeId} {cs : Array Value} {l : List Value} (hop : o.op = .load t x) (hw : wantedE N ops e o = true) (hx : ev N e x = .pointer (some ⟨b, i, none⟩)) (hp : Pick L (Box b bt cs) L') (hc : (cs.toList.drop i).take n = l) (hn : l.length = n) :
  Det P ops N w0 L o e (.agg l.toArray) :=
 det_load hop hw hx fun w s => by
  have h := run_loadVarN (P := P) (t := t) (cs := l) (a := ⟨b, i, none⟩) (w := w) (by rw [hn]; exact CAgg.h) fun j u hu => by
   have hadd : (⟨b, i, none⟩ : Addr).add j = ⟨b, i + j, none⟩ := by unfold Addr.add; split <;> simp_all
   rw [hadd, Box.cell (s.pick hp).head (i + j)]
   subst hc
   rw [List.getElem?_take] at hu
   split at hu
   ·rw [List.getElem?_drop] at hu
    simpa using hu
   ·cases hu
  exact h

variable {X : Type} [Inhabited X] {pl : Nat → List Nat} {tail : ((Nat → X) → Env) → (Nat → (Nat → X) → List Res) → Prop} {i : Nat} {E : (Nat → X) → Env} {RL : Nat → (Nat → X) → List Res}

theorem gb_d {V : (Nat → X) → Value} (hd : ∀ γ, Det P ops N w0 ((pl i).flatMap (RL · γ) ++ L) ⟨some d, op, ty, pos, af, g⟩ (E γ) (V γ)) (h1 : ∀ γ x, V (setF γ i x) = V γ) (h2 : ∀ β, V (restr (i :: pl i) β) = V β)
  (k : GB P ops N w0 L pl tail (i + 1) rest (fun β => upd (E β) d (V β)) (fun j β => bif Nat.beq j i then [] else RL j β)) : GB P ops N w0 L pl tail i (⟨some d, op, ty, pos, af, g⟩ :: rest) E RL := by
 refine GB.cons V (fun _ => []) (fun γ => ?_) ?_
 ·rcases hd γ with ⟨hw, hs⟩ | ⟨hw, hv⟩
  ·refine .inl ⟨hw, fun w s => ?_⟩
   have := hs w s
   unfold Step at this ⊢
   split at this
   ·exact ⟨this.1, default, by rw [h1]; exact this.2, trivial⟩
   ·exact ⟨this.1, default, by rw [h1]; exact this.2, trivial⟩
   ·exact ⟨this.1, this.2.mono fun v w' _ hv => ⟨default, by rw [h1]; exact hv, trivial⟩⟩
   ·exact this.elim
  ·exact .inr ⟨hw, hv, rfl⟩
 ·have he : (fun β => updO (E β) (⟨some d, op, ty, pos, af, g⟩ : Oper).dst (V (restr (i :: pl i) β))) = fun β => upd (E β) d (V β) := by
   funext β; rw [h2]; rfl
  rw [he]
  exact k

/-- A call with a fresh result, in whatever order. -/
theorem gb_call {f : FuncId} [CCall P f] {as : Array Operand} {ts : Array TypeId} {l : (Nat → X) → List Value} (V : (Nat → X) → X → Value) (R : (Nat → X) → X → List Res) (hw : ∀ γ, wantedE N ops (E γ) ⟨some d, .call { callee := .value (.func f), args := as, argTypes := ts }, ty, pos, af, g⟩ = true)
  (hC : ∀ γ w, St w0 ((pl i).flatMap (RL · γ) ++ L) w → OkM P f (l γ).toArray w (V γ) (R γ)) (hl : ∀ γ, as.toList.map (ev N (E γ)) = l γ) (h1 : ∀ γ x, V (setF γ i x) = V γ ∧ R (setF γ i x) = R γ) (h2 : ∀ β, V (restr (i :: pl i) β) = V β ∧ R (restr (i :: pl i) β) = R β)
  (k : GB P ops N w0 L pl tail (i + 1) rest (fun β => upd (E β) d (V β (β i))) (fun j β => bif Nat.beq j i then R β (β i) else RL j β)) :
  GB P ops N w0 L pl tail i (⟨some d, .call { callee := .value (.func f), args := as, argTypes := ts }, ty, pos, af, g⟩ :: rest) E RL := by
 refine GB.cons (fun γ => V γ (γ i)) (fun γ => R γ (γ i)) (fun γ => .inl ⟨hw γ, fun w s => ?_⟩) ?_
 ·have h := step_call (o := ⟨some d, .call { callee := .value (.func f), args := as, argTypes := ts }, ty, pos, af, g⟩) rfl (hl γ) (hC γ w s)
  have hs : ∀ x, setF γ i x i = x := fun x => by rw [setF_apply, if_pos rfl]
  unfold Step at h ⊢
  split at h
  ·obtain ⟨h3, x, h4, h5⟩ := h
   exact ⟨h3, x, by show _ = V _ (setF γ i x i); rw [(h1 γ x).1, hs]; exact h4, by show Made w (R _ (setF γ i x i)) _; rw [(h1 γ x).2, hs]; exact h5⟩
  ·obtain ⟨h3, x, h4, h5⟩ := h
   exact ⟨h3, x, by show _ = V _ (setF γ i x i); rw [(h1 γ x).1, hs]; exact h4, by show Made w (R _ (setF γ i x i)) _; rw [(h1 γ x).2, hs]; exact h5⟩
  ·exact ⟨h.1, h.2.mono fun v w' _ ⟨x, h4, h5⟩ => ⟨x, by show _ = V _ (setF γ i x i); rw [(h1 γ x).1, hs]; exact h4, by show Made w (R _ (setF γ i x i)) _; rw [(h1 γ x).2, hs]; exact h5⟩⟩
  ·exact h.elim
 ·have hr : ∀ β : Nat → X, restr (i :: pl i) β i = β i := fun β => by unfold restr; simp
  have he : (fun β => updO (E β) (⟨some d, .call { callee := .value (.func f), args := as, argTypes := ts }, ty, pos, af, g⟩ : Oper).dst (V (restr (i :: pl i) β) (restr (i :: pl i) β i))) = fun β => upd (E β) d (V β (β i)) := by
   funext β; rw [(h2 β).1, hr]; rfl
  have hRR : (fun j β => bif Nat.beq j i then R (restr (i :: pl i) β) (restr (i :: pl i) β i) else RL j β) = fun j β => bif Nat.beq j i then R β (β i) else RL j β := by
   funext j β; rw [(h2 β).2, hr]
  rw [he, hRR]
  exact k
end

/- Rows of the function's own, read as lists; pieces of memory that are handed on. No program in sight. -/

theorem flat_get {α : Type} {enc : α → List Value} {sz : Nat} : ∀ (l : List α) (_ : ∀ x ∈ l, (enc x).length = sz) (k : Nat) (hk : k < l.length) (j : Nat), j < sz → (l.flatMap enc)[k * sz + j]? = (enc l[k])[j]?
 | x :: l, hl, 0, _, j, hj => by
  have hx := hl x List.mem_cons_self
  rw [List.flatMap_cons, Nat.zero_mul, Nat.zero_add, List.getElem?_append_left (by omega)]
  rfl
 | x :: l, hl, k + 1, hk, j, hj => by
  have hx := hl x List.mem_cons_self
  rw [List.flatMap_cons, List.getElem?_append_right (by rw [hx, Nat.succ_mul]; omega), hx, show (k + 1) * sz + j - sz = k * sz + j by rw [Nat.succ_mul]; omega]
  exact flat_get l (fun y hy => hl y (List.mem_cons_of_mem _ hy)) k (by simpa using hk) j hj

/-- A row of the function's own reads as a list. -/
theorem Sl.own {α : Type} {R : Rp α} {enc : α → List Value} {w0 w : World} {L L' : List Res} {A : Option Addr} {n c : Nat} {el : TypeId} {l : List α} (s : St w0 L w) (hp : Pick L (Own A n c el R.size (l.flatMap enc)) L') (hn : n = l.length)
  (henc : ∀ x ∈ l, R.rep w (fun b => b < w.heap.size) x (enc x)) : Sl R w w.heap.size (.slice A n c) l := by
 have hs := s.pick hp
 have hown : w.ownsRow 0 el R.size (.slice A n c) n (l.flatMap enc) := hs.head
 subst hn
 rcases hown.2 with ⟨hv, h0⟩ | ⟨g, cap, cur, hv, _, hg, h1, h2, _⟩
 ·injection hv with e1 e2 e3
  subst e1 e3
  exact ⟨none, 0, rfl, by omega, Nat.zero_le _, fun k hk => by omega⟩
 ·injection hv with e1 e2 e3
  subst e1 e3
  have hb : g < w.heap.size := (Array.getElem?_eq_some_iff.1 hg).1
  refine ⟨_, _, rfl, h1, h2, fun k hk => ⟨⟨g, 0, none⟩, enc l[k], rfl, hb, fun j u hu => ?_, henc _ (List.getElem_mem hk)⟩⟩
  refine hown.cells rfl _ u ?_
  have hj : j < (enc l[k]).length := (List.getElem?_eq_some_iff.1 hu).1
  rw [R.len (henc _ (List.getElem_mem hk))] at hj
  rw [flat_get l (fun x hx => R.len (henc x hx)) k hk j hj]
  exact hu

/- Maps that shrink and are ranged over, what is held put in another form, new variables in drawn regions. No program in sight. -/

def Ent (L K : List Res) : Prop := ∀ (w0 w : World), St w0 L w → St w0 K w
theorem Sub.ent {L K : List Res} (h : Sub L K) : Ent L K := fun _ _ s => s.sub h
theorem Ent.refl (L : List Res) : Ent L L := fun _ _ s => s
theorem Ent.trans {L K M : List Res} (h : Ent L K) (k : Ent K M) : Ent L M := fun w0 w s => k w0 w (h w0 w s)
theorem Sub.weak {r : Res} {L K : List Res} (h : Sub L K) : Sub (r :: L) K := by
 induction h with
 | nil => exact .nil
 | cons p _ ih => exact .cons (.there p) ih
theorem Sub.tail {r : Res} {L : List Res} : Sub (r :: L) L := Sub.weak (Sub.all L)
theorem Ent.cons {r : Res} {L K : List Res} (h : Ent L K) (hs : ∀ q ∈ K, ∀ b, q.fp b → ∃ p ∈ L, p.fp b) : Ent (r :: L) (r :: K) := fun w0 w s => by
 have hk := h w0 w s.drop
 exact ⟨s.below, s.sep.1, s.sep.2.1, fun b hb q hq hqb => by
  obtain ⟨p, hp, hpb⟩ := hs q hq b hqb
  exact s.sep.2.2.1 b hb p hp hpb, hk.sep⟩

section
variable {P : Program} {ops : Array Oper} {Q : Exit → Act → World → Prop} {N : Nat} {w0 : World} {L L' K : List Res} {rest : List Oper} {e : Env} {o : Oper} {t : TypeId} {x y ix : Operand} {a : Addr} {v z : Value} {n m : Nat}
variable {d : Nat} {op : Op} {ty : TypeId} {pos : String} {af : Array Edge} {g : Option (Nat × Bool)}

theorem gw_ent (h : Ent L K) (k : GW P ops Q N w0 K rest e) : GW P ops Q N w0 L rest e := ⟨fun w s => k.h w (h w0 w s)⟩
theorem gc_ent {c : Code} (h : Ent L K) (k : GC P Q N w0 K c e) : GC P Q N w0 L c e := ⟨fun w s => k.h w (h w0 w s)⟩
theorem gx_ent {c : Exit} (h : Ent L K) (k : GX Q N w0 K c e) : GX Q N w0 L c e := ⟨fun w s => k.h w (h w0 w s)⟩
theorem gx_roundE {σ : Type} {wr : List Nat} {e0 : Env} {S : σ → List (Nat × Value)} {K : σ → List Res} {I : σ → Prop} {μ : σ → Nat} {m : Nat} (s : σ) (hI : I s) (hm : μ s < m) (hk : Keeps wr e0 e) (hA : Ats (S s) e)
  (hE : Ent L (K s)) : GX (Exit.then (Rnd N w0 wr e0 S K I μ m) Q) N w0 L .normal e := gx_ent hE (gx_round s hI hm hk hA (Sub.all _))

theorem det_func {f : Fn} {first cap : Array Operand} {fs cs : List Value} (hop : o.op = .makeFunc f first cap) (hw : wantedE N ops e o = true) (h1 : first.toList.map (ev N e) = fs) (h2 : cap.toList.map (ev N e) = cs) : Det P ops N w0 L o e (.func f fs.toArray cs.toArray) :=
 det_pure hw fun w => by
  have e1 : first.map (ev N e) = fs.toArray := by rw [← h1]; apply Array.ext'; simp
  have e2 : cap.map (ev N e) = cs.toArray := by rw [← h2]; apply Array.ext'; simp
  unfold execOp
  simp [hop, Instr.makeFunc, e1, e2]

/-- A store into a row of the function's own, at an index that is not known. -/
theorem w_store_row [CSize P t n] {b i : Nat} {bt : TypeId} {cs : Array Value} (hw : wantedE N ops e ⟨none, .store t x y, ty, pos, af, g⟩ = true) (hx : ev N e x = .pointer (some ((⟨b, 0, none⟩ : Addr).add i))) (hy : ev N e y = v) (hn : v.cells.size = n)
  (h1 : v.cells.toList.all (·.oneCell') = true) (hp : Pick L (Box b bt cs) L') (hfit : i + n ≤ cs.size) {cs' : Array Value} (hcs : (cs.toList.take i ++ v.cells.toList ++ cs.toList.drop (i + n)).toArray = cs')
  (k : GW P ops Q N w0 (Box b bt cs' :: L') rest e) : GW P ops Q N w0 L (⟨none, .store t x y, ty, pos, af, g⟩ :: rest) e :=
 gw_stored hw (by rw [hx, add_zero]) hy CSize.h hn h1 hp hfit hcs k
theorem St.merge {w0 w : World} {L : List Res} {r q m : Res} (s : St w0 (r :: q :: L) w) (hf : ∀ b, m.fp b → r.fp b ∨ q.fp b) (hp : m.p w) : St w0 (m :: L) w := by
 obtain ⟨hB, h1, h2, h3, h4, h5, h6, h7⟩ := s
 refine ⟨hB, hp, fun b hb => ?_, fun b hb x hx => ?_, h7⟩
 ·rcases hf b hb with h | h
  ·exact h2 b h
  ·exact h5 b h
 ·rcases hf b hb with h | h
  ·exact h3 b h x (List.mem_cons_of_mem _ hx)
  ·exact h6 b h x hx

variable {X : Type} [Inhabited X] {pl : Nat → List Nat} {tail : ((Nat → X) → Env) → (Nat → (Nat → X) → List Res) → Prop} {i : Nat} {E : (Nat → X) → Env} {RL : Nat → (Nat → X) → List Res}

theorem gb_make {V : (Nat → X) → X → Value} {R : (Nat → X) → X → List Res} (hd : ∀ γ, wantedE N ops (E γ) ⟨some d, op, ty, pos, af, g⟩ = true ∧ ∀ w, St w0 ((pl i).flatMap (RL · γ) ++ L) w → Step P (ev N (E γ)) ⟨some d, op, ty, pos, af, g⟩ w fun v w' => ∃ x, v = V γ x ∧ Made w (R γ x) w')
  (h1 : ∀ γ x, V (setF γ i x) = V γ ∧ R (setF γ i x) = R γ) (h2 : ∀ β, V (restr (i :: pl i) β) = V β ∧ R (restr (i :: pl i) β) = R β)
  (k : GB P ops N w0 L pl tail (i + 1) rest (fun β => upd (E β) d (V β (β i))) (fun j β => bif Nat.beq j i then R β (β i) else RL j β)) :
  GB P ops N w0 L pl tail i (⟨some d, op, ty, pos, af, g⟩ :: rest) E RL := by
 refine GB.cons (fun γ => V γ (γ i)) (fun γ => R γ (γ i)) (fun γ => .inl ⟨(hd γ).1, fun w s => ?_⟩) ?_
 ·have h := (hd γ).2 w s
  have hs : ∀ x, setF γ i x i = x := fun x => by rw [setF_apply, if_pos rfl]
  unfold Step at h ⊢
  split at h
  ·obtain ⟨h3, x, h4, h5⟩ := h
   exact ⟨h3, x, by show _ = V _ (setF γ i x i); rw [(h1 γ x).1, hs]; exact h4, by show Made w (R _ (setF γ i x i)) _; rw [(h1 γ x).2, hs]; exact h5⟩
  ·obtain ⟨h3, x, h4, h5⟩ := h
   exact ⟨h3, x, by show _ = V _ (setF γ i x i); rw [(h1 γ x).1, hs]; exact h4, by show Made w (R _ (setF γ i x i)) _; rw [(h1 γ x).2, hs]; exact h5⟩
  ·exact ⟨h.1, h.2.mono fun v w' _ ⟨x, h4, h5⟩ => ⟨x, by show _ = V _ (setF γ i x i); rw [(h1 γ x).1, hs]; exact h4, by show Made w (R _ (setF γ i x i)) _; rw [(h1 γ x).2, hs]; exact h5⟩⟩
  ·exact h.elim
 ·have hr : ∀ β : Nat → X, restr (i :: pl i) β i = β i := fun β => by unfold restr; simp
  have he : (fun β => updO (E β) (⟨some d, op, ty, pos, af, g⟩ : Oper).dst (V (restr (i :: pl i) β) (restr (i :: pl i) β i))) = fun β => upd (E β) d (V β (β i)) := by
   funext β; rw [(h2 β).1, hr]; rfl
  have hRR : (fun j β => bif Nat.beq j i then R (restr (i :: pl i) β) (restr (i :: pl i) β i) else RL j β) = fun j β => bif Nat.beq j i then R β (β i) else RL j β := by
   funext j β; rw [(h2 β).2, hr]
  rw [he, hRR]
  exact k

theorem made_box (w : World) (t : TypeId) (cs : Array Value) : Made w [Box w.heap.size t cs] (w.alloc (.cells cs t)) :=
 (St.box (St.init w) t cs).sep

theorem gb_alloc [CZero P t v] (inj : Nat → X) (bk : X → Nat) (hbk : ∀ b, bk (inj b) = b) (hw : ∀ γ, wantedE N ops (E γ) ⟨some d, .alloc t, ty, pos, af, g⟩ = true)
  (k : GB P ops N w0 L pl tail (i + 1) rest (fun β => upd (E β) d (.pointer (some ⟨bk (β i), 0, none⟩))) (fun j β => bif Nat.beq j i then [Box (bk (β i)) t v.cells] else RL j β)) :
  GB P ops N w0 L pl tail i (⟨some d, .alloc t, ty, pos, af, g⟩ :: rest) E RL := by
 refine gb_make (V := fun _ x => .pointer (some ⟨bk x, 0, none⟩)) (R := fun _ x => [Box (bk x) t v.cells]) (fun γ => ⟨hw γ, fun w s => ?_⟩) (fun _ _ => ⟨rfl, rfl⟩) (fun _ => ⟨rfl, rfl⟩) k
 obtain ⟨i, hi, hzi⟩ := Option.bind_eq_some_iff.1 (CZero.h (P := P) (t := t) (z := v))
 have hr : (execOp (ev N (E γ)) ⟨some d, .alloc t, ty, pos, af, g⟩).run P w = .ok (.value (.pointer (some ⟨w.heap.size, 0, none⟩))) (w.alloc (.cells v.cells t)) := by
  unfold execOp
  simp [Instr.alloc, zeroValue, typeInfo, hi, hzi, newVar, newRow, newObj, Sem.run]
 unfold Step
 rw [hr]
 exact ⟨ext_alloc w _, inj w.heap.size, by rw [hbk], by rw [hbk]; exact made_box w t v.cells⟩

theorem gb_bslice1 {el sz : Nat} [CSlice P t el sz] [CZero P el z] {q : Operand} (u : (Nat → X) → Value) (inj : Nat → X) (bk : X → Nat) (hbk : ∀ b, bk (inj b) = b) (hw : ∀ γ, wantedE N ops (E γ) ⟨some d, .buildSlice t 1 #[(0, q)], ty, pos, af, g⟩ = true) (hq : ∀ γ, ev N (E γ) q = u γ)
  (hv : ∀ γ, (u γ).cells.size = sz) (hsz : Nat.ble sz 1000 = true) (hpos : Nat.blt 0 sz = true) (h1 : ∀ γ x, u (setF γ i x) = u γ) (h2 : ∀ β, u (restr (i :: pl i) β) = u β)
  (k : GB P ops N w0 L pl tail (i + 1) rest (fun β => upd (E β) d (.slice (some ⟨bk (β i), 0, none⟩) 1 1)) (fun j β => bif Nat.beq j i then [Box (bk (β i)) el (u β).cells] else RL j β)) :
  GB P ops N w0 L pl tail i (⟨some d, .buildSlice t 1 #[(0, q)], ty, pos, af, g⟩ :: rest) E RL := by
 refine gb_make (V := fun _ x => .slice (some ⟨bk x, 0, none⟩) 1 1) (R := fun γ x => [Box (bk x) el (u γ).cells]) (fun γ => ⟨hw γ, fun w s => ?_⟩) (fun γ x => ⟨rfl, by funext y; rw [h1]⟩) (fun β => ⟨rfl, by funext y; rw [h2]⟩) k
 have ht := CSlice.h (P := P) (t := t) (el := el) (sz := sz)
 have hz := CZero.h (P := P) (t := el) (z := z)
 unfold sliceSz at ht
 split at ht
 ·rename_i el' hu
  obtain ⟨i, hinfo, heq⟩ := Option.map_eq_some_iff.1 ht
  injection heq with e1 e2
  subst e1 e2
  obtain ⟨i', hi', hzi⟩ := Option.bind_eq_some_iff.1 hz
  rw [hinfo] at hi'
  injection hi' with hi'
  subst hi'
  have hle := Nat.le_of_ble_eq_true hsz
  have hp : 0 < i.size := by rw [Nat.blt_eq] at hpos; exact hpos
  have hr := run_buildSlice (P := P) w t el' 1 #[(0, u γ)] (u γ).cells i z hu hinfo hzi (by omega) (by omega) (fill_one (by simp) (hv γ))
  have hr2 : (execOp (ev N (E γ)) ⟨some d, .buildSlice t 1 #[(0, q)], ty, pos, af, g⟩).run P w = .ok (.value (.slice (some ⟨w.heap.size, 0, none⟩) 1 1)) (w.alloc (.cells (u γ).cells el')) := by
   unfold execOp
   simp [hq, hr]
  unfold Step
  rw [hr2]
  exact ⟨ext_alloc w _, inj w.heap.size, by rw [hbk], by rw [hbk]; exact made_box w el' (u γ).cells⟩
 ·cases ht
end

section
variable {κ : Type} [DecidableEq κ]
def adel : List (κ × Value) → κ → List (κ × Value)
 | [], _ => []
 | p :: l, k => if p.1 = k then l else p :: adel l k
theorem adel_find (l : List (κ × Value)) (k : κ) : adel l k = match l.findIdx? (fun p => decide (k = p.1)) with
  | some j => l.eraseIdx j
  | none => l := by
 induction l with
 | nil => rfl
 | cons p l ih =>
  rw [List.findIdx?_cons]
  by_cases h : p.1 = k
  ·subst h; simp [adel]
  ·have h' : ¬ k = p.1 := fun hk => h hk.symm
   simp only [adel, h, if_false, ih, h', decide_false, Bool.false_eq_true]
   cases l.findIdx? (fun p => decide (k = p.1)) with
   | none => rfl
   | some j => simp
end

section
variable {κ : Type} [DecidableEq κ] {P : Program} {ops : Array Oper} {Q : Exit → Act → World → Prop} {N : Nat} {w0 : World} {L L' : List Res} {rest : List Oper} {e : Env} {o : Oper} {t : TypeId} {x y ix : Operand} {a : Addr} {v z : Value} {kt vt : Nat} {kv : κ → Value} {l : List (κ × Value)} {k : κ} {b : Nat}
variable {d : Nat} {op : Op} {ty : TypeId} {pos : String} {af : Array Edge} {g : Option (Nat × Bool)}

omit [DecidableEq κ] in
theorem w_maplen [CMap P t kt vt] (hop : o.op = .call { callee := .builtin .len, args := #[x], argTypes := #[t] }) (hw : wantedE N ops e o = true) (hx : ev N e x = .map (some b)) (hp : Pick L (MapR b kv l) L') : Det P ops N w0 L o e (.int .i64 l.length) :=
 det_run hw fun w s => by
  obtain ⟨es, clock, h1, h2, _⟩ := (s.pick hp).head
  have ht := CMap.h (P := P) (t := t) (k := kt) (v := vt)
  unfold mapKV at ht
  split at ht
  ·rename_i k' v' hu
   have hget : (getObj b).run P w = .ok (.map es clock) w := by
    unfold getObj
    simp [Sem.run, h1]
   have hlen : es.size = l.length := by have := congrArg List.length h2; simpa using this
   unfold execOp
   simp [hop, resolve, invoke, builtin, hx, Builtin.len_, run_underlying hu, goInt, hget, hlen]
  ·cases ht

theorem gw_mapDel (Kl : KeyLaw P kt kv) [CMap P t kt vt] {t2 : TypeId} (hw : wantedE N ops e ⟨none, .call { callee := .builtin .delete, args := #[x, ix], argTypes := #[t, t2] }, ty, pos, af, g⟩ = true) (hx : ev N e x = .map (some b)) (hi : ev N e ix = kv k)
  (hp : Pick L (MapR b kv l) L') (kk : GW P ops Q N w0 (MapR b kv (adel l k) :: L') rest e) : GW P ops Q N w0 L (⟨none, .call { callee := .builtin .delete, args := #[x, ix], argTypes := #[t, t2] }, ty, pos, af, g⟩ :: rest) e := ⟨fun w s => by
 have s1 := s.pick hp
 obtain ⟨es, clock, h1, h2, h3, h4⟩ := s1.head
 have ht := CMap.h (P := P) (t := t) (k := kt) (v := vt)
 unfold mapKV at ht
 split at ht
 ·rename_i k' v' hu
  injection ht with ht
  injection ht with e1 e2
  subst e1 e2
  have hlt : b < w.heap.size := (Array.getElem?_eq_some_iff.1 h1).1
  have hget : (getObj b).run P w = .ok (.map es clock) w := by
   unfold getObj
   simp [Sem.run, h1]
  have hset : ∀ ob, (setObj b ob).run P w = .ok () { w with heap := w.heap.setIfInBounds b ob } := fun ob => by
   unfold setObj
   simp [Sem.run, h1]
  have turn : ∀ es', ents kv (adel l k) es' → es'.toList.Sublist es.toList → St w0 (MapR b kv (adel l k) :: L') { w with heap := w.heap.setIfInBounds b (.map es' clock) } := fun es' q1 q2 =>
   s1.turn (by simp) rfl rfl rfl (fun c _ hc => by
    have : b ≠ c := fun h => hc h.symm
    simp [this]) ⟨es', clock, by simp [hlt], q1, fun q hq => h3 q (q2.subset hq), h4.sublist q2⟩ fun c hc => .inl hc
  cases hf : l.findIdx? (fun p => decide (k = p.1)) with
  | none =>
   refine wl_run (v := .tuple #[]) (w' := { w with heap := w.heap.setIfInBounds b (.map es clock) }) hw ?_ (kk.h _ (turn _ ?_ (List.Sublist.refl _)))
   ·unfold execOp
    simp [resolve, invoke, builtin, Builtin.delete_, hx, hi, run_underlying hu, hget, Kl.check, run_findKey Kl k (l := l) (es := es.toList) h2, hf, hset]
   ·rw [adel_find, hf]
    exact h2
  | some j =>
   obtain ⟨hj, hkj⟩ := find_lt hf
   refine wl_run (v := .tuple #[]) (w' := { w with heap := w.heap.setIfInBounds b (.map (es.eraseIdxIfInBounds j) clock) }) hw ?_ (kk.h _ (turn _ ?_ ?_))
   ·unfold execOp
    simp [resolve, invoke, builtin, Builtin.delete_, hx, hi, run_underlying hu, hget, Kl.check, run_findKey Kl k (l := l) (es := es.toList) h2, hf, hset]
   ·rw [adel_find, hf]
    unfold ents at *
    rw [Array.toList_eraseIdxIfInBounds, ChangeMaps.map_eraseIdx, h2, ChangeMaps.map_eraseIdx]
   ·rw [Array.toList_eraseIdxIfInBounds]
    exact List.eraseIdx_sublist _ _
 ·cases ht⟩

def rd (e : MapEntry) : Value × Value := (e.key, e.val)
def ItR (b r : Nat) (kv : κ → Value) (l todo : List (κ × Value)) (cur : Option (κ × Value)) : Res :=
 ⟨fun x => x = b ∨ x = r, fun w => ∃ es clock since seen c0, w.heap[b]? = some (.map es clock) ∧ ents kv l es ∧ (∀ x ∈ es.toList, x.born < clock) ∧ es.toList.Pairwise (fun x y => x.born < y.born) ∧
  w.heap[r]? = some (.mapIter (some b) since seen c0) ∧ (∀ x ∈ es.toList, x.born < since) ∧ (since ≤ c0 ∧ since ≤ clock) ∧ (leftOf es seen).toList.map rd = todo.map (fun p => (kv p.1, p.2)) ∧
  (∀ p, cur = some p → ∃ q ∈ es.toList, rd q = (kv p.1, p.2) ∧ ∃ seen0 : Array Nat, seen = seen0.push q.born ∧ c0 = clock),
  fun _ _ h ⟨es, clock, since, seen, c0, h1, h2, h3, h4, h5, h6⟩ => ⟨es, clock, since, seen, c0, (h b (.inl rfl)).trans h1, h2, h3, h4, (h r (.inr rfl)).trans h5, h6⟩⟩

omit [DecidableEq κ] in
theorem ItR.done {b r : Nat} {l todo : List (κ × Value)} {cur : Option (κ × Value)} {L : List Res} : Ent (ItR b r kv l todo cur :: L) (MapR b kv l :: L) := fun w0 w s => by
 obtain ⟨es, clock, since, seen, c0, h1, h2, h3, h4, _⟩ := s.head
 exact s.turn (Nat.le_refl _) rfl rfl rfl (fun _ _ _ => rfl) ⟨es, clock, h1, h2, h3, h4⟩ fun c hc => .inl (.inl hc)

omit [DecidableEq κ] in
theorem gw_range [CMap P t kt vt] (hw : wantedE N ops e ⟨some d, .range t x, ty, pos, af, g⟩ = true) (hx : ev N e x = .map (some b)) (hp : Pick L (MapR b kv l) L')
  (kk : ∀ r, GW P ops Q N w0 (ItR b r kv l l none :: L') rest (upd e d (.pointer (some ⟨r, 0, none⟩)))) : GW P ops Q N w0 L (⟨some d, .range t x, ty, pos, af, g⟩ :: rest) e := ⟨fun w s => by
 have s1 := s.pick hp
 obtain ⟨es, clock, h1, h2, h3, h4⟩ := s1.head
 have ht := CMap.h (P := P) (t := t) (k := kt) (v := vt)
 unfold mapKV at ht
 split at ht
 ·rename_i k' v' hu
  have hlt : b < w.heap.size := (Array.getElem?_eq_some_iff.1 h1).1
  have hget : (getObj b).run P w = .ok (.map es clock) w := by
   unfold getObj
   simp [Sem.run, h1]
  refine wl_run (w' := w.alloc (.mapIter (some b) clock #[] clock)) hw ?_ ((kk w.heap.size).h _ (s1.turn ?_ rfl rfl rfl (fun c hc _ => ?_) ?_ ?_))
  ·unfold execOp
   simp [Instr.range, hx, run_underlying hu, hget, newObj, Sem.run]
  ·simp
  ·exact (ext_alloc w _).block c hc
  ·refine ⟨es, clock, clock, #[], clock, ((ext_alloc w _).block b hlt).trans h1, h2, h3, h4, heap_alloc_new w _, h3, ⟨Nat.le_refl _, Nat.le_refl _⟩, ?_, fun p hp => by cases hp⟩
   have : leftOf es #[] = es := by
    unfold leftOf
    apply Array.filter_eq_self.2
    intro x _
    simp
   rw [this]
   exact h2
  ·intro c hc
   rcases hc with rfl | rfl
   ·exact .inl rfl
   ·exact .inr ⟨Nat.le_refl _, by simp⟩
 ·cases ht⟩

theorem filter_born : ∀ (l : List MapEntry) (j : Nat) (hj : j < l.length), l.Pairwise (fun x y => x.born < y.born) → l.filter (fun x => !(x.born == l[j].born)) = l.eraseIdx j
 | x :: l, 0, _, h => by
  have h' := List.pairwise_cons.1 h
  simp only [List.getElem_cons_zero, List.eraseIdx_cons_zero]
  rw [List.filter_cons]
  simp only [beq_self_eq_true, Bool.not_true, Bool.false_eq_true, if_false]
  apply List.filter_eq_self.2
  intro y hy
  have := h'.1 y hy
  simp
  omega
 | x :: l, j + 1, hj, h => by
  have h' := List.pairwise_cons.1 h
  have hj' : j < l.length := by simpa using hj
  have hlt := h'.1 l[j] (List.getElem_mem hj')
  simp only [List.getElem_cons_succ, List.eraseIdx_cons_succ]
  rw [List.filter_cons]
  have : (!(x.born == l[j].born)) = true := by simp; omega
  rw [if_pos this, filter_born l j hj' h'.2]

omit [DecidableEq κ] in
theorem gw_next {r : Nat} {todo : List (κ × Value)} {cur : Option (κ × Value)} (hw : wantedE N ops e ⟨some d, .next x false, ty, pos, af, g⟩ = true) (hx : ev N e x = .pointer (some ⟨r, 0, none⟩)) (hp : Pick L (ItR b r kv l todo cur) L')
  (kend : todo = [] → GW P ops Q N w0 (ItR b r kv l [] cur :: L') rest (upd e d (.tuple #[.bool false])))
  (kmore : ∀ j (hj : j < todo.length), GW P ops Q N w0 (ItR b r kv l (todo.eraseIdx j) (some todo[j]) :: L') rest (upd e d (.tuple #[.bool true, kv todo[j].1, todo[j].2]))) :
  GW P ops Q N w0 L (⟨some d, .next x false, ty, pos, af, g⟩ :: rest) e := ⟨fun w s => by
 have s1 := s.pick hp
 have hhead := s1.head
 obtain ⟨es, clock, since, seen, c0, h1, h2, h3, h4, h5, h6, h7, h8, h9⟩ := hhead
 rcases run_next_at (P := P) w ty r b since c0 seen es clock h5 h1 h6 h7.1 with ⟨h0, hr⟩ | ⟨q, hq, w1, hw1, hr⟩
 ·have h10 : todo = [] := by
   have := congrArg List.length h8
   simp only [List.length_map, Array.length_toList, h0] at this
   exact List.eq_nil_of_length_eq_zero this.symm
  subst h10
  refine wl_run (v := .tuple #[.bool false]) (w' := w) hw ?_ ((kend rfl).h w s1)
  unfold execOp
  simp [hx, hr]
 ·obtain ⟨j, hj, hjq⟩ := List.getElem_of_mem hq
  have hlen : (leftOf es seen).toList.length = todo.length := by have := congrArg List.length h8; simpa using this
  have hj' : j < todo.length := by omega
  have hrd : rd q = (kv todo[j].1, todo[j].2) := by
   have h10 : ((leftOf es seen).toList.map rd)[j]? = (todo.map fun p => (kv p.1, p.2))[j]? := by rw [h8]
   rw [List.getElem?_map, List.getElem?_map, List.getElem?_eq_getElem hj, List.getElem?_eq_getElem hj', hjq] at h10
   simpa using h10
  have hk : q.key = kv todo[j].1 ∧ q.val = todo[j].2 := by
   unfold rd at hrd
   exact ⟨congrArg Prod.fst hrd, congrArg Prod.snd hrd⟩
  have hqes : q ∈ es.toList := by
   unfold leftOf at hq
   simp at hq
   simpa using hq.1
  have hlt : r < w.heap.size := (Array.getElem?_eq_some_iff.1 h5).1
  have hblt : b < w.heap.size := (Array.getElem?_eq_some_iff.1 h1).1
  have hne : r ≠ b := fun h => by subst h; rw [h1] at h5; cases h5
  have hh : w1.heap = w.heap := by rcases hw1 with rfl | rfl <;> rfl
  refine wl_run (v := .tuple #[.bool true, kv todo[j].1, todo[j].2]) (w' := ChangeMaps.setBlock w1 r (.mapIter (some b) since (seen.push q.born) clock)) hw ?_ ((kmore j hj').h _ (s1.turn ?_ ?_ ?_ ?_ (fun c _ hc => ?_) ?_ (fun c hc => .inl hc)))
  ·unfold execOp
   simp [hx, hr, hk.1, hk.2]
  ·simp [ChangeMaps.setBlock, hh]
  ·rcases hw1 with rfl | rfl <;> rfl
  ·rcases hw1 with rfl | rfl <;> rfl
  ·rcases hw1 with rfl | rfl <;> rfl
  ·have : r ≠ c := fun h => hc (.inr h.symm)
   simp [ChangeMaps.setBlock, hh, this]
  ·refine ⟨es, clock, since, seen.push q.born, clock, ?_, h2, h3, h4, ?_, h6, ?_, ?_, ?_⟩
   ·simp [ChangeMaps.setBlock, hh, hne, h1]
   ·simp [ChangeMaps.setBlock, hh, hlt]
   ·exact ⟨h7.2, h7.2⟩
   ·have hleft : (leftOf es (seen.push q.born)).toList = (leftOf es seen).toList.filter (fun x => !(x.born == q.born)) := by
     unfold leftOf
     rw [Array.toList_filter, Array.toList_filter, List.filter_filter]
     apply List.filter_congr
     intro y _
     simp only [Array.contains_push, Bool.not_or]
     rw [Bool.and_comm]
    have hpw : (leftOf es seen).toList.Pairwise (fun x y => x.born < y.born) := by
     unfold leftOf
     rw [Array.toList_filter]
     exact h4.filter _
    rw [hleft, ← hjq, filter_born _ j hj hpw, ChangeMaps.map_eraseIdx, h8, ChangeMaps.map_eraseIdx]
   ·intro p hp
    injection hp with hp
    subst hp
    exact ⟨q, hqes, hrd, seen, rfl, rfl⟩⟩

omit [DecidableEq κ] in
theorem w_entry {r : Nat} {todo : List (κ × Value)} {p : κ × Value} (hop : o.op = .entry x) (hw : wantedE N ops e o = true) (hx : ev N e x = .pointer (some ⟨r, 0, none⟩)) (hp : Pick L (ItR b r kv l todo (some p)) L') : Det P ops N w0 L o e (.tuple #[kv p.1, p.2]) :=
 det_run hw fun w s => by
  obtain ⟨es, clock, since, seen, c0, h1, h2, h3, h4, h5, h6, h7, h8, h9⟩ := (s.pick hp).head
  obtain ⟨q, hq, hrd, seen0, rfl, rfl⟩ := h9 p rfl
  have hn : (es.toList.map (·.born)).Nodup := by
   rw [List.Nodup, List.pairwise_map]
   exact h4.imp fun h => by omega
  have hr := run_entry_at (P := P) w r b since seen0 es _ q h5 h1 hq hn
  unfold execOp
  unfold rd at hrd
  simp [hop, hx, hr]
  exact ⟨congrArg Prod.fst hrd, congrArg Prod.snd hrd⟩
end

/- Regions that draw, where an operation may read what a later one writes. No program in sight. -/

section
variable {P : Program} {ops : Array Oper} {Q : Exit → Act → World → Prop} {N : Nat} {w0 : World} {L : List Res} {rest : List Oper} {e : Env} {o : Oper}
def opOkB (ops : Array Oper) (k i : Nat) (o : Oper) : Bool :=
 (o.after.all fun x => !Region.binds .any x || Nat.blt x.on i) && (match o.op with | .select .. => false | _ => true) &&
 (bif Nat.blt i k then
  (List.range k).all fun j => match (ops[j]?).bind (·.dst) with
   | none => true
   | some d => (Nat.beq j i || o.dst != some d) && (!(o.looksAt ops).contains d || (Nat.blt j i && bindsOn o j) || (Nat.blt i j && (match ops[j]? with | some oj => bindsOn oj i | none => false)))
 else (List.range k).all (bindsOn o ·) && (Nat.beq i k || bindsOn o (i - 1)))

def drawOkB (ops : Array Oper) (k : Nat) : Bool :=
 Nat.ble k ops.size && (List.range ops.size).all fun i => match ops[i]? with
  | none => true
  | some o => opOkB ops k i o

theorem opOk_of2 {k : Nat} (h : drawOkB ops k = true) {i : Nat} (hi : ops[i]? = some o) : opOkB ops k i o = true := by
 unfold drawOkB at h
 rw [Bool.and_eq_true, List.all_eq_true] at h
 have := h.2 i (List.mem_range.2 (Array.getElem?_eq_some_iff.1 hi).1)
 simpa [hi] using this

theorem opOk_edges2 {k i : Nat} (h : opOkB ops k i o = true) : ∀ x ∈ o.after, Region.binds .any x = true → x.on < i := by
 unfold opOkB at h
 rw [Bool.and_eq_true, Bool.and_eq_true, Array.all_eq_true_iff_forall_mem] at h
 intro x hx hb
 have := h.1.1 x hx
 rw [hb] at this
 simpa using this

theorem opOk_select2 {k i : Nat} (h : opOkB ops k i o = true) : ∀ cs b, o.op ≠ .select cs b := by
 unfold opOkB at h
 rw [Bool.and_eq_true, Bool.and_eq_true] at h
 intro cs b heq
 have := h.1.2
 rw [heq] at this
 simp at this

theorem opOk_first2 {k i : Nat} (h : opOkB ops k i o = true) (hik : i < k) {j d : Nat} (hj : j < k) (hd : (ops[j]?).bind (·.dst) = some d) :
  (j = i ∨ o.dst ≠ some d) ∧ (d ∈ o.looksAt ops → (j < i ∧ bindsOn o j = true) ∨ (i < j ∧ ∀ oj, ops[j]? = some oj → bindsOn oj i = true)) := by
 unfold opOkB at h
 rw [Bool.and_eq_true] at h
 have h2 := h.2
 have hlt : Nat.blt i k = true := by rw [Nat.blt_eq]; exact hik
 rw [hlt] at h2
 simp only [cond_true, List.all_eq_true, List.mem_range] at h2
 have h3 := h2 j hj
 simp only [hd, Bool.and_eq_true, Bool.or_eq_true, Bool.not_eq_true', bne_iff_ne, Nat.blt_eq] at h3
 refine ⟨h3.1.imp (fun h => Nat.eq_of_beq_eq_true h) id, fun hl => ?_⟩
 rcases h3.2 with (h4 | h4) | h4
 ·have : (o.looksAt ops).contains d = true := List.contains_iff_mem.2 hl
  rw [this] at h4
  cases h4
 ·exact .inl h4
 ·refine .inr ⟨h4.1, fun oj hoj => ?_⟩
  have h5 := h4.2
  rw [hoj] at h5
  exact h5

theorem opOk_rest2 {k i : Nat} (h : opOkB ops k i o = true) (hik : ¬ i < k) : (∀ j, j < k → bindsOn o j = true) ∧ (i = k ∨ bindsOn o (i - 1) = true) := by
 unfold opOkB at h
 rw [Bool.and_eq_true] at h
 have h2 := h.2
 have hb : Nat.blt i k = false := by rw [← Bool.not_eq_true, Nat.blt_eq]; exact hik
 rw [hb] at h2
 simp only [cond_false, Bool.and_eq_true, List.all_eq_true, List.mem_range, Bool.or_eq_true] at h2
 exact ⟨h2.1, h2.2.imp (fun h => Nat.eq_of_beq_eq_true h) id⟩

theorem any_rest2 {k : Nat} (hok : drawOkB ops k = true) : ∀ (fuel m : Nat) (listed : Array Bool) (a : Act) (w : World), k ≤ m → m + fuel = ops.size → listed.size = ops.size →
  (∀ i, i < ops.size → listed.getD i true = decide (i < m)) → wpList P ops Q (ops.toList.drop m) a w → wpAny P .any ops Q fuel listed a w := by
 intro fuel
 induction fuel with
 | zero =>
  intro m listed a w hkm hm hsz hl h
  have hready : Region.ready .any ops listed = [] := by
   rw [List.eq_nil_iff_forall_not_mem]
   intro j hj
   obtain ⟨h0, o, ho, _⟩ := mem_ready.1 hj
   have hlt := (Array.getElem?_eq_some_iff.1 ho).1
   rw [hl j hlt] at h0
   simp at h0
   omega
  rw [List.drop_eq_nil_of_le (by simp; omega)] at h
  exact ⟨hready, h⟩
 | succ fuel ih =>
  intro m listed a w hkm hm hsz hl h
  have hlt : m < ops.size := by omega
  have hom : ops[m]? = some ops[m] := Array.getElem?_eq_getElem hlt
  have hdrop : ops.toList.drop m = ops[m] :: ops.toList.drop (m + 1) := by
   rw [List.drop_eq_getElem_cons (by simpa using hlt)]
   simp
  have hlist : ∀ i, listed.getD i false = decide (i < m) := fun i => by
   by_cases hi : i < ops.size
   ·have := hl i hi
    rw [← this]
    have hi' : i < listed.size := by omega
    simp [hi']
   ·have hi' : ¬ i < listed.size := by omega
    simp [hi']
    omega
  have hmem : m ∈ Region.ready .any ops listed := by
   rw [mem_ready]
   refine ⟨by rw [hl m hlt]; simp, _, hom, fun x hx hb => ?_⟩
   have := opOk_edges2 (opOk_of2 hok hom) x hx hb
   rw [hlist]
   simpa using this
  refine ⟨fun h0 => (by rw [h0] at hmem; cases hmem), fun j hj => ?_⟩
  have hjm : j = m := by
   obtain ⟨h0, oj, hoj, hall⟩ := mem_ready.1 hj
   have hjlt := (Array.getElem?_eq_some_iff.1 hoj).1
   rw [hl j hjlt] at h0
   simp at h0
   rcases (opOk_rest2 (opOk_of2 hok hoj) (by omega)).2 with h1 | h1
   ·omega
   ·have := bindsOn_listed h1 hall
    rw [hlist] at this
    simp at this
    omega
  subst hjm
  rw [hdrop] at h
  unfold wpList at h
  unfold wpOp
  simp only [hom]
  have hnext : ∀ a w, wpList P ops Q (ops.toList.drop (j + 1)) a w → wpAny P .any ops Q fuel (listed.setIfInBounds j true) a w := fun a w h => by
   refine ih (j + 1) _ a w (by omega) (by omega) (by simpa using hsz) (fun i hi => ?_) h
   by_cases hij : j = i
   ·subst hij
    have : j < listed.size := by omega
    simp [this]
   ·rw [getD_set_ne true hij, hl i hi]
    simp
    omega
  split
  ·rename_i hw
   rw [if_pos hw] at h
   exact h.imp (Oper.wp_mono hnext) id
  ·rename_i hw
   rw [if_neg hw] at h
   exact hnext _ _ h

/-- How many are listed. -/

theorem any_first2 {k : Nat} (hok : drawOkB ops k = true) {cs : List Value} {e : Env} (hcs : cs.length = k)
  (hdet : ∀ (i : Nat) (o : Oper), ops[i]? = some o → i < k → ∃ c, cs[i]? = some c ∧ Det P ops N w0 L o (envAt e (ops.toList.take i) (cs.take i)) c)
  (htail : GW P ops Q N w0 L (ops.toList.drop k) (envAt e (ops.toList.take k) cs)) :
  ∀ (fuel : Nat) (listed : Array Bool) (e' : Env) (w : World), listed.size = ops.size → listedCount listed ops.size + fuel = ops.size → (∀ i, k ≤ i → listed.getD i false = false) →
   (∀ (i : Nat) (o : Oper) (d : Nat) (c : Value), i < k → listed.getD i false = true → ops[i]? = some o → o.dst = some d → cs[i]? = some c → e' d = c) →
   (∀ t, (∀ (i : Nat) (o : Oper), i < k → listed.getD i false = true → ops[i]? = some o → o.dst ≠ some t) → e' t = e t) →
   (∀ (j : Nat) (oj : Oper) (i : Nat), listed.getD j false = true → ops[j]? = some oj → bindsOn oj i = true → listed.getD i false = true) →
   St w0 L w → wpAny P .any ops Q fuel listed (mk N e') w := by
 have hkn : k ≤ ops.size := by
  unfold drawOkB at hok
  rw [Bool.and_eq_true] at hok
  exact Nat.le_of_ble_eq_true hok.1
 have huniq : ∀ (i j : Nat) (oi oj : Oper) (d : Nat), i < k → j < k → ops[i]? = some oi → ops[j]? = some oj → oi.dst = some d → oj.dst = some d → i = j := fun i j oi oj d hi hj hoi hoj hdi hdj => by
  have := (opOk_first2 (opOk_of2 hok hoi) hi hj (d := d) (by simp [hoj, hdj])).1
  rcases this with h | h
  ·exact h.symm
  ·exact absurd hdi h
 have hspec : ∀ i, i ≤ k → ∀ t, ((∀ (j : Nat) (oj : Oper), j < i → ops[j]? = some oj → oj.dst ≠ some t) → envAt e (ops.toList.take i) (cs.take i) t = e t) ∧
   (∀ (j : Nat) (oj : Oper) (c : Value), j < i → ops[j]? = some oj → oj.dst = some t → cs[j]? = some c → envAt e (ops.toList.take i) (cs.take i) t = c) := fun i hi t => by
  have hget : ∀ (j : Nat) (oj : Oper), (ops.toList.take i)[j]? = some oj ↔ j < i ∧ ops[j]? = some oj := fun j oj => by
   rw [List.getElem?_take]
   by_cases hji : j < i
   ·simp [hji]
   ·simp [hji]
  have h := envAt_spec (ops.toList.take i) (cs.take i) e t (by simp; omega) (fun a b oa ob ha hb hda hdb => by
   obtain ⟨ha1, ha2⟩ := (hget a oa).1 ha
   obtain ⟨hb1, hb2⟩ := (hget b ob).1 hb
   exact huniq a b oa ob t (by omega) (by omega) ha2 hb2 hda hdb)
  refine ⟨fun hn => h.1 fun j oj hj => hn j oj ((hget j oj).1 hj).1 ((hget j oj).1 hj).2, fun j oj c hji hoj hd hc => h.2 j oj c ((hget j oj).2 ⟨hji, hoj⟩) hd ?_⟩
  rw [List.getElem?_take, if_pos hji]
  exact hc
 intro fuel
 induction fuel with
 | zero =>
  intro listed e' w hsz hcnt hrest hval hold hclos s
  have hall := count_all ops.size (by omega : listedCount listed ops.size = ops.size)
  by_cases hk : k < ops.size
  ·have h1 := hall k hk
   rw [hrest k (Nat.le_refl _)] at h1
   cases h1
  ·have hkeq : k = ops.size := by omega
   have he : e' = envAt e (ops.toList.take k) cs := by
    funext t
    have hs := hspec k (Nat.le_refl _) t
    rw [List.take_of_length_le (by omega : cs.length ≤ k)] at hs
    by_cases hex : ∃ j oj, j < k ∧ ops[j]? = some oj ∧ oj.dst = some t
    ·obtain ⟨j, oj, hj, hoj, hd⟩ := hex
     obtain ⟨c, hc⟩ : ∃ c, cs[j]? = some c := ⟨cs[j], List.getElem?_eq_getElem (by omega)⟩
     rw [hval j oj t c hj (hall j (by omega)) hoj hd hc, hs.2 j oj c hj hoj hd hc]
    ·rw [hold t fun i oi hi _ hoi hd => hex ⟨i, oi, hi, hoi, hd⟩, hs.1 fun j oj hj hoj hd => hex ⟨j, oj, hj, hoj, hd⟩]
   have hw := htail.h w s
   rw [← he] at hw
   exact any_rest2 hok 0 k listed _ w (Nat.le_refl _) (by omega) hsz (fun i hi => by
    have h1 := hall i hi
    have hi' : i < listed.size := by omega
    simp only [Array.getD_eq_getD_getElem?, hi', getElem?_pos, Option.getD_some] at h1 ⊢
    rw [h1]
    simp
    omega) hw
 | succ fuel ih =>
  intro listed e' w hsz hcnt hrest hval hold hclos s
  by_cases hfirst : ∃ i, i < k ∧ listed.getD i false = false
  ·-- some operation of the first k is not listed: the least such one is ready
   have hleast : ∃ i, (i < k ∧ listed.getD i false = false) ∧ ∀ j, j < i → j < k → listed.getD j false = true := by
    obtain ⟨n, hn, hmin⟩ := exists_least hfirst
    refine ⟨n, hn, fun j hj hjk => ?_⟩
    cases hb : listed.getD j false with
    | true => rfl
    | false => have := hmin j ⟨hjk, hb⟩; omega
   obtain ⟨i0, ⟨hi0, hun0⟩, hmin⟩ := hleast
   have hi0n : i0 < ops.size := by omega
   have hready0 : i0 ∈ Region.ready .any ops listed := by
    rw [mem_ready]
    refine ⟨?_, _, Array.getElem?_eq_getElem hi0n, fun x hx hb => ?_⟩
    ·have : i0 < listed.size := by omega
     simpa [this] using hun0
    ·have := opOk_edges2 (opOk_of2 hok (Array.getElem?_eq_getElem hi0n)) x hx hb
     exact hmin x.on this (by omega)
   refine ⟨fun h0 => (by rw [h0] at hready0; cases hready0), fun i hi => ?_⟩
   obtain ⟨hun, oi, hoi, hall⟩ := mem_ready.1 hi
   have hilt := (Array.getElem?_eq_some_iff.1 hoi).1
   have hilt' : i < listed.size := by omega
   have hun' : listed.getD i false = false := by simpa [hilt'] using hun
   have hik : i < k := by
    rcases Nat.lt_or_ge i k with h | h
    ·exact h
    ·have := bindsOn_listed ((opOk_rest2 (opOk_of2 hok hoi) (by omega)).1 i0 hi0) hall
     rw [hun0] at this
     cases this
   obtain ⟨c, hc, hd⟩ := hdet i oi hoi hik
   have hsame : ∀ t ∈ oi.looksAt ops, envAt e (ops.toList.take i) (cs.take i) t = e' t := fun t ht => by
    have hs := hspec i (by omega) t
    by_cases hex : ∃ j oj, j < k ∧ ops[j]? = some oj ∧ oj.dst = some t
    ·obtain ⟨j, oj, hj, hoj, hdj⟩ := hex
     rcases (opOk_first2 (opOk_of2 hok hoi) hik hj (d := t) (by simp [hoj, hdj])).2 ht with ⟨hji, hbd⟩ | ⟨hij, hbd⟩
     ·obtain ⟨cj, hcj⟩ : ∃ c, cs[j]? = some c := ⟨cs[j], List.getElem?_eq_getElem (by omega)⟩
      rw [hs.2 j oj cj hji hoj hdj hcj, hval j oj t cj hj (bindsOn_listed hbd hall) hoj hdj hcj]
     ·have hjn : ¬ listed.getD j false = true := fun hl => by
       have := hclos j oj i hl hoj (hbd oj hoj)
       rw [hun'] at this
       cases this
      rw [hs.1 fun m om hm hom hd => by
       have := huniq m j om oj t (by omega) hj hom hoj hd hdj
       omega, hold t fun m om hm hl hom hd => by
       have := huniq m j om oj t hm hj hom hoj hd hdj
       subst this
       exact hjn hl]
    ·rw [hs.1 fun j oj hj hoj hd => hex ⟨j, oj, by omega, hoj, hd⟩, hold t fun j oj hj _ hoj hd => hex ⟨j, oj, hj, hoj, hd⟩]
   have hd' := det_congr (opOk_select2 (opOk_of2 hok hoi)) hsame hd
   refine det_wpOp hoi hd' s fun w' s' => ?_
   have hset : ∀ j, (listed.setIfInBounds i true).getD j false = if i = j then true else listed.getD j false := fun j => by
    by_cases hij : i = j
    ·subst hij; simp [hilt']
    ·rw [getD_set_ne false hij, if_neg hij]
   refine ih _ _ w' (by simpa using hsz) ?_ (fun j hj => ?_) (fun j oj d cj hj hl hoj hdj hcj => ?_) (fun t ht => ?_) (fun j oj m hl hoj hb => ?_) s'
   ·rw [count_set hilt' hun', if_pos hilt]; omega
   ·rw [hset, if_neg (by omega)]; exact hrest j hj
   ·rw [hset] at hl
    by_cases hij : i = j
    ·subst hij
     rw [hoi] at hoj
     injection hoj with hoj
     subst hoj
     rw [hc] at hcj
     injection hcj with hcj
     subst hcj
     rw [hdj]
     show upd e' d c d = c
     rw [upd_apply, if_pos rfl]
    ·rw [if_neg hij] at hl
     have := hval j oj d cj hj hl hoj hdj hcj
     cases hdi : oi.dst with
     | none => exact this
     | some d' =>
      show upd e' d' c d = cj
      rw [upd_apply, if_neg]
      ·exact this
      ·intro heq
       subst heq
       exact hij (huniq i j oi oj d hik hj hoi hoj hdi hdj)
   ·have h1 : e' t = e t := hold t fun j oj hj hl hoj => ht j oj hj (by rw [hset, hl]; split <;> rfl) hoj
    have h2 := ht i oi hik (by rw [hset, if_pos rfl]) hoi
    cases hdi : oi.dst with
    | none => exact h1
    | some d' =>
     show upd e' d' c t = e t
     rw [upd_apply, if_neg]
     ·exact h1
     ·intro heq
      exact h2 (by rw [hdi, heq])
   ·rw [hset]
    by_cases him : i = m
    ·rw [if_pos him]
    ·rw [if_neg him]
     rw [hset] at hl
     by_cases hij : i = j
     ·subst hij
      rw [hoi] at hoj
      injection hoj with hoj
      subst hoj
      exact bindsOn_listed hb hall
     ·rw [if_neg hij] at hl
      exact hclos j oj m hl hoj hb
  ·-- all of the first k are listed
   have hlist : ∀ i, i < k → listed.getD i false = true := fun i hi => by
    cases hb : listed.getD i false with
    | true => rfl
    | false => exact absurd ⟨i, hi, hb⟩ hfirst
   have he : e' = envAt e (ops.toList.take k) cs := by
    funext t
    have hs := hspec k (Nat.le_refl _) t
    rw [List.take_of_length_le (by omega : cs.length ≤ k)] at hs
    by_cases hex : ∃ j oj, j < k ∧ ops[j]? = some oj ∧ oj.dst = some t
    ·obtain ⟨j, oj, hj, hoj, hd⟩ := hex
     obtain ⟨c, hc⟩ : ∃ c, cs[j]? = some c := ⟨cs[j], List.getElem?_eq_getElem (by omega)⟩
     rw [hval j oj t c hj (hlist j hj) hoj hd hc, hs.2 j oj c hj hoj hd hc]
    ·rw [hold t fun i oi hi _ hoi hd => hex ⟨i, oi, hi, hoi, hd⟩, hs.1 fun j oj hj hoj hd => hex ⟨j, oj, hj, hoj, hd⟩]
   have hcount : listedCount listed ops.size = k := by
    have hsplit : ∀ n, (∀ i, k ≤ i → listed.getD i false = false) → (∀ i, i < k → listed.getD i false = true) → listedCount listed n = min n k := by
     intro n h1 h2
     induction n with
     | zero => simp [listedCount]
     | succ n ihn =>
      rw [count_succ, ihn]
      by_cases hnk : n < k
      ·rw [h2 n hnk]; simp; omega
      ·rw [h1 n (by omega)]; simp; omega
    rw [hsplit _ hrest hlist]; omega
   have hw := htail.h w s
   rw [← he] at hw
   refine any_rest2 hok (fuel + 1) k listed _ w (Nat.le_refl _) (by omega) hsz (fun i hi => ?_) hw
   have hi' : i < listed.size := by omega
   by_cases hik : i < k
   ·have h1 := hlist i hik
    simp only [Array.getD_eq_getD_getElem?, hi', getElem?_pos, Option.getD_some] at h1 ⊢
    rw [h1]; simp [hik]
   ·have h1 := hrest i (by omega)
    simp only [Array.getD_eq_getD_getElem?, hi', getElem?_pos, Option.getD_some] at h1 ⊢
    rw [h1]; simp [hik]

/-- A REGION THAT DRAWS: the first k operations give known values, in whatever order; the rest come after them, one after the other. -/
theorem gc_draw2 {id : Nat} {l : List Oper} (k : Nat) (hm : P.follows .mixedOrders = true) (hok : drawOkB l.toArray k = true)
  (h : GD P l.toArray N w0 L (fun e' => GW P l.toArray Q N w0 L (l.drop k) e') (l.take k) e) : GC P Q N w0 L (.region id l.toArray true) e := ⟨fun w s => by
 obtain ⟨cs, hl, hdet, htail⟩ := gd_vals _ _ h
 have hkn : k ≤ l.length := by
  unfold drawOkB at hok
  rw [Bool.and_eq_true] at hok
  simpa using Nat.le_of_ble_eq_true hok.1
 have hlk : cs.length = k := by rw [hl, List.length_take]; omega
 refine wp_region_any hm (any_first2 hok hlk (fun i o hi hik => ?_) htail l.toArray.size _ e _ (by simp) ?_ ?_ ?_ (fun _ _ => rfl) (fun j oj m hl' => by by_cases hi : j < l.length <;> simp [hi] at hl') (s.ext (Ext.drawn w _)))
 ·obtain ⟨c, hc, hd⟩ := hdet i o (by rw [List.getElem?_take, if_pos hik]; simpa using hi)
  refine ⟨c, hc, ?_⟩
  rw [List.take_take, Nat.min_eq_left (by omega)] at hd
  exact hd
 ·have : listedCount (Array.replicate l.toArray.size false) l.toArray.size = 0 := by
   unfold listedCount
   rw [List.length_eq_zero_iff, List.filter_eq_nil_iff]
   intro i _
   by_cases hi : i < l.length <;> simp [hi]
  omega
 ·intro i _
  by_cases hi : i < l.length <;> simp [hi]
 ·intro i o d c _ hl'
  by_cases hi : i < l.length <;> simp [hi] at hl'⟩

end
end Go.Proofs.YtafbfldjcikmcaaGreat
