/- Rules for the operations on memory: loads, stores, new variables, rows, calls. No program in sight. -/
import Derived.Test.YteiboodeepjanaaGreatFwB
import Derived.Test.YteiboodeepjanaaGreatFwT
import Derived.Laws.MakeOwn
namespace Go.Proofs.YteiboodeepjanaaGreat
open Go.RowKit

section
variable {P : Program} {w : World} {t : TypeId} {a : Addr} {v : Value}

theorem run_loadVar1 (ht : notAgg P t = true) (hc : w.cell? a = some v) : (loadVar t a).run P w = .ok v w := by
  unfold notAgg at ht
  split at ht <;> try cases ht
  rename_i d h1 h2 hu
  have : (isAgg t).run P w = .ok false w := by
    unfold isAgg
    simp only [Sem.run_bind, run_underlying hu, Result.andThen_ok]
    rfl
  unfold loadVar
  simp only [Sem.run_bind, this, Result.andThen_ok, Bool.false_eq_true, if_false]
  show Sem.run P (.load .plain a .pure) w = _
  simp [Sem.run, hc]
end

section
variable {P : Program} {w : World} {t : TypeId} {a : Addr} {v : Value}

theorem run_loadVarN {cs : List Value} (ht : aggSz P t = some cs.length) (hc : ∀ j u, cs[j]? = some u → w.cell? (a.add j) = some u) : (loadVar t a).run P w = .ok (.agg cs.toArray) w := by
  have hA : (isAgg t).run P w = .ok true w ∧ ∃ i, P.info? t = some i ∧ i.size = cs.length := by
    unfold aggSz at ht
    unfold isAgg
    split at ht
    · rename_i fs hu
      simp only [Sem.run_bind, run_underlying hu, Result.andThen_ok]
      exact ⟨rfl, by simpa using ht⟩
    · rename_i n el hu
      simp only [Sem.run_bind, run_underlying hu, Result.andThen_ok]
      exact ⟨rfl, by simpa using ht⟩
    · cases ht
  obtain ⟨h1, i, hi, hn⟩ := hA
  have h2 : (sizeOf t).run P w = .ok cs.length w := by simp [sizeOf, typeInfo, hi, hn]
  unfold loadVar
  simp only [Sem.run_bind, h1, Result.andThen_ok, if_true, h2, run_loadCells_list w a cs hc]
  rfl
end

section
variable {P : Program} {ops : Array Oper} {Q : Exit → Act → World → Prop} {N : Nat} {w0 : World} {L L' : List Res} {rest : List Oper} {e : Env} {o : Oper} {t : TypeId} {x y : Operand} {a : Addr} {v : Value}

/-! ### Operations whose value is known -/
theorem det_run {c : Value} (hw : wantedE N ops e o = true) (hr : ∀ w, St w0 L w → (execOp (ev N e) o).run P w = .ok (.value c) w) : Det P ops N w0 L o e c :=
  .inl ⟨hw, fun w s => by unfold Step; rw [hr w s]; exact ⟨Ext.refl _, rfl⟩⟩

theorem det_load (hop : o.op = .load t x) (hw : wantedE N ops e o = true) (hx : ev N e x = .pointer (some a)) (hl : ∀ w, St w0 L w → (loadVar t a).run P w = .ok v w) : Det P ops N w0 L o e v :=
  det_run hw fun w s => by
    unfold execOp
    simp only [hop, Instr.loadAt, hx, Instr.sureAddr, Sem.run_bind, Sem.run_pure, Result.andThen_ok, hl w s]

theorem det_load_old (hop : o.op = .load t x) (hw : wantedE N ops e o = true) (hx : ev N e x = .pointer (some a)) (ht : notAgg P t = true) (hb : a.block < w0.heap.size) (hc : w0.cell? a = some v) : Det P ops N w0 L o e v :=
  det_load hop hw hx fun _ s => run_loadVar1 ht ((s.below.cell hb).trans hc)
theorem det_load_oldN {cs : List Value} (hop : o.op = .load t x) (hw : wantedE N ops e o = true) (hx : ev N e x = .pointer (some a)) (ht : aggSz P t = some cs.length) (hb : a.block < w0.heap.size)
    (hc : ∀ j u, cs[j]? = some u → w0.cell? (a.add j) = some u) : Det P ops N w0 L o e (.agg cs.toArray) :=
  det_load hop hw hx fun _ s => run_loadVarN ht fun j u hu => (s.below.cell (by unfold Addr.add; split <;> exact hb)).trans (hc j u hu)

theorem Box.cell {b : Nat} {ty : TypeId} {cs : Array Value} {w : World} (h : (Box b ty cs).p w) (i : Nat) : w.cell? ⟨b, i, none⟩ = cs[i]? := by
  have : w.heap[b]? = some (.cells cs ty (0, 0)) := h
  simp [World.cell?, this]

theorem det_load_box {b i : Nat} {ty : TypeId} {cs : Array Value} (hop : o.op = .load t x) (hw : wantedE N ops e o = true) (hx : ev N e x = .pointer (some ⟨b, i, none⟩)) (ht : notAgg P t = true) (hp : Pick L (Box b ty cs) L')
    (hc : cs[i]? = some v) : Det P ops N w0 L o e v :=
  det_load hop hw hx fun _ s => run_loadVar1 ht ((Box.cell (s.pick hp).head i).trans hc)
theorem det_load_boxN {b : Nat} {ty : TypeId} {cs : Array Value} (hop : o.op = .load t x) (hw : wantedE N ops e o = true) (hx : ev N e x = .pointer (some ⟨b, 0, none⟩)) (ht : aggSz P t = some cs.size) (hp : Pick L (Box b ty cs) L') :
    Det P ops N w0 L o e (.agg cs) :=
  det_load hop hw hx fun _ s => by
    have h := run_loadVarN (cs := cs.toList) (a := ⟨b, 0, none⟩) (w := _) (by simpa using ht) fun j u hu => by
      have hadd : (⟨b, 0, none⟩ : Addr).add j = ⟨b, j, none⟩ := by unfold Addr.add; split <;> simp_all
      rw [hadd, Box.cell (s.pick hp).head j]
      simpa using hu
    simpa using h

theorem det_index {ix : Operand} {n c m : Nat} {k : IntKind} {z : Int} {el sz : Nat} (hop : o.op = .indexAddr t x ix) (hw : wantedE N ops e o = true) (hx : ev N e x = .slice (some a) n c) (hi : ev N e ix = .int k z) (ht : sliceSz P t = some (el, sz))
    (hz : z = (m : Int)) (hm : m < n) : Det P ops N w0 L o e (.pointer (some (a.add (m * sz)))) :=
  det_pure hw fun w => by
    unfold sliceSz at ht
    split at ht
    · rename_i el' hu
      obtain ⟨i, hinfo, heq⟩ := Option.map_eq_some_iff.1 ht
      injection heq with h1 h2
      subst h1 h2
      subst hz
      have h0 : (0 : Int) ≤ (m : Int) ∧ (m : Int) < (n : Int) := by omega
      unfold execOp
      simp [hop, hx, hi, Instr.indexAt, run_underlying hu, asIntOf, sizeOf, typeInfo, hinfo, h0]
      omega
    · cases ht

theorem det_index_arr {ix : Operand} {n m : Nat} {k : IntKind} {z : Int} {sz : Nat} (hop : o.op = .indexAddr t x ix) (hw : wantedE N ops e o = true) (hx : ev N e x = .pointer (some a)) (hi : ev N e ix = .int k z) (ht : arrSz P t = some (n, sz))
    (hz : z = (m : Int)) (hm : m < n) : Det P ops N w0 L o e (.pointer (some (a.add (m * sz)))) :=
  det_pure hw fun w => by
    unfold arrSz at ht
    split at ht
    · rename_i n' el' hu
      obtain ⟨i, hinfo, heq⟩ := Option.map_eq_some_iff.1 ht
      injection heq with h1 h2
      subst h1 h2
      subst hz
      have h0 : (0 : Int) ≤ (m : Int) ∧ (m : Int) < (n' : Int) := by omega
      unfold execOp
      simp [hop, hx, hi, Instr.indexAt, run_underlying hu, asIntOf, Instr.sureAddr, sizeOf, typeInfo, hinfo, h0]
      omega
    · cases ht

theorem det_field {s : TypeId} {f off : Nat} (hop : o.op = .fieldAddr s x f) (hw : wantedE N ops e o = true) (hx : ev N e x = .pointer (some a)) (hf : fieldOff P s f = some off) : Det P ops N w0 L o e (.pointer (some (a.add off))) :=
  det_pure hw fun w => by
    unfold fieldOff at hf
    split at hf
    · rename_i fs hu
      split at hf
      · rename_i fl hfl
        split at hf
        · rename_i i hi
          cases hz : Nat.beq i.size 0 with
          | true => rw [hz] at hf; cases hf
          | false =>
            rw [hz] at hf
            simp only [cond_false, Option.some.injEq] at hf
            subst hf
            have h0 : ¬ i.size = 0 := fun h => by rw [h] at hz; cases hz
            unfold execOp
            simp [hop, hx, Instr.fieldAt, run_underlying hu, hfl, Instr.sureAddr, fieldPlace, sizeOf, typeInfo, hi, h0]
        · cases hf
      · cases hf
    · cases hf

theorem det_len {n c : Nat} {A : Option Addr} (hop : o.op = .call { callee := .builtin .len, args := #[x], argTypes := #[t] }) (hw : wantedE N ops e o = true) (hx : ev N e x = .slice A n c) (ht : isSliceT P t = true) :
    Det P ops N w0 L o e (.int .i64 n) :=
  det_pure hw fun w => by
    unfold isSliceT at ht
    split at ht
    · rename_i el hu
      unfold execOp
      simp [hop, resolve, invoke, builtin, hx, Builtin.len_, run_underlying hu, goInt]
    · cases ht
theorem det_len_str {s : ByteArray} (hop : o.op = .call { callee := .builtin .len, args := #[x], argTypes := #[t] }) (hw : wantedE N ops e o = true) (hx : ev N e x = .string s) (ht : isStringT P t = true) :
    Det P ops N w0 L o e (.int .i64 s.size) :=
  det_pure hw fun w => by
    unfold isStringT at ht
    split at ht
    · rename_i hu
      unfold execOp
      simp [hop, resolve, invoke, builtin, hx, Builtin.len_, run_underlying hu, goInt]
    · cases ht

theorem run_call {f : FuncId} {as : Array Operand} {ts : Array TypeId} {l : List Value} {w : World} (hop : o.op = .call { callee := .value (.func f), args := as, argTypes := ts }) (hcf : callable P f = true)
    (hl : as.toList.map (ev N e) = l) : (execOp (ev N e) o).run P w = .ok (.enter f l.toArray) w := by
  have hargs : as.map (ev N e) = l.toArray := by rw [← hl, ← Array.toList_map]
  unfold callable at hcf
  split at hcf
  · rename_i fn hfn
    rw [Bool.and_eq_true, Bool.not_eq_true', Bool.not_eq_true'] at hcf
    have h1 : ¬ fn.name = "runtime.NumGoroutine" := by simpa using hcf.1
    have h2 : ¬ fn.body = none := fun h => by rw [h] at hcf; cases hcf.2
    unfold execOp
    simp [hop, resolve, ev, Deferred.ofValue, invoke, callFunc, program, hfn, h1, h2, hargs, Sem.run]
  · cases hcf

theorem det_call {f : FuncId} {as : Array Operand} {ts : Array TypeId} {l : List Value} {c : Value} (hop : o.op = .call { callee := .value (.func f), args := as, argTypes := ts }) (hw : wantedE N ops e o = true) (hcf : callable P f = true)
    (hl : as.toList.map (ev N e) = l) (hC : ∀ w, St w0 L w → Ok P f l.toArray w fun v _ => v = c) : Det P ops N w0 L o e c :=
  det_enter hw (fun _ => run_call hop hcf hl) hC

/-! ### Plain operations, one rule a kind -/
theorem det_mv (hop : o.op = .move x) (hw : wantedE N ops e o = true) (hx : ev N e x = v) : Det P ops N w0 L o e v := det_pure hw fun w => by unfold execOp; rw [hop]; subst hx; rfl
theorem det_as (hop : o.op = .assign x) (hw : wantedE N ops e o = true) (hx : ev N e x = v) : Det P ops N w0 L o e v := det_pure hw fun w => by unfold execOp; rw [hop]; subst hx; rfl
theorem det_pick_t {p q : Operand} (hop : o.op = .pick x p q) (hw : wantedE N ops e o = true) (hc : ev N e x = .bool true) (hx : ev N e p = v) : Det P ops N w0 L o e v :=
  det_pure hw fun w => by unfold execOp; simp [hop, hc, hx, asBool]
theorem det_pick_f {p q : Operand} (hop : o.op = .pick x p q) (hw : wantedE N ops e o = true) (hc : ev N e x = .bool false) (hx : ev N e q = v) : Det P ops N w0 L o e v :=
  det_pure hw fun w => by unfold execOp; simp [hop, hc, hx, asBool]
theorem det_not_ {b : Bool} (hop : o.op = .unOp .not t x) (hw : wantedE N ops e o = true) (hx : ev N e x = .bool b) : Det P ops N w0 L o e (.bool !b) :=
  det_pure hw fun w => by unfold execOp; simp [hop, hx, Op.unary]
theorem det_not_dec {p : Prop} [Decidable p] (hop : o.op = .unOp .not t x) (hw : wantedE N ops e o = true) (hx : ev N e x = .bool (decide p)) : Det P ops N w0 L o e (.bool (decide (¬ p))) :=
  det_eq (det_not_ hop hw hx) (by by_cases h : p <;> simp [h])
theorem det_neg {i j : Int} (hop : o.op = .unOp .neg t x) (hw : wantedE N ops e o = true) (hx : ev N e x = .int .i64 i) (hr : IntKind.i64.wrap (0 - i) = j) : Det P ops N w0 L o e (.int .i64 j) :=
  det_pure hw fun w => by rw [Int.zero_sub] at hr; unfold execOp; simp [hop, hx, Op.unary, Op.intArith, hr]
theorem det_extract {i : Nat} {vs : Array Value} (hop : o.op = .extract x i) (hw : wantedE N ops e o = true) (hx : ev N e x = .tuple vs) (hi : vs[i]? = some v) : Det P ops N w0 L o e v :=
  det_pure hw fun w => by unfold execOp; simp [hop, hx, Instr.extract, hi]

def mvOf : Op → Option Operand
  | .move x => some x
  | .assign x => some x
  | _ => none
theorem det_m (hop : mvOf o.op = some x) (hw : wantedE N ops e o = true) (hx : ev N e x = v) : Det P ops N w0 L o e v := by
  cases h : o.op <;> rw [h] at hop <;> simp [mvOf] at hop
  · subst hop; exact det_mv h hw hx
  · subst hop; exact det_as h hw hx

/-- What a test or a sum of two integers gives. -/
def intBin (b : BinOp) (k : IntKind) (i j : Int) : Option Value := match b with
  | .lss => some (.bool (decide (i < j)))
  | .leq => some (.bool (decide (i ≤ j)))
  | .gtr => some (.bool (decide (i > j)))
  | .geq => some (.bool (decide (i ≥ j)))
  | .eql => some (.bool (decide (i = j)))
  | .neq => some (.bool (decide (¬ i = j)))
  | .add => some (.int k (k.wrap (i + j)))
  | .sub => some (.int k (k.wrap (i - j)))
  | .mul => some (.int k (k.wrap (i * j)))
  | _ => none
theorem run_intBin {b : BinOp} {k : IntKind} {i j : Int} {yt : TypeId} {w : World} (hop : o.op = .binOp b t x y yt) (hx : ev N e x = .int k i) (hy : ev N e y = .int k j) (hr : intBin b k i j = some v) : (execOp (ev N e) o).run P w = .ok (.value v) w := by
  have h1 : (i == j) = decide (i = j) := by by_cases h : i = j <;> simp [h]
  have h2 : (i != j) = decide (¬ i = j) := by by_cases h : i = j <;> simp [h]
  unfold execOp
  cases b <;> simp only [intBin, Option.some.injEq, reduceCtorEq] at hr <;> subst hr <;> simp [hop, hx, hy, eqGuard, binOp, Op.intArith, Op.intCmp, h1, h2]
theorem det_cmp {b : BinOp} {k : IntKind} {i j : Int} {yt : TypeId} {r : Bool} (hop : o.op = .binOp b t x y yt) (hw : wantedE N ops e o = true) (hx : ev N e x = .int k i) (hy : ev N e y = .int k j) (hr : intBin b k i j = some (.bool r)) : Det P ops N w0 L o e (.bool r) :=
  det_pure hw fun _ => run_intBin hop hx hy hr
theorem det_ar {b : BinOp} {k : IntKind} {i j r : Int} {yt : TypeId} (hop : o.op = .binOp b t x y yt) (hw : wantedE N ops e o = true) (hx : ev N e x = .int .i64 i) (hy : ev N e y = .int .i64 j) (hr : intBin b .i64 i j = some (.int k (IntKind.i64.wrap r)))
    (hb : -9223372036854775808 ≤ r ∧ r ≤ 9223372036854775807) : Det P ops N w0 L o e (.int k r) :=
  det_pure hw fun _ => by
    have h : IntKind.i64.wrap r = r := by rw [IntKind.wrap_i64]; omega
    rw [h] at hr
    exact run_intBin hop hx hy hr
theorem det_ar_wrap {b : BinOp} {k k' : IntKind} {i j r : Int} {yt : TypeId} (hop : o.op = .binOp b t x y yt) (hw : wantedE N ops e o = true) (hx : ev N e x = .int k i) (hy : ev N e y = .int k j) (hr : intBin b k i j = some (.int k' r)) : Det P ops N w0 L o e (.int k' r) :=
  det_pure hw fun _ => run_intBin hop hx hy hr
theorem det_quo {i j : Int} {yt : TypeId} (hop : o.op = .binOp .quo t x y yt) (hw : wantedE N ops e o = true) (hx : ev N e x = .int .i64 i) (hy : ev N e y = .int .i64 j) (hi : 0 ≤ i) (hj : 0 < j) (hb : i ≤ 9223372036854775807) : Det P ops N w0 L o e (.int .i64 (i / j)) :=
  det_pure hw fun _ => by
    have h0 : ¬ j = 0 := by omega
    have h1 : i.tdiv j = i / j := Int.tdiv_eq_ediv_of_nonneg hi
    have h2 : i / j ≤ i := Int.ediv_le_self j hi
    have h3 : 0 ≤ i / j := Int.ediv_nonneg hi (by omega)
    have h : IntKind.i64.wrap (i / j) = i / j := by rw [IntKind.wrap_i64]; omega
    unfold execOp
    simp [hop, hx, hy, eqGuard, binOp, Op.intDiv, h0, h1, h]
theorem det_rem {i j : Int} {yt : TypeId} (hop : o.op = .binOp .rem t x y yt) (hw : wantedE N ops e o = true) (hx : ev N e x = .int .i64 i) (hy : ev N e y = .int .i64 j) (hi : 0 ≤ i) (hj : 0 < j) : Det P ops N w0 L o e (.int .i64 (i % j)) :=
  det_pure hw fun _ => by
    have h0 : ¬ j = 0 := by omega
    have h1 : i.tmod j = i % j := Int.tmod_eq_emod_of_nonneg hi
    unfold execOp
    simp [hop, hx, hy, eqGuard, binOp, Op.intDiv, h0, h1]
theorem det_beq {p q : Bool} {yt : TypeId} (hop : o.op = .binOp .eql t x y yt) (hw : wantedE N ops e o = true) (hx : ev N e x = .bool p) (hy : ev N e y = .bool q) (ht : P.underlying t = some .bool) : Det P ops N w0 L o e (.bool (p == q)) :=
  det_pure hw fun _ => by
    have h : ∀ (d : Nat) (w : World), (Op.equalIn (d + 1) t (.bool p) (.bool q)).run P w = .ok (p == q) w := fun d w => by simp [Op.equalIn, run_underlying ht]
    unfold execOp
    simp only [hop, hx, hy, eqGuard, binOp]
    simp [Op.equal, Op.maxDepth, h 9999]
theorem det_bne {p q : Bool} {yt : TypeId} (hop : o.op = .binOp .neq t x y yt) (hw : wantedE N ops e o = true) (hx : ev N e x = .bool p) (hy : ev N e y = .bool q) (ht : P.underlying t = some .bool) : Det P ops N w0 L o e (.bool (!(p == q))) :=
  det_pure hw fun _ => by
    have h : ∀ (d : Nat) (w : World), (Op.equalIn (d + 1) t (.bool p) (.bool q)).run P w = .ok (p == q) w := fun d w => by simp [Op.equalIn, run_underlying ht]
    unfold execOp
    simp only [hop, hx, hy, eqGuard, binOp]
    simp [Op.equal, Op.maxDepth, h 9999]
theorem det_seq {p q : ByteArray} {yt : TypeId} (hop : o.op = .binOp .eql t x y yt) (hw : wantedE N ops e o = true) (hx : ev N e x = .string p) (hy : ev N e y = .string q) : Det P ops N w0 L o e (.bool (p.toList == q.toList)) :=
  det_pure hw fun _ => by
    unfold execOp
    simp [hop, hx, hy, eqGuard, binOp, Op.stringOp]
theorem det_sne {p q : ByteArray} {yt : TypeId} (hop : o.op = .binOp .neq t x y yt) (hw : wantedE N ops e o = true) (hx : ev N e x = .string p) (hy : ev N e y = .string q) : Det P ops N w0 L o e (.bool (!(p.toList == q.toList))) :=
  det_pure hw fun _ => by
    unfold execOp
    simp [hop, hx, hy, eqGuard, binOp, Op.stringOp]

/-! ### Operations that make or change what the function owns -/
theorem ext_alloc (w : World) (ob : Obj) : Ext w (w.alloc ob) := Below.alloc (Below.refl _ _) (Nat.le_refl _) ob

theorem St.box {w : World} (s : St w0 L w) (ty : TypeId) (cs : Array Value) : St w0 (Box w.heap.size ty cs :: L) (w.alloc (.cells cs ty)) :=
  s.add (ext_alloc w _) (heap_alloc_new w _) fun b hb => by
    have : b = w.heap.size := hb
    subst this
    simp

theorem gw_box (hop : o.op = .box t x) (hw : wantedE N ops e o = true) (hx : ev N e x = v) (k : ∀ b, GW P ops Q N w0 (Box b t v.cells :: L) rest (updO e o.dst (.pointer (some ⟨b, 0, none⟩)))) : GW P ops Q N w0 L (o :: rest) e := ⟨fun w s =>
  wl_run (w' := w.alloc (.cells v.cells t)) hw (by unfold execOp; simp [hop, Instr.box, hx, newVar, newRow, newObj, Sem.run]) ((k w.heap.size).h _ (s.box t v.cells))⟩

theorem gw_alloc {z : Value} (hop : o.op = .alloc t) (hw : wantedE N ops e o = true) (hz : zeroB P t = some z) (k : ∀ b, GW P ops Q N w0 (Box b t z.cells :: L) rest (updO e o.dst (.pointer (some ⟨b, 0, none⟩)))) : GW P ops Q N w0 L (o :: rest) e := ⟨fun w s => by
  obtain ⟨i, hi, hzi⟩ := Option.bind_eq_some_iff.1 hz
  exact wl_run (w' := w.alloc (.cells z.cells t)) hw (by unfold execOp; simp [hop, Instr.alloc, zeroValue, typeInfo, hi, hzi, newVar, newRow, newObj, Sem.run]) ((k w.heap.size).h _ (s.box t z.cells))⟩

/-- A store into a variable of the function's own. -/
theorem gw_store {b i n : Nat} {ty : TypeId} {cs : Array Value} (hop : o.op = .store t x y) (hw : wantedE N ops e o = true) (hx : ev N e x = .pointer (some ⟨b, i, none⟩)) (hy : ev N e y = v) (ht : sizeB P t = some n) (hn : v.cells.size = n)
    (h1 : v.cells.toList.all (·.oneCell') = true) (hp : Pick L (Box b ty cs) L') (hfit : i + n ≤ cs.size)
    (k : GW P ops Q N w0 (Box b ty (cs.toList.take i ++ v.cells.toList ++ cs.toList.drop (i + n)).toArray :: L') rest (updO e o.dst undef)) : GW P ops Q N w0 L (o :: rest) e := ⟨fun w s => by
  have s1 := s.pick hp
  have hb : w.heap[b]? = some (.cells cs ty (0, 0)) := s1.head
  obtain ⟨inf, hi, hsz⟩ := Option.map_eq_some_iff.1 ht
  have hst := run_storeCells_at (P := P) b i ty v.cells.toList 0 cs w hb (by simp; omega) (fun u hu => List.all_eq_true.1 h1 u hu)
  have hlen : v.cells.toList.length = n := by simpa using hn
  simp only [Nat.add_zero, hlen] at hst
  refine wl_skip_run (w' := w.setRow b (cs.toList.take i ++ v.cells.toList ++ cs.toList.drop (i + n)).toArray) hw ?_ (k.h _ (s1.turn (r' := Box b ty _) ?_ ?_ ?_ ?_ ?_ ?_ ?_))
  · unfold execOp
    simp [hop, Instr.storeAt, hx, hy, Instr.sureAddr, storeVar, sizeOf, typeInfo, hi, hsz, hn, hst]
  · simp [World.setRow]
  · rfl
  · rfl
  · rfl
  · intro c _ hc
    have : c ≠ b := hc
    simp [World.setRow, Array.getElem?_modify, Ne.symm this]
  · exact setRow_heap w b cs _ ty _ hb
  · intro c hc
    exact .inl hc⟩

/-! ### The same, with the operation taken apart -/
section
variable {d : Nat} {op : Op} {ty : TypeId} {pos : String} {af : Array Edge} {g : Option (Nat × Bool)}
theorem gw_d {c : Value} (hd : Det P ops N w0 L ⟨some d, op, ty, pos, af, g⟩ e c) (k : GW P ops Q N w0 L rest (upd e d c)) : GW P ops Q N w0 L (⟨some d, op, ty, pos, af, g⟩ :: rest) e := gw_det hd k
theorem gd_d {c : Value} {tail : Env → Prop} (hd : Det P ops N w0 L ⟨some d, op, ty, pos, af, g⟩ e c) (k : GD P ops N w0 L tail rest (upd e d c)) : GD P ops N w0 L tail (⟨some d, op, ty, pos, af, g⟩ :: rest) e := gd_det hd k
theorem gw_boxd (hw : wantedE N ops e ⟨some d, .box t x, ty, pos, af, g⟩ = true) (hx : ev N e x = v) (k : ∀ b, GW P ops Q N w0 (Box b t v.cells :: L) rest (upd e d (.pointer (some ⟨b, 0, none⟩)))) : GW P ops Q N w0 L (⟨some d, .box t x, ty, pos, af, g⟩ :: rest) e :=
  gw_box rfl hw hx k
theorem gw_allocd {z : Value} (hw : wantedE N ops e ⟨some d, .alloc t, ty, pos, af, g⟩ = true) (hz : zeroB P t = some z) (k : ∀ b, GW P ops Q N w0 (Box b t z.cells :: L) rest (upd e d (.pointer (some ⟨b, 0, none⟩)))) :
    GW P ops Q N w0 L (⟨some d, .alloc t, ty, pos, af, g⟩ :: rest) e := gw_alloc rfl hw hz k
theorem gw_stored {b i n : Nat} {bt : TypeId} {cs : Array Value} (hw : wantedE N ops e ⟨none, .store t x y, ty, pos, af, g⟩ = true) (hx : ev N e x = .pointer (some ⟨b, i, none⟩)) (hy : ev N e y = v) (ht : sizeB P t = some n) (hn : v.cells.size = n)
    (h1 : v.cells.toList.all (·.oneCell') = true) (hp : Pick L (Box b bt cs) L') (hfit : i + n ≤ cs.size) {cs' : Array Value} (hcs : (cs.toList.take i ++ v.cells.toList ++ cs.toList.drop (i + n)).toArray = cs')
    (k : GW P ops Q N w0 (Box b bt cs' :: L') rest e) : GW P ops Q N w0 L (⟨none, .store t x y, ty, pos, af, g⟩ :: rest) e :=
  gw_store rfl hw hx hy ht hn h1 hp hfit (hcs ▸ k)
end

/-- An operation that hangs on a test that is not decided: the test is decided first. -/
theorem gw_guard {dst : Option Nat} {op : Op} {ty : TypeId} {pos : String} {af : Array Edge} {j s : Nat} {want b : Bool} (hs : (ops[j]?).bind (·.dst) = some s) (hb : e s = .bool b)
    (ht : b = true → GW P ops Q N w0 L (⟨dst, op, ty, pos, af, some (j, want)⟩ :: rest) (upd e s (.bool true))) (hf : b = false → GW P ops Q N w0 L (⟨dst, op, ty, pos, af, some (j, want)⟩ :: rest) (upd e s (.bool false))) :
    GW P ops Q N w0 L (⟨dst, op, ty, pos, af, some (j, want)⟩ :: rest) e := by
  have _ := hs
  exact guard_split (F := fun e => GW P ops Q N w0 L (⟨dst, op, ty, pos, af, some (j, want)⟩ :: rest) e) hb ht hf
theorem gw_guard_dec {dst : Option Nat} {op : Op} {ty : TypeId} {pos : String} {af : Array Edge} {j s : Nat} {want : Bool} {p : Prop} [Decidable p] (hs : (ops[j]?).bind (·.dst) = some s) (hb : e s = .bool (decide p))
    (ht : p → GW P ops Q N w0 L (⟨dst, op, ty, pos, af, some (j, want)⟩ :: rest) (upd e s (.bool true))) (hf : ¬ p → GW P ops Q N w0 L (⟨dst, op, ty, pos, af, some (j, want)⟩ :: rest) (upd e s (.bool false))) :
    GW P ops Q N w0 L (⟨dst, op, ty, pos, af, some (j, want)⟩ :: rest) e :=
  gw_guard hs hb (fun h => ht (of_decide_eq_true h)) (fun h => hf (of_decide_eq_false h))
theorem gd_guard {tail : Env → Prop} {dst : Option Nat} {op : Op} {ty : TypeId} {pos : String} {af : Array Edge} {j s : Nat} {want b : Bool} (hs : (ops[j]?).bind (·.dst) = some s) (hb : e s = .bool b)
    (ht : b = true → GD P ops N w0 L tail (⟨dst, op, ty, pos, af, some (j, want)⟩ :: rest) (upd e s (.bool true))) (hf : b = false → GD P ops N w0 L tail (⟨dst, op, ty, pos, af, some (j, want)⟩ :: rest) (upd e s (.bool false))) :
    GD P ops N w0 L tail (⟨dst, op, ty, pos, af, some (j, want)⟩ :: rest) e := by
  have _ := hs
  exact guard_split (F := fun e => GD P ops N w0 L tail (⟨dst, op, ty, pos, af, some (j, want)⟩ :: rest) e) hb ht hf
theorem gd_guard_dec {tail : Env → Prop} {dst : Option Nat} {op : Op} {ty : TypeId} {pos : String} {af : Array Edge} {j s : Nat} {want : Bool} {p : Prop} [Decidable p] (hs : (ops[j]?).bind (·.dst) = some s) (hb : e s = .bool (decide p))
    (ht : p → GD P ops N w0 L tail (⟨dst, op, ty, pos, af, some (j, want)⟩ :: rest) (upd e s (.bool true))) (hf : ¬ p → GD P ops N w0 L tail (⟨dst, op, ty, pos, af, some (j, want)⟩ :: rest) (upd e s (.bool false))) :
    GD P ops N w0 L tail (⟨dst, op, ty, pos, af, some (j, want)⟩ :: rest) e :=
  gd_guard hs hb (fun h => ht (of_decide_eq_true h)) (fun h => hf (of_decide_eq_false h))

theorem det_load_at {i : Nat} (hop : o.op = .load t x) (hw : wantedE N ops e o = true) (hx : ev N e x = .pointer (some (a.add i))) (ht : notAgg P t = true) (hb : a.block < w0.heap.size) (hc : w0.cell? (a.add i) = some v) : Det P ops N w0 L o e v :=
  det_load_old hop hw hx ht (by unfold Addr.add; split <;> exact hb) hc
theorem det_load_fld {i j : Nat} (hop : o.op = .load t x) (hw : wantedE N ops e o = true) (hx : ev N e x = .pointer (some ((a.add i).add j))) (ht : notAgg P t = true) (hb : a.block < w0.heap.size) (hc : w0.cell? (a.add (i + j)) = some v) : Det P ops N w0 L o e v :=
  det_load_old hop hw hx ht (by unfold Addr.add; split <;> split <;> exact hb) (by
    rw [← hc]
    congr 1
    unfold Addr.add
    by_cases hi : i = 0 <;> by_cases hj : j = 0 <;> simp [hi, hj, Nat.add_assoc])
/-- A whole struct out of a slice that came in. -/
theorem det_load_elem {i : Nat} {cs : List Value} (hop : o.op = .load t x) (hw : wantedE N ops e o = true) (hx : ev N e x = .pointer (some (a.add i))) (ht : aggSz P t = some cs.length) (hb : a.block < w0.heap.size)
    (hc : ∀ j u, cs[j]? = some u → w0.cell? (a.add (i + j)) = some u) : Det P ops N w0 L o e (.agg cs.toArray) :=
  det_load_oldN hop hw hx ht (by unfold Addr.add; split <;> exact hb) fun j u hu => by
    rw [← hc j u hu]
    congr 1
    unfold Addr.add
    by_cases hi : i = 0 <;> by_cases hj : j = 0 <;> simp [hi, hj, Nat.add_assoc]

/-! ### The kind of an operation -/
section
variable {c : Value}
theorem of_move (hop : (mvOf o.op).isSome = true) (h : Det P ops N w0 L o e c) : Det P ops N w0 L o e c := have _ := hop; h
theorem of_field {s : TypeId} {f : Nat} (hop : o.op = .fieldAddr s x f) (h : Det P ops N w0 L o e c) : Det P ops N w0 L o e c := have _ := hop; h
theorem of_load (hop : o.op = .load t x) (h : Det P ops N w0 L o e c) : Det P ops N w0 L o e c := have _ := hop; h
theorem of_bin {b : BinOp} {yt : TypeId} (hop : o.op = .binOp b t x y yt) (h : Det P ops N w0 L o e c) : Det P ops N w0 L o e c := have _ := hop; h
theorem of_call {k : Call} (hop : o.op = .call k) (h : Det P ops N w0 L o e c) : Det P ops N w0 L o e c := have _ := hop; h
theorem of_index (hop : o.op = .indexAddr t x y) (h : Det P ops N w0 L o e c) : Det P ops N w0 L o e c := have _ := hop; h
theorem of_un {u : UnOp} (hop : o.op = .unOp u t x) (h : Det P ops N w0 L o e c) : Det P ops N w0 L o e c := have _ := hop; h
theorem of_pick {p q : Operand} (hop : o.op = .pick x p q) (h : Det P ops N w0 L o e c) : Det P ops N w0 L o e c := have _ := hop; h
theorem of_extract {i : Nat} (hop : o.op = .extract x i) (h : Det P ops N w0 L o e c) : Det P ops N w0 L o e c := have _ := hop; h
theorem of_cut {p q r : Option Operand} (hop : o.op = .slice t x p q r) (h : Det P ops N w0 L o e c) : Det P ops N w0 L o e c := have _ := hop; h
theorem of_sidx (hop : o.op = .index t x y) (h : Det P ops N w0 L o e c) : Det P ops N w0 L o e c := have _ := hop; h
end

/-! ### The rules as the walk uses them: facts on types come by instance -/
section
variable {i j n c m el sz off : Nat} {A : Option Addr} {ix : Operand} {k : IntKind} {z : Int}
theorem w_len [CIsSlice P t] (hop : o.op = .call { callee := .builtin .len, args := #[x], argTypes := #[t] }) (hw : wantedE N ops e o = true) (hx : ev N e x = .slice A n c) : Det P ops N w0 L o e (.int .i64 n) := det_len hop hw hx CIsSlice.h
theorem w_len_str [CIsStr P t] {s : ByteArray} (hop : o.op = .call { callee := .builtin .len, args := #[x], argTypes := #[t] }) (hw : wantedE N ops e o = true) (hx : ev N e x = .string s) : Det P ops N w0 L o e (.int .i64 s.size) := det_len_str hop hw hx CIsStr.h
theorem w_field {s f : Nat} [CField P s f off] (hop : o.op = .fieldAddr s x f) (hw : wantedE N ops e o = true) (hx : ev N e x = .pointer (some a)) : Det P ops N w0 L o e (.pointer (some (a.add off))) := det_field hop hw hx CField.h
theorem w_index [CSlice P t el sz] (hop : o.op = .indexAddr t x ix) (hw : wantedE N ops e o = true) (hx : ev N e x = .slice (some a) n c) (hi : ev N e ix = .int k z) (hz : z = (m : Int)) (hm : m < n) : Det P ops N w0 L o e (.pointer (some (a.add (m * sz)))) :=
  det_index hop hw hx hi CSlice.h hz hm
theorem w_index_arr [CArr P t n sz] (hop : o.op = .indexAddr t x ix) (hw : wantedE N ops e o = true) (hx : ev N e x = .pointer (some a)) (hi : ev N e ix = .int k z) (hz : z = (m : Int)) (hm : m < n) : Det P ops N w0 L o e (.pointer (some (a.add (m * sz)))) :=
  det_index_arr hop hw hx hi CArr.h hz hm
theorem w_load_at [CNotAgg P t] (hop : o.op = .load t x) (hw : wantedE N ops e o = true) (hx : ev N e x = .pointer (some (a.add i))) (hb : a.block < w0.heap.size) (hc : w0.cell? (a.add i) = some v) : Det P ops N w0 L o e v := det_load_at hop hw hx CNotAgg.h hb hc
theorem w_load_fld [CNotAgg P t] (hop : o.op = .load t x) (hw : wantedE N ops e o = true) (hx : ev N e x = .pointer (some ((a.add i).add j))) (hb : a.block < w0.heap.size) (hc : w0.cell? (a.add (i + j)) = some v) : Det P ops N w0 L o e v :=
  det_load_fld hop hw hx CNotAgg.h hb hc
theorem w_load_box [CNotAgg P t] {b : Nat} {ty : TypeId} {cs : Array Value} (hop : o.op = .load t x) (hw : wantedE N ops e o = true) (hx : ev N e x = .pointer (some ⟨b, i, none⟩)) (hp : Pick L (Box b ty cs) L') (hc : cs[i]? = some v) : Det P ops N w0 L o e v :=
  det_load_box hop hw hx CNotAgg.h hp hc
theorem w_load_boxN [CAgg P t n] {b : Nat} {ty : TypeId} {cs : Array Value} (hop : o.op = .load t x) (hw : wantedE N ops e o = true) (hx : ev N e x = .pointer (some ⟨b, 0, none⟩)) (hp : Pick L (Box b ty cs) L') (hn : cs.size = n) : Det P ops N w0 L o e (.agg cs) :=
  det_load_boxN hop hw hx (by rw [hn]; exact CAgg.h) hp
theorem w_load_elem [CAgg P t n] {cs : List Value} (hop : o.op = .load t x) (hw : wantedE N ops e o = true) (hx : ev N e x = .pointer (some (a.add i))) (hb : a.block < w0.heap.size) (hc : ∀ j u, cs[j]? = some u → w0.cell? (a.add (i + j)) = some u) (hn : cs.length = n) :
    Det P ops N w0 L o e (.agg cs.toArray) := det_load_elem hop hw hx (by rw [hn]; exact CAgg.h) hb hc
theorem w_call {f : FuncId} [CCall P f] {as : Array Operand} {ts : Array TypeId} {l : List Value} {r : Value} (hop : o.op = .call { callee := .value (.func f), args := as, argTypes := ts }) (hw : wantedE N ops e o = true)
    (hC : ∀ w, St w0 L w → Ok P f l.toArray w fun v _ => v = r) (hl : as.toList.map (ev N e) = l) : Det P ops N w0 L o e r := det_call hop hw CCall.h hl hC
variable {d : Nat} {op : Op} {ty : TypeId} {pos : String} {af : Array Edge} {g : Option (Nat × Bool)}
theorem w_alloc [CZero P t v] (hw : wantedE N ops e ⟨some d, .alloc t, ty, pos, af, g⟩ = true) (k : ∀ b, GW P ops Q N w0 (Box b t v.cells :: L) rest (upd e d (.pointer (some ⟨b, 0, none⟩)))) :
    GW P ops Q N w0 L (⟨some d, .alloc t, ty, pos, af, g⟩ :: rest) e := gw_allocd hw CZero.h k
theorem w_store [CSize P t n] {b : Nat} {bt : TypeId} {cs : Array Value} (hw : wantedE N ops e ⟨none, .store t x y, ty, pos, af, g⟩ = true) (hx : ev N e x = .pointer (some ⟨b, i, none⟩)) (hy : ev N e y = v) (hn : v.cells.size = n)
    (h1 : v.cells.toList.all (·.oneCell') = true) (hp : Pick L (Box b bt cs) L') (hfit : Nat.ble (i + n) cs.size = true) {cs' : Array Value} (hcs : (cs.toList.take i ++ v.cells.toList ++ cs.toList.drop (i + n)).toArray = cs')
    (k : GW P ops Q N w0 (Box b bt cs' :: L') rest e) : GW P ops Q N w0 L (⟨none, .store t x y, ty, pos, af, g⟩ :: rest) e :=
  gw_stored hw hx hy CSize.h hn h1 hp (Nat.le_of_ble_eq_true hfit) hcs k
end
end
end Go.Proofs.YteiboodeepjanaaGreat
