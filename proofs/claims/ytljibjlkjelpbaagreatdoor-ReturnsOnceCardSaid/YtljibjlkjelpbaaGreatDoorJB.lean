/- Texts in one file: FwH FwM FwK. -/
import Derived.Test.YtljibjlkjelpbaaGreatDoorJA
import Derived.Maps.RangeRun
import Derived.Deep.Slices
import Derived.WalkKit
import Derived.ProofKit
import Derived.OpenShut
import Derived.ShutString
import Derived.ChangeOld
/- Structs of integers held against each other, calls of function values, slices of spots. No program in sight. -/
namespace Go.Proofs.YtljibjlkjelpbaaGreatDoor
open Go.RowKit

section
variable {P : Program} {ops : Array Oper} {Q : Exit → Act → World → Prop} {N : Nat} {w0 : World} {L L' : List Res} {rest : List Oper} {e : Env} {o : Oper} {t : TypeId} {x y ix : Operand} {a : Addr} {v z : Value} {n : Nat}

/-! ### Equality of structs of integers -/
theorem equalIn_int {d : Nat} {ft : TypeId} {i j : Int} {w : World} (hu : P.underlying ft = some (.int .i64)) : (Op.equalIn (d + 1) ft (.int .i64 i) (.int .i64 j)).run P w = .ok (i == j) w := by
  simp [Op.equalIn, run_underlying hu]

theorem part_int {ft : TypeId} {cs : Array Value} {off : Nat} {w : World} (hu : P.underlying ft = some (.int .i64)) (hc : cs[off]? = some v) : (part ft cs off).run P w = .ok v w := by
  simp [part, isAgg, run_underlying hu, hc]

/-- What the model's loop over the fields gives. -/
theorem fields_eq {d : Nat} {w : World} (xs ys : List Int) (hlen : xs.length = ys.length) : ∀ (fs : List Field) (k : Nat), (∀ (j : Nat) (f : Field), fs[j]? = some f → f.name ≠ "_" ∧ f.offset = k + j ∧ P.underlying f.type = some (.int .i64)) → k + fs.length = xs.length →
    (forIn (m := Sem) fs ((none, ()) : Option Bool × Unit) fun f _ =>
      if f.name ≠ "_" then do
        let p ← part f.type (xs.map (Value.int .i64)).toArray f.offset
        let q ← part f.type (ys.map (Value.int .i64)).toArray f.offset
        let r ← Op.equalIn (d + 1) f.type p q
        if (!r) = true then pure (ForInStep.done (some false, ())) else pure (ForInStep.yield (none, ()))
      else pure (ForInStep.yield (none, ()))).run P w = .ok (if xs.drop k = ys.drop k then none else some false, ()) w
  | [], k, _, hk => by
    have h1 : xs.drop k = [] := List.drop_eq_nil_of_le (by simp at hk; omega)
    have h2 : ys.drop k = [] := List.drop_eq_nil_of_le (by simp at hk; omega)
    simp [h1, h2]
  | f :: fs, k, hf, hk => by
    obtain ⟨h1, h2, h3⟩ := hf 0 f rfl
    simp only [Nat.add_zero] at h2
    simp only [List.length_cons] at hk
    have hkx : k < xs.length := by omega
    have hky : k < ys.length := by omega
    have ih := fields_eq (d := d) (w := w) xs ys hlen fs (k + 1) (fun j g hg => by
      have := hf (j + 1) g (by simpa using hg)
      exact ⟨this.1, by omega, this.2.2⟩) (by omega)
    have p1 : (part f.type (xs.map (Value.int .i64)).toArray f.offset).run P w = .ok (.int .i64 xs[k]) w := part_int h3 (by rw [h2]; simp [hkx])
    have p2 : (part f.type (ys.map (Value.int .i64)).toArray f.offset).run P w = .ok (.int .i64 ys[k]) w := part_int h3 (by rw [h2]; simp [hky])
    rw [List.forIn_cons]
    simp only [Sem.run_bind, if_pos h1, p1, p2, Result.andThen_ok, equalIn_int h3]
    rw [List.drop_eq_getElem_cons hkx, List.drop_eq_getElem_cons hky]
    by_cases he : xs[k] = ys[k]
    · simp only [he, beq_self_eq_true, Bool.not_true, Bool.false_eq_true, if_false, Sem.run_pure, Result.andThen_ok, List.cons.injEq, true_and]
      exact ih
    · have hb : (xs[k] == ys[k]) = false := by simpa using he
      have hd : ¬ (xs[k] :: xs.drop (k + 1) = ys[k] :: ys.drop (k + 1)) := fun h => by injection h with h _; exact he h
      rw [if_neg hd]
      simp [hb]

theorem run_eq_ints [CInts P t n] {d : Nat} {w : World} {xs ys : List Int} (hx : xs.length = n) (hy : ys.length = n) :
    (Op.equalIn (d + 2) t (.agg (xs.map (Value.int .i64)).toArray) (.agg (ys.map (Value.int .i64)).toArray)).run P w = .ok (decide (xs = ys)) w ∧ P.eqGuardType P.depth t = false := by
  have h := CInts.h (P := P) (t := t) (n := n)
  unfold intStruct at h
  split at h
  · rename_i fs hu
    split at h
    · rename_i hc
      injection h with h
      simp only [Bool.and_eq_true, Bool.not_eq_true', List.all_eq_true] at hc
      refine ⟨?_, hc.2⟩
      have hf := fields_eq (P := P) (d := d) (w := w) xs ys (by omega) fs.toList 0 (fun j f hj => by
        have hmem : (f, j) ∈ fs.toList.zipIdx := by
          rw [List.mem_iff_getElem?]
          exact ⟨j, by simp [hj]⟩
        have h1 := hc.1.1 (f, j) hmem
        simp only [bne_iff_ne, beq_iff_eq] at h1
        refine ⟨h1.1.1, by omega, ?_⟩
        have h2 := h1.2
        split at h2
        · assumption
        · cases h2) (by simp; omega)
      unfold Op.equalIn
      simp only [Sem.run_bind, run_underlying hu, Result.andThen_ok]
      rw [← Array.forIn_toList]
      have hprog : (program).run P w = .ok P w := rfl
      simp only [hprog, Result.andThen_ok, hc.1.2, Bool.false_eq_true, if_false, Sem.run_bind]
      rw [hf]
      simp only [List.drop_zero, Result.andThen_ok]
      by_cases he : xs = ys <;> simp [he]
    · cases h
  · cases h

theorem w_eqs [CInts P t n] {xs ys : List Int} {yt : TypeId} (hop : o.op = .binOp .eql t x y yt) (hw : wantedE N ops e o = true) (hx : ev N e x = .agg (xs.map (Value.int .i64)).toArray) (hy : ev N e y = .agg (ys.map (Value.int .i64)).toArray) (h1 : xs.length = n) (h2 : ys.length = n) :
    Det P ops N w0 L o e (.bool (decide (xs = ys))) :=
  det_pure hw fun w => by
    have h := fun w => run_eq_ints (P := P) (t := t) (n := n) (d := 9998) (w := w) h1 h2
    unfold execOp
    simp only [hop, hx, hy, eqGuard, binOp]
    simp [Op.equal, Op.maxDepth, (h w).1, (h w).2, program, Sem.run]
theorem w_nes [CInts P t n] {xs ys : List Int} {yt : TypeId} (hop : o.op = .binOp .neq t x y yt) (hw : wantedE N ops e o = true) (hx : ev N e x = .agg (xs.map (Value.int .i64)).toArray) (hy : ev N e y = .agg (ys.map (Value.int .i64)).toArray) (h1 : xs.length = n) (h2 : ys.length = n) :
    Det P ops N w0 L o e (.bool (decide (¬ xs = ys))) :=
  det_pure hw fun w => by
    have h := fun w => run_eq_ints (P := P) (t := t) (n := n) (d := 9998) (w := w) h1 h2
    unfold execOp
    simp only [hop, hx, hy, eqGuard, binOp]
    simp [Op.equal, Op.maxDepth, (h w).1, (h w).2, program, Sem.run]
theorem w_eq2 [CInts P t 2] {a1 a2 b1 b2 : Int} {yt : TypeId} (hop : o.op = .binOp .eql t x y yt) (hw : wantedE N ops e o = true) (hx : ev N e x = .agg #[.int .i64 a1, .int .i64 a2]) (hy : ev N e y = .agg #[.int .i64 b1, .int .i64 b2]) : Det P ops N w0 L o e (.bool (decide ((a1, a2) = (b1, b2)))) :=
  det_eq (w_eqs (n := 2) (xs := [a1, a2]) (ys := [b1, b2]) hop hw hx hy rfl rfl) (by congr 1; simp)
theorem w_ne2 [CInts P t 2] {a1 a2 b1 b2 : Int} {yt : TypeId} (hop : o.op = .binOp .neq t x y yt) (hw : wantedE N ops e o = true) (hx : ev N e x = .agg #[.int .i64 a1, .int .i64 a2]) (hy : ev N e y = .agg #[.int .i64 b1, .int .i64 b2]) : Det P ops N w0 L o e (.bool (decide (¬ (a1, a2) = (b1, b2)))) :=
  det_eq (w_nes (n := 2) (xs := [a1, a2]) (ys := [b1, b2]) hop hw hx hy rfl rfl) (by congr 1; simp)

/-! ### Calls of a function value -/
theorem w_callv {f : FuncId} [CCall P f] {fo : Operand} {as : Array Operand} {ts : Array TypeId} {l : List Value} {r : Value} {fst cap : Array Value} (hop : o.op = .call { callee := .value fo, args := as, argTypes := ts }) (hw : wantedE N ops e o = true)
    (hf : ev N e fo = .func (.func f) fst cap) (hC : ∀ w, St w0 L w → Ok P f l.toArray w fun v _ => v = r) (hl : fst.toList ++ as.toList.map (ev N e) ++ cap.toList = l) : Det P ops N w0 L o e r :=
  det_enter (f := f) (args := l.toArray) hw (fun w => by
    have hcf := CCall.h (P := P) (f := f)
    have hargs : fst ++ as.map (ev N e) ++ cap = l.toArray := by rw [← hl]; apply Array.ext'; simp
    unfold callable at hcf
    split at hcf
    · rename_i fn hfn
      rw [Bool.and_eq_true, Bool.not_eq_true', Bool.not_eq_true'] at hcf
      have h1 : ¬ fn.name = "runtime.NumGoroutine" := by simpa using hcf.1
      have h2 : ¬ fn.body = none := fun h => by rw [h] at hcf; cases hcf.2
      unfold execOp
      simp [hop, resolve, hf, Deferred.ofValue, invoke, callFunc, program, hfn, h1, h2, hargs, Sem.run]
    · cases hcf) hC

/-! ### Spots -/
def rSpot : Rp (Int × Int) where
  size := 2
  rep _ _ p cs := cs = [.int .i64 p.1, .int .i64 p.2] ∧ inI64 p.1 ∧ inI64 p.2
  len h := by rw [h.1]; rfl
  mono _ h := h
  grow _ h := h
theorem Sl.spot {w : World} {B : Nat} {v : Value} {l : List (Int × Int)} (h : Sl rSpot w B v l) : ∃ A c, v = .slice A l.length c ∧ l.length ≤ c ∧ l.length ≤ 9223372036854775807 ∧
    ∀ k (hk : k < l.length), ∃ ad, A = some ad ∧ ad.block < B ∧ (∀ j u, [Value.int .i64 l[k].1, Value.int .i64 l[k].2][j]? = some u → w.cell? (ad.add (k * 2 + j)) = some u) ∧ inI64 l[k].1 ∧ inI64 l[k].2 := by
  obtain ⟨A, c, hv, h1, h2, h3⟩ := h
  refine ⟨A, c, hv, h1, by unfold maxLen at h2; omega, fun k hk => ?_⟩
  obtain ⟨ad, cs, ha, hlt, hc, hr⟩ := h3 k hk
  obtain ⟨rfl, hr1, hr2⟩ := hr
  exact ⟨ad, ha, hlt, hc, hr1, hr2⟩

/-! ### Parts of slices -/
theorem Sl.take {α : Type} {R : Rp α} {w : World} {B : Nat} {A : Option Addr} {n c : Nat} {l : List α} (h : Sl R w B (.slice A n c) l) {m : Nat} (hm : m ≤ l.length) : Sl R w B (.slice A m c) (l.take m) := by
  obtain ⟨A', c', hv, h1, h2, h3⟩ := h
  injection hv with e1 e2 e3
  subst e1 e3
  refine ⟨A, c, by rw [List.length_take, Nat.min_eq_left hm], by rw [List.length_take]; omega, h2, fun k hk => ?_⟩
  have hk' : k < l.length := by rw [List.length_take] at hk; omega
  obtain ⟨ad, cs, ha, hlt, hc, hr⟩ := h3 k hk'
  exact ⟨ad, cs, ha, hlt, hc, by rw [List.getElem_take]; exact hr⟩

/-- A store of a whole struct into its variable. -/
theorem w_store_all [CSize P t n] {b : Nat} {bt ty : TypeId} {cs vs : Array Value} {pos : String} {af : Array Edge} {g : Option (Nat × Bool)} (hw : wantedE N ops e ⟨none, .store t x y, ty, pos, af, g⟩ = true) (hx : ev N e x = .pointer (some ⟨b, 0, none⟩)) (hy : ev N e y = .agg vs) (hn : vs.size = n)
    (h1 : vs.toList.all (·.oneCell') = true) (hp : Pick L (Box b bt cs) L') (hcs : cs.size = n) (k : GW P ops Q N w0 (Box b bt vs :: L') rest e) : GW P ops Q N w0 L (⟨none, .store t x y, ty, pos, af, g⟩ :: rest) e :=
  w_store (v := .agg vs) hw hx hy hn h1 hp (by rw [Nat.zero_add, hcs]; exact Nat.ble_eq_true_of_le (Nat.le_refl _)) (by
    show (cs.toList.take 0 ++ vs.toList ++ cs.toList.drop (0 + n)).toArray = vs
    rw [List.drop_eq_nil_of_le (by simp; omega)]
    simp) k
end
end Go.Proofs.YtljibjlkjelpbaaGreatDoor

/- Loops that keep all that is owned. No program in sight. -/
namespace Go.Proofs.YtljibjlkjelpbaaGreatDoor
open Go.RowKit

theorem Sub.all : ∀ (L : List Res), Sub L L
  | [] => .nil
  | _r :: L => .cons .here (Sub.all L)

section
variable {P : Program} {ops : Array Oper} {Q : Exit → Act → World → Prop} {N : Nat} {w0 : World} {L L' : List Res} {rest : List Oper} {e : Env} {o : Oper} {t : TypeId} {x y ix : Operand} {a : Addr} {v z : Value} {n : Nat}

/-- A loop whose rounds keep all that is owned as it is. -/
theorem gc_loopK {σ : Type} {c : Code} (wr : List Nat) (S : σ → List (Nat × Value)) (I : σ → Prop) (μ : σ → Nat) (s0 : σ) (hI : I s0) (hA : Ats (S s0) e)
    (round : ∀ s base, I s → GC P (Exit.then (Rnd N w0 wr e S (fun _ => L) I μ (μ s)) Q) N w0 L c (sets (S s) (havoc wr e base))) : GC P Q N w0 L (.loop c) e :=
  gc_loop wr S (fun _ => L) I μ s0 hI hA (Sub.all L) round
end
end Go.Proofs.YtljibjlkjelpbaaGreatDoor

/- Calls that give fresh memory, conversions and shifts, results in variables, and rules for drawn regions that make memory. No program in sight. -/
namespace Go.Proofs.YtljibjlkjelpbaaGreatDoor
open Go.RowKit

/-- A call whose result is fresh: V x for some x, and R x is made. -/
def OkM {X : Type} (P : Program) (f : FuncId) (args : Array Value) (w : World) (V : X → Value) (R : X → List Res) : Prop :=
  Ok P f args w fun v w' => ∃ x, v = V x ∧ Made w (R x) w'

section
variable {P : Program} {ops : Array Oper} {Q : Exit → Act → World → Prop} {N : Nat} {w0 : World} {L L' : List Res} {rest : List Oper} {e : Env} {o : Oper} {t : TypeId} {x y ix : Operand} {a : Addr} {v z : Value} {n m : Nat}
variable {d : Nat} {op : Op} {ty : TypeId} {pos : String} {af : Array Edge} {g : Option (Nat × Bool)}

theorem step_call {X : Type} {f : FuncId} [CCall P f] {as : Array Operand} {ts : Array TypeId} {l : List Value} {V : X → Value} {R : X → List Res} {w : World} (hop : o.op = .call { callee := .value (.func f), args := as, argTypes := ts }) (hl : as.toList.map (ev N e) = l)
    (hC : OkM P f l.toArray w V R) : Step P (ev N e) o w fun v w' => ∃ x, v = V x ∧ Made w (R x) w' := by
  unfold Step
  rw [run_call hop CCall.h hl]
  exact ⟨Ext.refl _, hC⟩

/-- A call with a fresh result, in order. -/
theorem gw_callm {X : Type} {f : FuncId} [CCall P f] {as : Array Operand} {ts : Array TypeId} {l : List Value} {V : X → Value} {R : X → List Res} (hw : wantedE N ops e ⟨some d, .call { callee := .value (.func f), args := as, argTypes := ts }, ty, pos, af, g⟩ = true)
    (hC : ∀ w, St w0 L w → OkM P f l.toArray w V R) (hl : as.toList.map (ev N e) = l) (k : ∀ x, GW P ops Q N w0 (R x ++ L) rest (upd e d (V x))) :
    GW P ops Q N w0 L (⟨some d, .call { callee := .value (.func f), args := as, argTypes := ts }, ty, pos, af, g⟩ :: rest) e := ⟨fun w s =>
  wl_step hw (step_call rfl hl (hC w s)) fun v w' x ⟨y, hv, hm⟩ => by subst hv; exact (k y).h w' (s.adds x hm)⟩

/-! ### Conversions, shifts, copies of nothing -/
theorem det_conv {t2 : TypeId} {k k' k0 : IntKind} {i r : Int} [CInt P t2 k'] [CInt P t k0] (hop : o.op = .convert t t2 x) (hw : wantedE N ops e o = true) (hx : ev N e x = .int k i) (hr : k'.wrap i = r) : Det P ops N w0 L o e (.int k' r) :=
  det_pure hw fun w => by
    have h := CInt.h (P := P) (t := t2) (k := k')
    unfold intKindB at h
    split at h
    · rename_i k2 hu
      injection h with h
      subst h hr
      have h0 := CInt.h (P := P) (t := t) (k := k0)
      unfold intKindB at h0
      split at h0
      · rename_i k1 hu1
        unfold execOp
        simp [hop, hx, convert, run_underlying hu, run_underlying hu1, Conv.intToInt]
      · cases h0
    · cases h

theorem det_shr {k k' : IntKind} {i j r : Int} {yt : TypeId} (hop : o.op = .binOp .shr t x y yt) (hw : wantedE N ops e o = true) (hx : ev N e x = .int k i) (hy : ev N e y = .int k' j) (hj : 0 ≤ j) (hr : i.fdiv (2 ^ (min j.toNat k.bits)) = r) : Det P ops N w0 L o e (.int k r) :=
  det_pure hw fun w => by
    have : ¬ j < 0 := by omega
    unfold execOp
    simp [hop, hx, hy, binOp, Op.shift, this, hr, eqGuard]

/-- copy into a slice that holds nothing. -/
theorem det_copy0 [CSlice P t n m] {A B : Option Addr} {c k c' : Nat} (hop : o.op = .call { callee := .builtin .copy, args := #[x, y], argTypes := #[t, t] }) (hw : wantedE N ops e o = true) (hx : ev N e x = .slice A 0 c) (hy : ev N e y = .slice B k c') : Det P ops N w0 L o e (.int .i64 0) :=
  det_pure hw fun w => by
    have ht := CSlice.h (P := P) (t := t) (el := n) (sz := m)
    unfold sliceSz at ht
    split at ht
    · rename_i el' hu
      obtain ⟨i, hinfo, heq⟩ := Option.map_eq_some_iff.1 ht
      injection heq with h1 h2
      subst h1 h2
      unfold execOp
      cases A <;> cases B <;> simp [hop, hx, hy, resolve, invoke, builtin, Builtin.copy_, run_underlying hu, Builtin.lenOf, Builtin.firstCells, sizeOf, typeInfo, hinfo, loadCells, loadCellsFrom, storeCells, goInt]
    · cases ht

/-! ### Results that lie in a variable -/
theorem gx_retc [CAgg P t n] {fn : Func} {φ : Value → World → Prop} {b r : Nat} {bt : TypeId} {cs : Array Value} (hres : fn.results = #[.cell r t]) (hv : ev N e (.tmp r) = .pointer (some ⟨b, 0, none⟩)) (hp : Pick L (Box b bt cs) L') (hn : cs.size = n) (h : ∀ w, St w0 L w → φ (.agg cs) w) :
    GX (Post P fn w0 φ) N w0 L .ret e :=
  gx_ret (fun w s => by
    have hl := run_loadVarN (P := P) (t := t) (cs := cs.toList) (a := ⟨b, 0, none⟩) (w := w) (by rw [Array.length_toList, hn]; exact CAgg.h) fun j u hu => by
      have hadd : (⟨b, 0, none⟩ : Addr).add j = ⟨b, j, none⟩ := by unfold Addr.add; split <;> simp_all
      rw [hadd, Box.cell (s.pick hp).head j]
      simpa using hu
    have hg : (mk N e).tmps.getD r undef = .pointer (some ⟨b, 0, none⟩) := by rw [mk_getD]; exact hv
    simp only [Array.getD_eq_getD_getElem?] at hg
    simp [results, hres, hg, asAddr, hl]) h

/-- A load of a struct that is a part of a variable. -/
theorem w_load_part [CAgg P t n] {b i : Nat} {bt : TypeId} {cs : Array Value} {l : List Value} (hop : o.op = .load t x) (hw : wantedE N ops e o = true) (hx : ev N e x = .pointer (some ⟨b, i, none⟩)) (hp : Pick L (Box b bt cs) L') (hc : (cs.toList.drop i).take n = l) (hn : l.length = n) :
    Det P ops N w0 L o e (.agg l.toArray) :=
  det_load hop hw hx fun w s => by
    have h := run_loadVarN (P := P) (t := t) (cs := l) (a := ⟨b, i, none⟩) (w := w) (by rw [hn]; exact CAgg.h) fun j u hu => by
      have hadd : (⟨b, i, none⟩ : Addr).add j = ⟨b, i + j, none⟩ := by unfold Addr.add; split <;> simp_all
      rw [hadd, Box.cell (s.pick hp).head (i + j)]
      subst hc
      rw [List.getElem?_take] at hu
      split at hu
      · rw [List.getElem?_drop] at hu
        simpa using hu
      · cases hu
    exact h

/-! ### Drawn regions that make memory -/
variable {X : Type} [Inhabited X] {pl : Nat → List Nat} {tail : ((Nat → X) → Env) → (Nat → (Nat → X) → List Res) → Prop} {i : Nat} {E : (Nat → X) → Env} {RL : Nat → (Nat → X) → List Res}

theorem gb_d {V : (Nat → X) → Value} (hd : ∀ γ, Det P ops N w0 ((pl i).flatMap (RL · γ) ++ L) ⟨some d, op, ty, pos, af, g⟩ (E γ) (V γ)) (h1 : ∀ γ x, V (setF γ i x) = V γ) (h2 : ∀ β, V (restr (i :: pl i) β) = V β)
    (k : GB P ops N w0 L pl tail (i + 1) rest (fun β => upd (E β) d (V β)) (fun j β => bif Nat.beq j i then [] else RL j β)) : GB P ops N w0 L pl tail i (⟨some d, op, ty, pos, af, g⟩ :: rest) E RL := by
  refine GB.cons V (fun _ => []) (fun γ => ?_) ?_
  · rcases hd γ with ⟨hw, hs⟩ | ⟨hw, hv⟩
    · refine .inl ⟨hw, fun w s => ?_⟩
      have := hs w s
      unfold Step at this ⊢
      split at this
      · exact ⟨this.1, default, by rw [h1]; exact this.2, trivial⟩
      · exact ⟨this.1, default, by rw [h1]; exact this.2, trivial⟩
      · exact ⟨this.1, this.2.mono fun v w' _ hv => ⟨default, by rw [h1]; exact hv, trivial⟩⟩
      · exact this.elim
    · exact .inr ⟨hw, hv, rfl⟩
  · have he : (fun β => updO (E β) (⟨some d, op, ty, pos, af, g⟩ : Oper).dst (V (restr (i :: pl i) β))) = fun β => upd (E β) d (V β) := by
      funext β; rw [h2]; rfl
    rw [he]
    exact k

/-- A call with a fresh result, in whatever order. -/
theorem gb_call {f : FuncId} [CCall P f] {as : Array Operand} {ts : Array TypeId} {l : (Nat → X) → List Value} (V : (Nat → X) → X → Value) (R : (Nat → X) → X → List Res) (hw : ∀ γ, wantedE N ops (E γ) ⟨some d, .call { callee := .value (.func f), args := as, argTypes := ts }, ty, pos, af, g⟩ = true)
    (hC : ∀ γ w, St w0 ((pl i).flatMap (RL · γ) ++ L) w → OkM P f (l γ).toArray w (V γ) (R γ)) (hl : ∀ γ, as.toList.map (ev N (E γ)) = l γ) (h1 : ∀ γ x, V (setF γ i x) = V γ ∧ R (setF γ i x) = R γ) (h2 : ∀ β, V (restr (i :: pl i) β) = V β ∧ R (restr (i :: pl i) β) = R β)
    (k : GB P ops N w0 L pl tail (i + 1) rest (fun β => upd (E β) d (V β (β i))) (fun j β => bif Nat.beq j i then R β (β i) else RL j β)) :
    GB P ops N w0 L pl tail i (⟨some d, .call { callee := .value (.func f), args := as, argTypes := ts }, ty, pos, af, g⟩ :: rest) E RL := by
  refine GB.cons (fun γ => V γ (γ i)) (fun γ => R γ (γ i)) (fun γ => .inl ⟨hw γ, fun w s => ?_⟩) ?_
  · have h := step_call (o := ⟨some d, .call { callee := .value (.func f), args := as, argTypes := ts }, ty, pos, af, g⟩) rfl (hl γ) (hC γ w s)
    have hs : ∀ x, setF γ i x i = x := fun x => by rw [setF_apply, if_pos rfl]
    unfold Step at h ⊢
    split at h
    · obtain ⟨h3, x, h4, h5⟩ := h
      exact ⟨h3, x, by show _ = V _ (setF γ i x i); rw [(h1 γ x).1, hs]; exact h4, by show Made w (R _ (setF γ i x i)) _; rw [(h1 γ x).2, hs]; exact h5⟩
    · obtain ⟨h3, x, h4, h5⟩ := h
      exact ⟨h3, x, by show _ = V _ (setF γ i x i); rw [(h1 γ x).1, hs]; exact h4, by show Made w (R _ (setF γ i x i)) _; rw [(h1 γ x).2, hs]; exact h5⟩
    · exact ⟨h.1, h.2.mono fun v w' _ ⟨x, h4, h5⟩ => ⟨x, by show _ = V _ (setF γ i x i); rw [(h1 γ x).1, hs]; exact h4, by show Made w (R _ (setF γ i x i)) _; rw [(h1 γ x).2, hs]; exact h5⟩⟩
    · exact h.elim
  · have hr : ∀ β : Nat → X, restr (i :: pl i) β i = β i := fun β => by unfold restr; simp
    have he : (fun β => updO (E β) (⟨some d, .call { callee := .value (.func f), args := as, argTypes := ts }, ty, pos, af, g⟩ : Oper).dst (V (restr (i :: pl i) β) (restr (i :: pl i) β i))) = fun β => upd (E β) d (V β (β i)) := by
      funext β; rw [(h2 β).1, hr]; rfl
    have hRR : (fun j β => bif Nat.beq j i then R (restr (i :: pl i) β) (restr (i :: pl i) β i) else RL j β) = fun j β => bif Nat.beq j i then R β (β i) else RL j β := by
      funext j β; rw [(h2 β).2, hr]
    rw [he, hRR]
    exact k
end
end Go.Proofs.YtljibjlkjelpbaaGreatDoor

/- Rows of the function's own, read as lists; pieces of memory that are handed on. No program in sight. -/
namespace Go.Proofs.YtljibjlkjelpbaaGreatDoor
open Go.RowKit

theorem flat_get {α : Type} {enc : α → List Value} {sz : Nat} : ∀ (l : List α) (_ : ∀ x ∈ l, (enc x).length = sz) (k : Nat) (hk : k < l.length) (j : Nat), j < sz → (l.flatMap enc)[k * sz + j]? = (enc l[k])[j]?
  | x :: l, hl, 0, _, j, hj => by
    have hx := hl x List.mem_cons_self
    rw [List.flatMap_cons, Nat.zero_mul, Nat.zero_add, List.getElem?_append_left (by omega)]
    rfl
  | x :: l, hl, k + 1, hk, j, hj => by
    have hx := hl x List.mem_cons_self
    rw [List.flatMap_cons, List.getElem?_append_right (by rw [hx, Nat.succ_mul]; omega), hx, show (k + 1) * sz + j - sz = k * sz + j by rw [Nat.succ_mul]; omega]
    exact flat_get l (fun y hy => hl y (List.mem_cons_of_mem _ hy)) k (by simpa using hk) j hj

/-- A row of the function's own reads as a list. -/
theorem Sl.own {α : Type} {R : Rp α} {enc : α → List Value} {w0 w : World} {L L' : List Res} {A : Option Addr} {n c : Nat} {el : TypeId} {l : List α} (s : St w0 L w) (hp : Pick L (Own A n c el R.size (l.flatMap enc)) L') (hn : n = l.length)
    (henc : ∀ x ∈ l, R.rep w (fun b => b < w.heap.size) x (enc x)) : Sl R w w.heap.size (.slice A n c) l := by
  have hs := s.pick hp
  have hown : w.ownsRow 0 el R.size (.slice A n c) n (l.flatMap enc) := hs.head
  subst hn
  rcases hown.2 with ⟨hv, h0⟩ | ⟨g, cap, cur, hv, _, hg, h1, h2, _⟩
  · injection hv with e1 e2 e3
    subst e1 e3
    exact ⟨none, 0, rfl, by omega, Nat.zero_le _, fun k hk => by omega⟩
  · injection hv with e1 e2 e3
    subst e1 e3
    have hb : g < w.heap.size := (Array.getElem?_eq_some_iff.1 hg).1
    refine ⟨_, _, rfl, h1, h2, fun k hk => ⟨⟨g, 0, none⟩, enc l[k], rfl, hb, fun j u hu => ?_, henc _ (List.getElem_mem hk)⟩⟩
    refine hown.cells rfl _ u ?_
    have hj : j < (enc l[k]).length := (List.getElem?_eq_some_iff.1 hu).1
    rw [R.len (henc _ (List.getElem_mem hk))] at hj
    rw [flat_get l (fun x hx => R.len (henc x hx)) k hk j hj]
    exact hu
theorem own_len {A : Option Addr} {n c : Nat} {el : TypeId} {sz : Nat} {xs : List Value} {w0 w : World} {L L' : List Res} (s : St w0 L w) (hp : Pick L (Own A n c el sz xs) L') : n ≤ c ∧ c ≤ maxLen := by
  have hown : w.ownsRow 0 el sz (.slice A n c) n xs := (s.pick hp).head
  rcases hown.2 with ⟨hv, h0⟩ | ⟨g, cap, cur, hv, _, hg, h1, h2, _⟩
  · injection hv with e1 e2 e3
    subst e3
    exact ⟨by omega, Nat.zero_le _⟩
  · injection hv with e1 e2 e3
    subst e3
    exact ⟨h1, h2⟩
end Go.Proofs.YtljibjlkjelpbaaGreatDoor

/- Maps that shrink and are ranged over, what is held put in another form, new variables in drawn regions. No program in sight. -/
namespace Go.Proofs.YtljibjlkjelpbaaGreatDoor
open Go.RowKit

/-! ### What is held, put in another form -/
def Ent (L K : List Res) : Prop := ∀ (w0 w : World), St w0 L w → St w0 K w
theorem Sub.ent {L K : List Res} (h : Sub L K) : Ent L K := fun _ _ s => s.sub h
theorem Ent.refl (L : List Res) : Ent L L := fun _ _ s => s
theorem Ent.trans {L K M : List Res} (h : Ent L K) (k : Ent K M) : Ent L M := fun w0 w s => k w0 w (h w0 w s)
theorem Sub.weak {r : Res} {L K : List Res} (h : Sub L K) : Sub (r :: L) K := by
  induction h with
  | nil => exact .nil
  | cons p _ ih => exact .cons (.there p) ih
theorem Sub.tail {r : Res} {L : List Res} : Sub (r :: L) L := Sub.weak (Sub.all L)
theorem Ent.cons {r : Res} {L K : List Res} (h : Ent L K) (hs : ∀ q ∈ K, ∀ b, q.fp b → ∃ p ∈ L, p.fp b) : Ent (r :: L) (r :: K) := fun w0 w s => by
  have hk := h w0 w s.drop
  exact ⟨s.below, s.sep.1, s.sep.2.1, fun b hb q hq hqb => by
    obtain ⟨p, hp, hpb⟩ := hs q hq b hqb
    exact s.sep.2.2.1 b hb p hp hpb, hk.sep⟩

section
variable {P : Program} {ops : Array Oper} {Q : Exit → Act → World → Prop} {N : Nat} {w0 : World} {L L' K : List Res} {rest : List Oper} {e : Env} {o : Oper} {t : TypeId} {x y ix : Operand} {a : Addr} {v z : Value} {n m : Nat}
variable {d : Nat} {op : Op} {ty : TypeId} {pos : String} {af : Array Edge} {g : Option (Nat × Bool)}

theorem gw_ent (h : Ent L K) (k : GW P ops Q N w0 K rest e) : GW P ops Q N w0 L rest e := ⟨fun w s => k.h w (h w0 w s)⟩
theorem gc_ent {c : Code} (h : Ent L K) (k : GC P Q N w0 K c e) : GC P Q N w0 L c e := ⟨fun w s => k.h w (h w0 w s)⟩
theorem gx_ent {c : Exit} (h : Ent L K) (k : GX Q N w0 K c e) : GX Q N w0 L c e := ⟨fun w s => k.h w (h w0 w s)⟩
theorem gx_roundE {σ : Type} {wr : List Nat} {e0 : Env} {S : σ → List (Nat × Value)} {K : σ → List Res} {I : σ → Prop} {μ : σ → Nat} {m : Nat} (s : σ) (hI : I s) (hm : μ s < m) (hk : Keeps wr e0 e) (hA : Ats (S s) e)
    (hE : Ent L (K s)) : GX (Exit.then (Rnd N w0 wr e0 S K I μ m) Q) N w0 L .normal e := gx_ent hE (gx_round s hI hm hk hA (Sub.all _))

theorem det_func {f : Fn} {first cap : Array Operand} {fs cs : List Value} (hop : o.op = .makeFunc f first cap) (hw : wantedE N ops e o = true) (h1 : first.toList.map (ev N e) = fs) (h2 : cap.toList.map (ev N e) = cs) : Det P ops N w0 L o e (.func f fs.toArray cs.toArray) :=
  det_pure hw fun w => by
    have e1 : first.map (ev N e) = fs.toArray := by rw [← h1]; apply Array.ext'; simp
    have e2 : cap.map (ev N e) = cs.toArray := by rw [← h2]; apply Array.ext'; simp
    unfold execOp
    simp [hop, Instr.makeFunc, e1, e2]

/-- A store into a row of the function's own, at an index that is not known. -/
theorem w_store_row [CSize P t n] {b i : Nat} {bt : TypeId} {cs : Array Value} (hw : wantedE N ops e ⟨none, .store t x y, ty, pos, af, g⟩ = true) (hx : ev N e x = .pointer (some ((⟨b, 0, none⟩ : Addr).add i))) (hy : ev N e y = v) (hn : v.cells.size = n)
    (h1 : v.cells.toList.all (·.oneCell') = true) (hp : Pick L (Box b bt cs) L') (hfit : i + n ≤ cs.size) {cs' : Array Value} (hcs : (cs.toList.take i ++ v.cells.toList ++ cs.toList.drop (i + n)).toArray = cs')
    (k : GW P ops Q N w0 (Box b bt cs' :: L') rest e) : GW P ops Q N w0 L (⟨none, .store t x y, ty, pos, af, g⟩ :: rest) e :=
  gw_stored hw (by rw [hx, add_zero]) hy CSize.h hn h1 hp hfit hcs k
theorem St.merge {w0 w : World} {L : List Res} {r q m : Res} (s : St w0 (r :: q :: L) w) (hf : ∀ b, m.fp b → r.fp b ∨ q.fp b) (hp : m.p w) : St w0 (m :: L) w := by
  obtain ⟨hB, h1, h2, h3, h4, h5, h6, h7⟩ := s
  refine ⟨hB, hp, fun b hb => ?_, fun b hb x hx => ?_, h7⟩
  · rcases hf b hb with h | h
    · exact h2 b h
    · exact h5 b h
  · rcases hf b hb with h | h
    · exact h3 b h x (List.mem_cons_of_mem _ hx)
    · exact h6 b h x hx

/-! ### New variables and literals in drawn regions -/
variable {X : Type} [Inhabited X] {pl : Nat → List Nat} {tail : ((Nat → X) → Env) → (Nat → (Nat → X) → List Res) → Prop} {i : Nat} {E : (Nat → X) → Env} {RL : Nat → (Nat → X) → List Res}

theorem gb_make {V : (Nat → X) → X → Value} {R : (Nat → X) → X → List Res} (hd : ∀ γ, wantedE N ops (E γ) ⟨some d, op, ty, pos, af, g⟩ = true ∧ ∀ w, St w0 ((pl i).flatMap (RL · γ) ++ L) w → Step P (ev N (E γ)) ⟨some d, op, ty, pos, af, g⟩ w fun v w' => ∃ x, v = V γ x ∧ Made w (R γ x) w')
    (h1 : ∀ γ x, V (setF γ i x) = V γ ∧ R (setF γ i x) = R γ) (h2 : ∀ β, V (restr (i :: pl i) β) = V β ∧ R (restr (i :: pl i) β) = R β)
    (k : GB P ops N w0 L pl tail (i + 1) rest (fun β => upd (E β) d (V β (β i))) (fun j β => bif Nat.beq j i then R β (β i) else RL j β)) :
    GB P ops N w0 L pl tail i (⟨some d, op, ty, pos, af, g⟩ :: rest) E RL := by
  refine GB.cons (fun γ => V γ (γ i)) (fun γ => R γ (γ i)) (fun γ => .inl ⟨(hd γ).1, fun w s => ?_⟩) ?_
  · have h := (hd γ).2 w s
    have hs : ∀ x, setF γ i x i = x := fun x => by rw [setF_apply, if_pos rfl]
    unfold Step at h ⊢
    split at h
    · obtain ⟨h3, x, h4, h5⟩ := h
      exact ⟨h3, x, by show _ = V _ (setF γ i x i); rw [(h1 γ x).1, hs]; exact h4, by show Made w (R _ (setF γ i x i)) _; rw [(h1 γ x).2, hs]; exact h5⟩
    · obtain ⟨h3, x, h4, h5⟩ := h
      exact ⟨h3, x, by show _ = V _ (setF γ i x i); rw [(h1 γ x).1, hs]; exact h4, by show Made w (R _ (setF γ i x i)) _; rw [(h1 γ x).2, hs]; exact h5⟩
    · exact ⟨h.1, h.2.mono fun v w' _ ⟨x, h4, h5⟩ => ⟨x, by show _ = V _ (setF γ i x i); rw [(h1 γ x).1, hs]; exact h4, by show Made w (R _ (setF γ i x i)) _; rw [(h1 γ x).2, hs]; exact h5⟩⟩
    · exact h.elim
  · have hr : ∀ β : Nat → X, restr (i :: pl i) β i = β i := fun β => by unfold restr; simp
    have he : (fun β => updO (E β) (⟨some d, op, ty, pos, af, g⟩ : Oper).dst (V (restr (i :: pl i) β) (restr (i :: pl i) β i))) = fun β => upd (E β) d (V β (β i)) := by
      funext β; rw [(h2 β).1, hr]; rfl
    have hRR : (fun j β => bif Nat.beq j i then R (restr (i :: pl i) β) (restr (i :: pl i) β i) else RL j β) = fun j β => bif Nat.beq j i then R β (β i) else RL j β := by
      funext j β; rw [(h2 β).2, hr]
    rw [he, hRR]
    exact k

theorem made_box (w : World) (t : TypeId) (cs : Array Value) : Made w [Box w.heap.size t cs] (w.alloc (.cells cs t)) :=
  (St.box (St.init w) t cs).sep

theorem gb_alloc [CZero P t v] (inj : Nat → X) (bk : X → Nat) (hbk : ∀ b, bk (inj b) = b) (hw : ∀ γ, wantedE N ops (E γ) ⟨some d, .alloc t, ty, pos, af, g⟩ = true)
    (k : GB P ops N w0 L pl tail (i + 1) rest (fun β => upd (E β) d (.pointer (some ⟨bk (β i), 0, none⟩))) (fun j β => bif Nat.beq j i then [Box (bk (β i)) t v.cells] else RL j β)) :
    GB P ops N w0 L pl tail i (⟨some d, .alloc t, ty, pos, af, g⟩ :: rest) E RL := by
  refine gb_make (V := fun _ x => .pointer (some ⟨bk x, 0, none⟩)) (R := fun _ x => [Box (bk x) t v.cells]) (fun γ => ⟨hw γ, fun w s => ?_⟩) (fun _ _ => ⟨rfl, rfl⟩) (fun _ => ⟨rfl, rfl⟩) k
  obtain ⟨i, hi, hzi⟩ := Option.bind_eq_some_iff.1 (CZero.h (P := P) (t := t) (z := v))
  have hr : (execOp (ev N (E γ)) ⟨some d, .alloc t, ty, pos, af, g⟩).run P w = .ok (.value (.pointer (some ⟨w.heap.size, 0, none⟩))) (w.alloc (.cells v.cells t)) := by
    unfold execOp
    simp [Instr.alloc, zeroValue, typeInfo, hi, hzi, newVar, newRow, newObj, Sem.run]
  unfold Step
  rw [hr]
  exact ⟨ext_alloc w _, inj w.heap.size, by rw [hbk], by rw [hbk]; exact made_box w t v.cells⟩

theorem gb_bslice1 {el sz : Nat} [CSlice P t el sz] [CZero P el z] {q : Operand} (u : (Nat → X) → Value) (inj : Nat → X) (bk : X → Nat) (hbk : ∀ b, bk (inj b) = b) (hw : ∀ γ, wantedE N ops (E γ) ⟨some d, .buildSlice t 1 #[(0, q)], ty, pos, af, g⟩ = true) (hq : ∀ γ, ev N (E γ) q = u γ)
    (hv : ∀ γ, (u γ).cells.size = sz) (hsz : Nat.ble sz 1000 = true) (hpos : Nat.blt 0 sz = true) (h1 : ∀ γ x, u (setF γ i x) = u γ) (h2 : ∀ β, u (restr (i :: pl i) β) = u β)
    (k : GB P ops N w0 L pl tail (i + 1) rest (fun β => upd (E β) d (.slice (some ⟨bk (β i), 0, none⟩) 1 1)) (fun j β => bif Nat.beq j i then [Box (bk (β i)) el (u β).cells] else RL j β)) :
    GB P ops N w0 L pl tail i (⟨some d, .buildSlice t 1 #[(0, q)], ty, pos, af, g⟩ :: rest) E RL := by
  refine gb_make (V := fun _ x => .slice (some ⟨bk x, 0, none⟩) 1 1) (R := fun γ x => [Box (bk x) el (u γ).cells]) (fun γ => ⟨hw γ, fun w s => ?_⟩) (fun γ x => ⟨rfl, by funext y; rw [h1]⟩) (fun β => ⟨rfl, by funext y; rw [h2]⟩) k
  have ht := CSlice.h (P := P) (t := t) (el := el) (sz := sz)
  have hz := CZero.h (P := P) (t := el) (z := z)
  unfold sliceSz at ht
  split at ht
  · rename_i el' hu
    obtain ⟨i, hinfo, heq⟩ := Option.map_eq_some_iff.1 ht
    injection heq with e1 e2
    subst e1 e2
    obtain ⟨i', hi', hzi⟩ := Option.bind_eq_some_iff.1 hz
    rw [hinfo] at hi'
    injection hi' with hi'
    subst hi'
    have hle := Nat.le_of_ble_eq_true hsz
    have hp : 0 < i.size := by rw [Nat.blt_eq] at hpos; exact hpos
    have hr := run_buildSlice (P := P) w t el' 1 #[(0, u γ)] (u γ).cells i z hu hinfo hzi (by omega) (by omega) (fill_one (by simp) (hv γ))
    have hr2 : (execOp (ev N (E γ)) ⟨some d, .buildSlice t 1 #[(0, q)], ty, pos, af, g⟩).run P w = .ok (.value (.slice (some ⟨w.heap.size, 0, none⟩) 1 1)) (w.alloc (.cells (u γ).cells el')) := by
      unfold execOp
      simp [hq, hr]
    unfold Step
    rw [hr2]
    exact ⟨ext_alloc w _, inj w.heap.size, by rw [hbk], by rw [hbk]; exact made_box w el' (u γ).cells⟩
  · cases ht
end

/-! ### Maps -/
section
variable {κ : Type} [DecidableEq κ]
def adel : List (κ × Value) → κ → List (κ × Value)
  | [], _ => []
  | p :: l, k => if p.1 = k then l else p :: adel l k
theorem adel_find (l : List (κ × Value)) (k : κ) : adel l k = match l.findIdx? (fun p => decide (k = p.1)) with
    | some j => l.eraseIdx j
    | none => l := by
  induction l with
  | nil => rfl
  | cons p l ih =>
    rw [List.findIdx?_cons]
    by_cases h : p.1 = k
    · subst h; simp [adel]
    · have h' : ¬ k = p.1 := fun hk => h hk.symm
      simp only [adel, h, if_false, ih, h', decide_false, Bool.false_eq_true]
      cases l.findIdx? (fun p => decide (k = p.1)) with
      | none => rfl
      | some j => simp
theorem adel_sub (l : List (κ × Value)) (k : κ) : (adel l k).Sublist l := by
  induction l with
  | nil => exact .slnil
  | cons p l ih =>
    unfold adel
    split
    · exact List.sublist_cons_self _ _
    · exact ih.cons_cons _
end

section
variable {κ : Type} [DecidableEq κ] {P : Program} {ops : Array Oper} {Q : Exit → Act → World → Prop} {N : Nat} {w0 : World} {L L' : List Res} {rest : List Oper} {e : Env} {o : Oper} {t : TypeId} {x y ix : Operand} {a : Addr} {v z : Value} {kt vt : Nat} {kv : κ → Value} {l : List (κ × Value)} {k : κ} {b : Nat}
variable {d : Nat} {op : Op} {ty : TypeId} {pos : String} {af : Array Edge} {g : Option (Nat × Bool)}

omit [DecidableEq κ] in
theorem w_maplen [CMap P t kt vt] (hop : o.op = .call { callee := .builtin .len, args := #[x], argTypes := #[t] }) (hw : wantedE N ops e o = true) (hx : ev N e x = .map (some b)) (hp : Pick L (MapR b kv l) L') : Det P ops N w0 L o e (.int .i64 l.length) :=
  det_run hw fun w s => by
    obtain ⟨es, clock, h1, h2, _⟩ := (s.pick hp).head
    have ht := CMap.h (P := P) (t := t) (k := kt) (v := vt)
    unfold mapKV at ht
    split at ht
    · rename_i k' v' hu
      have hget : (getObj b).run P w = .ok (.map es clock) w := by
        unfold getObj
        simp [Sem.run, h1]
      have hlen : es.size = l.length := by have := congrArg List.length h2; simpa using this
      unfold execOp
      simp [hop, resolve, invoke, builtin, hx, Builtin.len_, run_underlying hu, goInt, hget, hlen]
    · cases ht

theorem gw_mapDel (Kl : KeyLaw P kt kv) [CMap P t kt vt] {t2 : TypeId} (hw : wantedE N ops e ⟨none, .call { callee := .builtin .delete, args := #[x, ix], argTypes := #[t, t2] }, ty, pos, af, g⟩ = true) (hx : ev N e x = .map (some b)) (hi : ev N e ix = kv k)
    (hp : Pick L (MapR b kv l) L') (kk : GW P ops Q N w0 (MapR b kv (adel l k) :: L') rest e) : GW P ops Q N w0 L (⟨none, .call { callee := .builtin .delete, args := #[x, ix], argTypes := #[t, t2] }, ty, pos, af, g⟩ :: rest) e := ⟨fun w s => by
  have s1 := s.pick hp
  obtain ⟨es, clock, h1, h2, h3, h4⟩ := s1.head
  have ht := CMap.h (P := P) (t := t) (k := kt) (v := vt)
  unfold mapKV at ht
  split at ht
  · rename_i k' v' hu
    injection ht with ht
    injection ht with e1 e2
    subst e1 e2
    have hlt : b < w.heap.size := (Array.getElem?_eq_some_iff.1 h1).1
    have hget : (getObj b).run P w = .ok (.map es clock) w := by
      unfold getObj
      simp [Sem.run, h1]
    have hset : ∀ ob, (setObj b ob).run P w = .ok () { w with heap := w.heap.setIfInBounds b ob } := fun ob => by
      unfold setObj
      simp [Sem.run, h1]
    have turn : ∀ es', ents kv (adel l k) es' → es'.toList.Sublist es.toList → St w0 (MapR b kv (adel l k) :: L') { w with heap := w.heap.setIfInBounds b (.map es' clock) } := fun es' q1 q2 =>
      s1.turn (by simp) rfl rfl rfl (fun c _ hc => by
        have : b ≠ c := fun h => hc h.symm
        simp [this]) ⟨es', clock, by simp [hlt], q1, fun q hq => h3 q (q2.subset hq), h4.sublist q2⟩ fun c hc => .inl hc
    cases hf : l.findIdx? (fun p => decide (k = p.1)) with
    | none =>
      refine wl_run (v := .tuple #[]) (w' := { w with heap := w.heap.setIfInBounds b (.map es clock) }) hw ?_ (kk.h _ (turn _ ?_ (List.Sublist.refl _)))
      · unfold execOp
        simp [resolve, invoke, builtin, Builtin.delete_, hx, hi, run_underlying hu, hget, Kl.check, run_findKey Kl k (l := l) (es := es.toList) h2, hf, hset]
      · rw [adel_find, hf]
        exact h2
    | some j =>
      obtain ⟨hj, hkj⟩ := find_lt hf
      refine wl_run (v := .tuple #[]) (w' := { w with heap := w.heap.setIfInBounds b (.map (es.eraseIdxIfInBounds j) clock) }) hw ?_ (kk.h _ (turn _ ?_ ?_))
      · unfold execOp
        simp [resolve, invoke, builtin, Builtin.delete_, hx, hi, run_underlying hu, hget, Kl.check, run_findKey Kl k (l := l) (es := es.toList) h2, hf, hset]
      · rw [adel_find, hf]
        unfold ents at *
        rw [Array.toList_eraseIdxIfInBounds, ChangeMaps.map_eraseIdx, h2, ChangeMaps.map_eraseIdx]
      · rw [Array.toList_eraseIdxIfInBounds]
        exact List.eraseIdx_sublist _ _
  · cases ht⟩

/-! ### Ranging over a map of the function's own -/
def rd (e : MapEntry) : Value × Value := (e.key, e.val)
def ItR (b r : Nat) (kv : κ → Value) (l todo : List (κ × Value)) (cur : Option (κ × Value)) : Res :=
  ⟨fun x => x = b ∨ x = r, fun w => ∃ es clock since seen c0, w.heap[b]? = some (.map es clock) ∧ ents kv l es ∧ (∀ x ∈ es.toList, x.born < clock) ∧ es.toList.Pairwise (fun x y => x.born < y.born) ∧
    w.heap[r]? = some (.mapIter (some b) since seen c0) ∧ (∀ x ∈ es.toList, x.born < since) ∧ (since ≤ c0 ∧ since ≤ clock) ∧ (leftOf es seen).toList.map rd = todo.map (fun p => (kv p.1, p.2)) ∧
    (∀ p, cur = some p → ∃ q ∈ es.toList, rd q = (kv p.1, p.2) ∧ ∃ seen0 : Array Nat, seen = seen0.push q.born ∧ c0 = clock),
    fun _ _ h ⟨es, clock, since, seen, c0, h1, h2, h3, h4, h5, h6⟩ => ⟨es, clock, since, seen, c0, (h b (.inl rfl)).trans h1, h2, h3, h4, (h r (.inr rfl)).trans h5, h6⟩⟩

omit [DecidableEq κ] in
theorem ItR.done {b r : Nat} {l todo : List (κ × Value)} {cur : Option (κ × Value)} {L : List Res} : Ent (ItR b r kv l todo cur :: L) (MapR b kv l :: L) := fun w0 w s => by
  obtain ⟨es, clock, since, seen, c0, h1, h2, h3, h4, _⟩ := s.head
  exact s.turn (Nat.le_refl _) rfl rfl rfl (fun _ _ _ => rfl) ⟨es, clock, h1, h2, h3, h4⟩ fun c hc => .inl (.inl hc)

omit [DecidableEq κ] in
theorem gw_range [CMap P t kt vt] (hw : wantedE N ops e ⟨some d, .range t x, ty, pos, af, g⟩ = true) (hx : ev N e x = .map (some b)) (hp : Pick L (MapR b kv l) L')
    (kk : ∀ r, GW P ops Q N w0 (ItR b r kv l l none :: L') rest (upd e d (.pointer (some ⟨r, 0, none⟩)))) : GW P ops Q N w0 L (⟨some d, .range t x, ty, pos, af, g⟩ :: rest) e := ⟨fun w s => by
  have s1 := s.pick hp
  obtain ⟨es, clock, h1, h2, h3, h4⟩ := s1.head
  have ht := CMap.h (P := P) (t := t) (k := kt) (v := vt)
  unfold mapKV at ht
  split at ht
  · rename_i k' v' hu
    have hlt : b < w.heap.size := (Array.getElem?_eq_some_iff.1 h1).1
    have hget : (getObj b).run P w = .ok (.map es clock) w := by
      unfold getObj
      simp [Sem.run, h1]
    refine wl_run (w' := w.alloc (.mapIter (some b) clock #[] clock)) hw ?_ ((kk w.heap.size).h _ (s1.turn ?_ rfl rfl rfl (fun c hc _ => ?_) ?_ ?_))
    · unfold execOp
      simp [Instr.range, hx, run_underlying hu, hget, newObj, Sem.run]
    · simp
    · exact (ext_alloc w _).block c hc
    · refine ⟨es, clock, clock, #[], clock, ((ext_alloc w _).block b hlt).trans h1, h2, h3, h4, heap_alloc_new w _, h3, ⟨Nat.le_refl _, Nat.le_refl _⟩, ?_, fun p hp => by cases hp⟩
      have : leftOf es #[] = es := by
        unfold leftOf
        apply Array.filter_eq_self.2
        intro x _
        simp
      rw [this]
      exact h2
    · intro c hc
      rcases hc with rfl | rfl
      · exact .inl rfl
      · exact .inr ⟨Nat.le_refl _, by simp⟩
  · cases ht⟩

theorem filter_born : ∀ (l : List MapEntry) (j : Nat) (hj : j < l.length), l.Pairwise (fun x y => x.born < y.born) → l.filter (fun x => !(x.born == l[j].born)) = l.eraseIdx j
  | x :: l, 0, _, h => by
    have h' := List.pairwise_cons.1 h
    simp only [List.getElem_cons_zero, List.eraseIdx_cons_zero]
    rw [List.filter_cons]
    simp only [beq_self_eq_true, Bool.not_true, Bool.false_eq_true, if_false]
    apply List.filter_eq_self.2
    intro y hy
    have := h'.1 y hy
    simp
    omega
  | x :: l, j + 1, hj, h => by
    have h' := List.pairwise_cons.1 h
    have hj' : j < l.length := by simpa using hj
    have hlt := h'.1 l[j] (List.getElem_mem hj')
    simp only [List.getElem_cons_succ, List.eraseIdx_cons_succ]
    rw [List.filter_cons]
    have : (!(x.born == l[j].born)) = true := by simp; omega
    rw [if_pos this, filter_born l j hj' h'.2]

omit [DecidableEq κ] in
theorem gw_next {r : Nat} {todo : List (κ × Value)} {cur : Option (κ × Value)} (hw : wantedE N ops e ⟨some d, .next x false, ty, pos, af, g⟩ = true) (hx : ev N e x = .pointer (some ⟨r, 0, none⟩)) (hp : Pick L (ItR b r kv l todo cur) L')
    (kend : todo = [] → GW P ops Q N w0 (ItR b r kv l [] cur :: L') rest (upd e d (.tuple #[.bool false])))
    (kmore : ∀ j (hj : j < todo.length), GW P ops Q N w0 (ItR b r kv l (todo.eraseIdx j) (some todo[j]) :: L') rest (upd e d (.tuple #[.bool true, kv todo[j].1, todo[j].2]))) :
    GW P ops Q N w0 L (⟨some d, .next x false, ty, pos, af, g⟩ :: rest) e := ⟨fun w s => by
  have s1 := s.pick hp
  have hhead := s1.head
  obtain ⟨es, clock, since, seen, c0, h1, h2, h3, h4, h5, h6, h7, h8, h9⟩ := hhead
  rcases run_next_at (P := P) w ty r b since c0 seen es clock h5 h1 h6 h7.1 with ⟨h0, hr⟩ | ⟨q, hq, w1, hw1, hr⟩
  · have h10 : todo = [] := by
      have := congrArg List.length h8
      simp only [List.length_map, Array.length_toList, h0] at this
      exact List.eq_nil_of_length_eq_zero this.symm
    subst h10
    refine wl_run (v := .tuple #[.bool false]) (w' := w) hw ?_ ((kend rfl).h w s1)
    unfold execOp
    simp [hx, hr]
  · obtain ⟨j, hj, hjq⟩ := List.getElem_of_mem hq
    have hlen : (leftOf es seen).toList.length = todo.length := by have := congrArg List.length h8; simpa using this
    have hj' : j < todo.length := by omega
    have hrd : rd q = (kv todo[j].1, todo[j].2) := by
      have h10 : ((leftOf es seen).toList.map rd)[j]? = (todo.map fun p => (kv p.1, p.2))[j]? := by rw [h8]
      rw [List.getElem?_map, List.getElem?_map, List.getElem?_eq_getElem hj, List.getElem?_eq_getElem hj', hjq] at h10
      simpa using h10
    have hk : q.key = kv todo[j].1 ∧ q.val = todo[j].2 := by
      unfold rd at hrd
      exact ⟨congrArg Prod.fst hrd, congrArg Prod.snd hrd⟩
    have hqes : q ∈ es.toList := by
      unfold leftOf at hq
      simp at hq
      simpa using hq.1
    have hlt : r < w.heap.size := (Array.getElem?_eq_some_iff.1 h5).1
    have hblt : b < w.heap.size := (Array.getElem?_eq_some_iff.1 h1).1
    have hne : r ≠ b := fun h => by subst h; rw [h1] at h5; cases h5
    have hh : w1.heap = w.heap := by rcases hw1 with rfl | rfl <;> rfl
    refine wl_run (v := .tuple #[.bool true, kv todo[j].1, todo[j].2]) (w' := ChangeMaps.setBlock w1 r (.mapIter (some b) since (seen.push q.born) clock)) hw ?_ ((kmore j hj').h _ (s1.turn ?_ ?_ ?_ ?_ (fun c _ hc => ?_) ?_ (fun c hc => .inl hc)))
    · unfold execOp
      simp [hx, hr, hk.1, hk.2]
    · simp [ChangeMaps.setBlock, hh]
    · rcases hw1 with rfl | rfl <;> rfl
    · rcases hw1 with rfl | rfl <;> rfl
    · rcases hw1 with rfl | rfl <;> rfl
    · have : r ≠ c := fun h => hc (.inr h.symm)
      simp [ChangeMaps.setBlock, hh, this]
    · refine ⟨es, clock, since, seen.push q.born, clock, ?_, h2, h3, h4, ?_, h6, ?_, ?_, ?_⟩
      · simp [ChangeMaps.setBlock, hh, hne, h1]
      · simp [ChangeMaps.setBlock, hh, hlt]
      · exact ⟨h7.2, h7.2⟩
      · have hleft : (leftOf es (seen.push q.born)).toList = (leftOf es seen).toList.filter (fun x => !(x.born == q.born)) := by
          unfold leftOf
          rw [Array.toList_filter, Array.toList_filter, List.filter_filter]
          apply List.filter_congr
          intro y _
          simp only [Array.contains_push, Bool.not_or]
          rw [Bool.and_comm]
        have hpw : (leftOf es seen).toList.Pairwise (fun x y => x.born < y.born) := by
          unfold leftOf
          rw [Array.toList_filter]
          exact h4.filter _
        rw [hleft, ← hjq, filter_born _ j hj hpw, ChangeMaps.map_eraseIdx, h8, ChangeMaps.map_eraseIdx]
      · intro p hp
        injection hp with hp
        subst hp
        exact ⟨q, hqes, hrd, seen, rfl, rfl⟩⟩

omit [DecidableEq κ] in
theorem w_entry {r : Nat} {todo : List (κ × Value)} {p : κ × Value} (hop : o.op = .entry x) (hw : wantedE N ops e o = true) (hx : ev N e x = .pointer (some ⟨r, 0, none⟩)) (hp : Pick L (ItR b r kv l todo (some p)) L') : Det P ops N w0 L o e (.tuple #[kv p.1, p.2]) :=
  det_run hw fun w s => by
    obtain ⟨es, clock, since, seen, c0, h1, h2, h3, h4, h5, h6, h7, h8, h9⟩ := (s.pick hp).head
    obtain ⟨q, hq, hrd, seen0, rfl, rfl⟩ := h9 p rfl
    have hn : (es.toList.map (·.born)).Nodup := by
      rw [List.Nodup, List.pairwise_map]
      exact h4.imp fun h => by omega
    have hr := run_entry_at (P := P) w r b since seen0 es _ q h5 h1 hq hn
    unfold execOp
    unfold rd at hrd
    simp [hop, hx, hr]
    exact ⟨congrArg Prod.fst hrd, congrArg Prod.snd hrd⟩
end
end Go.Proofs.YtljibjlkjelpbaaGreatDoor

/- Regions that draw, where an operation may read what a later one writes. No program in sight. -/
namespace Go.Proofs.YtljibjlkjelpbaaGreatDoor
open Go.RowKit

section
variable {P : Program} {ops : Array Oper} {Q : Exit → Act → World → Prop} {N : Nat} {w0 : World} {L : List Res} {rest : List Oper} {e : Env} {o : Oper}
def opOkB (ops : Array Oper) (k i : Nat) (o : Oper) : Bool :=
  (o.after.all fun x => !Region.binds .any x || Nat.blt x.on i) && (match o.op with | .select .. => false | _ => true) &&
  (bif Nat.blt i k then
     (List.range k).all fun j => match (ops[j]?).bind (·.dst) with
       | none => true
       | some d => (Nat.beq j i || o.dst != some d) && (!(o.looksAt ops).contains d || (Nat.blt j i && bindsOn o j) || (Nat.blt i j && (match ops[j]? with | some oj => bindsOn oj i | none => false)))
   else (List.range k).all (bindsOn o ·) && (Nat.beq i k || bindsOn o (i - 1)))

def drawOkB (ops : Array Oper) (k : Nat) : Bool :=
  Nat.ble k ops.size && (List.range ops.size).all fun i => match ops[i]? with
    | none => true
    | some o => opOkB ops k i o


theorem opOk_of2 {k : Nat} (h : drawOkB ops k = true) {i : Nat} (hi : ops[i]? = some o) : opOkB ops k i o = true := by
  unfold drawOkB at h
  rw [Bool.and_eq_true, List.all_eq_true] at h
  have := h.2 i (List.mem_range.2 (Array.getElem?_eq_some_iff.1 hi).1)
  simpa [hi] using this

theorem opOk_edges2 {k i : Nat} (h : opOkB ops k i o = true) : ∀ x ∈ o.after, Region.binds .any x = true → x.on < i := by
  unfold opOkB at h
  rw [Bool.and_eq_true, Bool.and_eq_true, Array.all_eq_true_iff_forall_mem] at h
  intro x hx hb
  have := h.1.1 x hx
  rw [hb] at this
  simpa using this

theorem opOk_select2 {k i : Nat} (h : opOkB ops k i o = true) : ∀ cs b, o.op ≠ .select cs b := by
  unfold opOkB at h
  rw [Bool.and_eq_true, Bool.and_eq_true] at h
  intro cs b heq
  have := h.1.2
  rw [heq] at this
  simp at this

theorem opOk_first2 {k i : Nat} (h : opOkB ops k i o = true) (hik : i < k) {j d : Nat} (hj : j < k) (hd : (ops[j]?).bind (·.dst) = some d) :
    (j = i ∨ o.dst ≠ some d) ∧ (d ∈ o.looksAt ops → (j < i ∧ bindsOn o j = true) ∨ (i < j ∧ ∀ oj, ops[j]? = some oj → bindsOn oj i = true)) := by
  unfold opOkB at h
  rw [Bool.and_eq_true] at h
  have h2 := h.2
  have hlt : Nat.blt i k = true := by rw [Nat.blt_eq]; exact hik
  rw [hlt] at h2
  simp only [cond_true, List.all_eq_true, List.mem_range] at h2
  have h3 := h2 j hj
  simp only [hd, Bool.and_eq_true, Bool.or_eq_true, Bool.not_eq_true', bne_iff_ne, Nat.blt_eq] at h3
  refine ⟨h3.1.imp (fun h => Nat.eq_of_beq_eq_true h) id, fun hl => ?_⟩
  rcases h3.2 with (h4 | h4) | h4
  · have : (o.looksAt ops).contains d = true := List.contains_iff_mem.2 hl
    rw [this] at h4
    cases h4
  · exact .inl h4
  · refine .inr ⟨h4.1, fun oj hoj => ?_⟩
    have h5 := h4.2
    rw [hoj] at h5
    exact h5

theorem opOk_rest2 {k i : Nat} (h : opOkB ops k i o = true) (hik : ¬ i < k) : (∀ j, j < k → bindsOn o j = true) ∧ (i = k ∨ bindsOn o (i - 1) = true) := by
  unfold opOkB at h
  rw [Bool.and_eq_true] at h
  have h2 := h.2
  have hb : Nat.blt i k = false := by rw [← Bool.not_eq_true, Nat.blt_eq]; exact hik
  rw [hb] at h2
  simp only [cond_false, Bool.and_eq_true, List.all_eq_true, List.mem_range, Bool.or_eq_true] at h2
  exact ⟨h2.1, h2.2.imp (fun h => Nat.eq_of_beq_eq_true h) id⟩


theorem any_rest2 {k : Nat} (hok : drawOkB ops k = true) : ∀ (fuel m : Nat) (listed : Array Bool) (a : Act) (w : World), k ≤ m → m + fuel = ops.size → listed.size = ops.size →
    (∀ i, i < ops.size → listed.getD i true = decide (i < m)) → wpList P ops Q (ops.toList.drop m) a w → wpAny P .any ops Q fuel listed a w := by
  intro fuel
  induction fuel with
  | zero =>
    intro m listed a w hkm hm hsz hl h
    have hready : Region.ready .any ops listed = [] := by
      rw [List.eq_nil_iff_forall_not_mem]
      intro j hj
      obtain ⟨h0, o, ho, _⟩ := mem_ready.1 hj
      have hlt := (Array.getElem?_eq_some_iff.1 ho).1
      rw [hl j hlt] at h0
      simp at h0
      omega
    rw [List.drop_eq_nil_of_le (by simp; omega)] at h
    exact ⟨hready, h⟩
  | succ fuel ih =>
    intro m listed a w hkm hm hsz hl h
    have hlt : m < ops.size := by omega
    have hom : ops[m]? = some ops[m] := Array.getElem?_eq_getElem hlt
    have hdrop : ops.toList.drop m = ops[m] :: ops.toList.drop (m + 1) := by
      rw [List.drop_eq_getElem_cons (by simpa using hlt)]
      simp
    have hlist : ∀ i, listed.getD i false = decide (i < m) := fun i => by
      by_cases hi : i < ops.size
      · have := hl i hi
        rw [← this]
        have hi' : i < listed.size := by omega
        simp [hi']
      · have hi' : ¬ i < listed.size := by omega
        simp [hi']
        omega
    have hmem : m ∈ Region.ready .any ops listed := by
      rw [mem_ready]
      refine ⟨by rw [hl m hlt]; simp, _, hom, fun x hx hb => ?_⟩
      have := opOk_edges2 (opOk_of2 hok hom) x hx hb
      rw [hlist]
      simpa using this
    refine ⟨fun h0 => (by rw [h0] at hmem; cases hmem), fun j hj => ?_⟩
    have hjm : j = m := by
      obtain ⟨h0, oj, hoj, hall⟩ := mem_ready.1 hj
      have hjlt := (Array.getElem?_eq_some_iff.1 hoj).1
      rw [hl j hjlt] at h0
      simp at h0
      rcases (opOk_rest2 (opOk_of2 hok hoj) (by omega)).2 with h1 | h1
      · omega
      · have := bindsOn_listed h1 hall
        rw [hlist] at this
        simp at this
        omega
    subst hjm
    rw [hdrop] at h
    unfold wpList at h
    unfold wpOp
    simp only [hom]
    have hnext : ∀ a w, wpList P ops Q (ops.toList.drop (j + 1)) a w → wpAny P .any ops Q fuel (listed.setIfInBounds j true) a w := fun a w h => by
      refine ih (j + 1) _ a w (by omega) (by omega) (by simpa using hsz) (fun i hi => ?_) h
      by_cases hij : j = i
      · subst hij
        have : j < listed.size := by omega
        simp [this]
      · rw [getD_set_ne true hij, hl i hi]
        simp
        omega
    split
    · rename_i hw
      rw [if_pos hw] at h
      exact h.imp (Oper.wp_mono hnext) id
    · rename_i hw
      rw [if_neg hw] at h
      exact hnext _ _ h

/-- How many are listed. -/

theorem any_first2 {k : Nat} (hok : drawOkB ops k = true) {cs : List Value} {e : Env} (hcs : cs.length = k)
    (hdet : ∀ (i : Nat) (o : Oper), ops[i]? = some o → i < k → ∃ c, cs[i]? = some c ∧ Det P ops N w0 L o (envAt e (ops.toList.take i) (cs.take i)) c)
    (htail : GW P ops Q N w0 L (ops.toList.drop k) (envAt e (ops.toList.take k) cs)) :
    ∀ (fuel : Nat) (listed : Array Bool) (e' : Env) (w : World), listed.size = ops.size → listedCount listed ops.size + fuel = ops.size → (∀ i, k ≤ i → listed.getD i false = false) →
      (∀ (i : Nat) (o : Oper) (d : Nat) (c : Value), i < k → listed.getD i false = true → ops[i]? = some o → o.dst = some d → cs[i]? = some c → e' d = c) →
      (∀ t, (∀ (i : Nat) (o : Oper), i < k → listed.getD i false = true → ops[i]? = some o → o.dst ≠ some t) → e' t = e t) →
      (∀ (j : Nat) (oj : Oper) (i : Nat), listed.getD j false = true → ops[j]? = some oj → bindsOn oj i = true → listed.getD i false = true) →
      St w0 L w → wpAny P .any ops Q fuel listed (mk N e') w := by
  have hkn : k ≤ ops.size := by
    unfold drawOkB at hok
    rw [Bool.and_eq_true] at hok
    exact Nat.le_of_ble_eq_true hok.1
  have huniq : ∀ (i j : Nat) (oi oj : Oper) (d : Nat), i < k → j < k → ops[i]? = some oi → ops[j]? = some oj → oi.dst = some d → oj.dst = some d → i = j := fun i j oi oj d hi hj hoi hoj hdi hdj => by
    have := (opOk_first2 (opOk_of2 hok hoi) hi hj (d := d) (by simp [hoj, hdj])).1
    rcases this with h | h
    · exact h.symm
    · exact absurd hdi h
  have hspec : ∀ i, i ≤ k → ∀ t, ((∀ (j : Nat) (oj : Oper), j < i → ops[j]? = some oj → oj.dst ≠ some t) → envAt e (ops.toList.take i) (cs.take i) t = e t) ∧
      (∀ (j : Nat) (oj : Oper) (c : Value), j < i → ops[j]? = some oj → oj.dst = some t → cs[j]? = some c → envAt e (ops.toList.take i) (cs.take i) t = c) := fun i hi t => by
    have hget : ∀ (j : Nat) (oj : Oper), (ops.toList.take i)[j]? = some oj ↔ j < i ∧ ops[j]? = some oj := fun j oj => by
      rw [List.getElem?_take]
      by_cases hji : j < i
      · simp [hji]
      · simp [hji]
    have h := envAt_spec (ops.toList.take i) (cs.take i) e t (by simp; omega) (fun a b oa ob ha hb hda hdb => by
      obtain ⟨ha1, ha2⟩ := (hget a oa).1 ha
      obtain ⟨hb1, hb2⟩ := (hget b ob).1 hb
      exact huniq a b oa ob t (by omega) (by omega) ha2 hb2 hda hdb)
    refine ⟨fun hn => h.1 fun j oj hj => hn j oj ((hget j oj).1 hj).1 ((hget j oj).1 hj).2, fun j oj c hji hoj hd hc => h.2 j oj c ((hget j oj).2 ⟨hji, hoj⟩) hd ?_⟩
    rw [List.getElem?_take, if_pos hji]
    exact hc
  intro fuel
  induction fuel with
  | zero =>
    intro listed e' w hsz hcnt hrest hval hold hclos s
    have hall := count_all ops.size (by omega : listedCount listed ops.size = ops.size)
    by_cases hk : k < ops.size
    · have h1 := hall k hk
      rw [hrest k (Nat.le_refl _)] at h1
      cases h1
    · have hkeq : k = ops.size := by omega
      have he : e' = envAt e (ops.toList.take k) cs := by
        funext t
        have hs := hspec k (Nat.le_refl _) t
        rw [List.take_of_length_le (by omega : cs.length ≤ k)] at hs
        by_cases hex : ∃ j oj, j < k ∧ ops[j]? = some oj ∧ oj.dst = some t
        · obtain ⟨j, oj, hj, hoj, hd⟩ := hex
          obtain ⟨c, hc⟩ : ∃ c, cs[j]? = some c := ⟨cs[j], List.getElem?_eq_getElem (by omega)⟩
          rw [hval j oj t c hj (hall j (by omega)) hoj hd hc, hs.2 j oj c hj hoj hd hc]
        · rw [hold t fun i oi hi _ hoi hd => hex ⟨i, oi, hi, hoi, hd⟩, hs.1 fun j oj hj hoj hd => hex ⟨j, oj, hj, hoj, hd⟩]
      have hw := htail.h w s
      rw [← he] at hw
      exact any_rest2 hok 0 k listed _ w (Nat.le_refl _) (by omega) hsz (fun i hi => by
        have h1 := hall i hi
        have hi' : i < listed.size := by omega
        simp only [Array.getD_eq_getD_getElem?, hi', getElem?_pos, Option.getD_some] at h1 ⊢
        rw [h1]
        simp
        omega) hw
  | succ fuel ih =>
    intro listed e' w hsz hcnt hrest hval hold hclos s
    by_cases hfirst : ∃ i, i < k ∧ listed.getD i false = false
    · -- some operation of the first k is not listed: the least such one is ready
      have hleast : ∃ i, (i < k ∧ listed.getD i false = false) ∧ ∀ j, j < i → j < k → listed.getD j false = true := by
        obtain ⟨n, hn, hmin⟩ := exists_least hfirst
        refine ⟨n, hn, fun j hj hjk => ?_⟩
        cases hb : listed.getD j false with
        | true => rfl
        | false => have := hmin j ⟨hjk, hb⟩; omega
      obtain ⟨i0, ⟨hi0, hun0⟩, hmin⟩ := hleast
      have hi0n : i0 < ops.size := by omega
      have hready0 : i0 ∈ Region.ready .any ops listed := by
        rw [mem_ready]
        refine ⟨?_, _, Array.getElem?_eq_getElem hi0n, fun x hx hb => ?_⟩
        · have : i0 < listed.size := by omega
          simpa [this] using hun0
        · have := opOk_edges2 (opOk_of2 hok (Array.getElem?_eq_getElem hi0n)) x hx hb
          exact hmin x.on this (by omega)
      refine ⟨fun h0 => (by rw [h0] at hready0; cases hready0), fun i hi => ?_⟩
      obtain ⟨hun, oi, hoi, hall⟩ := mem_ready.1 hi
      have hilt := (Array.getElem?_eq_some_iff.1 hoi).1
      have hilt' : i < listed.size := by omega
      have hun' : listed.getD i false = false := by simpa [hilt'] using hun
      have hik : i < k := by
        rcases Nat.lt_or_ge i k with h | h
        · exact h
        · have := bindsOn_listed ((opOk_rest2 (opOk_of2 hok hoi) (by omega)).1 i0 hi0) hall
          rw [hun0] at this
          cases this
      obtain ⟨c, hc, hd⟩ := hdet i oi hoi hik
      have hsame : ∀ t ∈ oi.looksAt ops, envAt e (ops.toList.take i) (cs.take i) t = e' t := fun t ht => by
        have hs := hspec i (by omega) t
        by_cases hex : ∃ j oj, j < k ∧ ops[j]? = some oj ∧ oj.dst = some t
        · obtain ⟨j, oj, hj, hoj, hdj⟩ := hex
          rcases (opOk_first2 (opOk_of2 hok hoi) hik hj (d := t) (by simp [hoj, hdj])).2 ht with ⟨hji, hbd⟩ | ⟨hij, hbd⟩
          · obtain ⟨cj, hcj⟩ : ∃ c, cs[j]? = some c := ⟨cs[j], List.getElem?_eq_getElem (by omega)⟩
            rw [hs.2 j oj cj hji hoj hdj hcj, hval j oj t cj hj (bindsOn_listed hbd hall) hoj hdj hcj]
          · have hjn : ¬ listed.getD j false = true := fun hl => by
              have := hclos j oj i hl hoj (hbd oj hoj)
              rw [hun'] at this
              cases this
            rw [hs.1 fun m om hm hom hd => by
              have := huniq m j om oj t (by omega) hj hom hoj hd hdj
              omega, hold t fun m om hm hl hom hd => by
              have := huniq m j om oj t hm hj hom hoj hd hdj
              subst this
              exact hjn hl]
        · rw [hs.1 fun j oj hj hoj hd => hex ⟨j, oj, by omega, hoj, hd⟩, hold t fun j oj hj _ hoj hd => hex ⟨j, oj, hj, hoj, hd⟩]
      have hd' := det_congr (opOk_select2 (opOk_of2 hok hoi)) hsame hd
      refine det_wpOp hoi hd' s fun w' s' => ?_
      have hset : ∀ j, (listed.setIfInBounds i true).getD j false = if i = j then true else listed.getD j false := fun j => by
        by_cases hij : i = j
        · subst hij; simp [hilt']
        · rw [getD_set_ne false hij, if_neg hij]
      refine ih _ _ w' (by simpa using hsz) ?_ (fun j hj => ?_) (fun j oj d cj hj hl hoj hdj hcj => ?_) (fun t ht => ?_) (fun j oj m hl hoj hb => ?_) s'
      · rw [count_set hilt' hun', if_pos hilt]; omega
      · rw [hset, if_neg (by omega)]; exact hrest j hj
      · rw [hset] at hl
        by_cases hij : i = j
        · subst hij
          rw [hoi] at hoj
          injection hoj with hoj
          subst hoj
          rw [hc] at hcj
          injection hcj with hcj
          subst hcj
          rw [hdj]
          show upd e' d c d = c
          rw [upd_apply, if_pos rfl]
        · rw [if_neg hij] at hl
          have := hval j oj d cj hj hl hoj hdj hcj
          cases hdi : oi.dst with
          | none => exact this
          | some d' =>
            show upd e' d' c d = cj
            rw [upd_apply, if_neg]
            · exact this
            · intro heq
              subst heq
              exact hij (huniq i j oi oj d hik hj hoi hoj hdi hdj)
      · have h1 : e' t = e t := hold t fun j oj hj hl hoj => ht j oj hj (by rw [hset, hl]; split <;> rfl) hoj
        have h2 := ht i oi hik (by rw [hset, if_pos rfl]) hoi
        cases hdi : oi.dst with
        | none => exact h1
        | some d' =>
          show upd e' d' c t = e t
          rw [upd_apply, if_neg]
          · exact h1
          · intro heq
            exact h2 (by rw [hdi, heq])
      · rw [hset]
        by_cases him : i = m
        · rw [if_pos him]
        · rw [if_neg him]
          rw [hset] at hl
          by_cases hij : i = j
          · subst hij
            rw [hoi] at hoj
            injection hoj with hoj
            subst hoj
            exact bindsOn_listed hb hall
          · rw [if_neg hij] at hl
            exact hclos j oj m hl hoj hb
    · -- all of the first k are listed
      have hlist : ∀ i, i < k → listed.getD i false = true := fun i hi => by
        cases hb : listed.getD i false with
        | true => rfl
        | false => exact absurd ⟨i, hi, hb⟩ hfirst
      have he : e' = envAt e (ops.toList.take k) cs := by
        funext t
        have hs := hspec k (Nat.le_refl _) t
        rw [List.take_of_length_le (by omega : cs.length ≤ k)] at hs
        by_cases hex : ∃ j oj, j < k ∧ ops[j]? = some oj ∧ oj.dst = some t
        · obtain ⟨j, oj, hj, hoj, hd⟩ := hex
          obtain ⟨c, hc⟩ : ∃ c, cs[j]? = some c := ⟨cs[j], List.getElem?_eq_getElem (by omega)⟩
          rw [hval j oj t c hj (hlist j hj) hoj hd hc, hs.2 j oj c hj hoj hd hc]
        · rw [hold t fun i oi hi _ hoi hd => hex ⟨i, oi, hi, hoi, hd⟩, hs.1 fun j oj hj hoj hd => hex ⟨j, oj, hj, hoj, hd⟩]
      have hcount : listedCount listed ops.size = k := by
        have hsplit : ∀ n, (∀ i, k ≤ i → listed.getD i false = false) → (∀ i, i < k → listed.getD i false = true) → listedCount listed n = min n k := by
          intro n h1 h2
          induction n with
          | zero => simp [listedCount]
          | succ n ihn =>
            rw [count_succ, ihn]
            by_cases hnk : n < k
            · rw [h2 n hnk]; simp; omega
            · rw [h1 n (by omega)]; simp; omega
        rw [hsplit _ hrest hlist]; omega
      have hw := htail.h w s
      rw [← he] at hw
      refine any_rest2 hok (fuel + 1) k listed _ w (Nat.le_refl _) (by omega) hsz (fun i hi => ?_) hw
      have hi' : i < listed.size := by omega
      by_cases hik : i < k
      · have h1 := hlist i hik
        simp only [Array.getD_eq_getD_getElem?, hi', getElem?_pos, Option.getD_some] at h1 ⊢
        rw [h1]; simp [hik]
      · have h1 := hrest i (by omega)
        simp only [Array.getD_eq_getD_getElem?, hi', getElem?_pos, Option.getD_some] at h1 ⊢
        rw [h1]; simp [hik]

/-- A REGION THAT DRAWS: the first k operations give known values, in whatever order; the rest come after them, one after the other. -/
theorem gc_draw2 {id : Nat} {l : List Oper} (k : Nat) (hm : P.follows .mixedOrders = true) (hok : drawOkB l.toArray k = true)
    (h : GD P l.toArray N w0 L (fun e' => GW P l.toArray Q N w0 L (l.drop k) e') (l.take k) e) : GC P Q N w0 L (.region id l.toArray true) e := ⟨fun w s => by
  obtain ⟨cs, hl, hdet, htail⟩ := gd_vals _ _ h
  have hkn : k ≤ l.length := by
    unfold drawOkB at hok
    rw [Bool.and_eq_true] at hok
    simpa using Nat.le_of_ble_eq_true hok.1
  have hlk : cs.length = k := by rw [hl, List.length_take]; omega
  refine wp_region_any hm (any_first2 hok hlk (fun i o hi hik => ?_) htail l.toArray.size _ e _ (by simp) ?_ ?_ ?_ (fun _ _ => rfl) (fun j oj m hl' => by by_cases hi : j < l.length <;> simp [hi] at hl') (s.ext (Ext.drawn w _)))
  · obtain ⟨c, hc, hd⟩ := hdet i o (by rw [List.getElem?_take, if_pos hik]; simpa using hi)
    refine ⟨c, hc, ?_⟩
    rw [List.take_take, Nat.min_eq_left (by omega)] at hd
    exact hd
  · have : listedCount (Array.replicate l.toArray.size false) l.toArray.size = 0 := by
      unfold listedCount
      rw [List.length_eq_zero_iff, List.filter_eq_nil_iff]
      intro i _
      by_cases hi : i < l.length <;> simp [hi]
    omega
  · intro i _
    by_cases hi : i < l.length <;> simp [hi]
  · intro i o d c _ hl'
    by_cases hi : i < l.length <;> simp [hi] at hl'⟩


end
end Go.Proofs.YtljibjlkjelpbaaGreatDoor

/- Arguments that came in, read as lists and structs. No program in sight. -/
namespace Go.Proofs.YtljibjlkjelpbaaGreatDoor
open Go.ChangeShapes Go.WideShapes Go.ChangeAt Go.RowKit

theorem list_choose {α : Type} {Q : Nat → α → Prop} : ∀ n, (∀ i, i < n → ∃ x, Q i x) → ∃ l : List α, l.length = n ∧ ∀ k (hk : k < l.length), Q k l[k]
  | 0, _ => ⟨[], rfl, fun k hk => by cases hk⟩
  | n + 1, h => by
    obtain ⟨l, hl, hq⟩ := list_choose n fun i hi => h i (by omega)
    obtain ⟨x, hx⟩ := h n (by omega)
    refine ⟨l ++ [x], by simp [hl], fun k hk => ?_⟩
    by_cases hkl : k < l.length
    · rw [List.getElem_append_left hkl]; exact hq k hkl
    · have : k = n := by simp at hk; omega
      subst this
      rw [List.getElem_append_right (by omega)]
      simp [hl]
      exact hx
theorem cell_lt {w : World} {a : Addr} {u : Value} (h : w.cell? a = some u) : a.block < w.heap.size := by
  unfold World.cell? at h
  split at h
  · rename_i hh; exact (Array.getElem?_eq_some_iff.1 hh).1
  · cases h
theorem wf64 {n : Int} (h : (Lit.int .i64 n).wf = true) : inI64 n := by
  unfold Lit.wf at h
  simp only [Bool.and_eq_true, decide_eq_true_eq] at h
  exact h

section
variable {H : Type} {enc : TypeId × Value → H} {P : Program} {w : World} {base : Nat} {spare : Nat → Bool} {held : Bool}
theorem sl_of_trod {α : Type} {R : Rp α} {t e : TypeId} {fuel : Nat} {v : Value} {x : DataW H × List MemPlace} (ht : P.underlying t = some (.slice e)) (hC : P.cellsOf e = R.size) (hpos : 0 < R.size)
    (hel : ∀ (n : Nat) (cs : List Value) (y : DataW H × List MemPlace), cs.length = R.size → DataW.trod enc P w base spare held n e cs = some y → ∃ z, R.rep w (fun b => b < w.heap.size) z cs) (h : DataW.trod enc P w base spare held fuel t [v] = some x) :
    ∃ l, Sl R w w.heap.size v l := by
  rcases Go.Deep.open_slice ht h with ⟨hcs, _⟩ | ⟨a, len, cap, m, n, D, Pl, hcs, _, hl, hm, hmm, _, hi⟩
  · injection hcs with hv
    subst hv
    exact ⟨[], none, 0, rfl, Nat.le_refl _, Nat.zero_le _, fun k hk => by cases hk⟩
  · injection hcs with hv
    subst hv
    have hlm : len ≤ m := by rw [hmm]; split <;> omega
    obtain ⟨l, hll, hq⟩ := list_choose (Q := fun i z => a.block < w.heap.size ∧ ∃ cs, (∀ j u, cs[j]? = some u → w.cell? (a.add (i * R.size + j)) = some u) ∧ R.rep w (fun b => b < w.heap.size) z cs) len fun i hilt => by
      obtain ⟨cs', hc, htr⟩ := hi i (by omega)
      obtain ⟨_, hcl, hat⟩ := World.cells?_some hc
      rw [hC] at hc hcl hat
      obtain ⟨z, hz⟩ := hel n cs' _ hcl htr
      have hcell : ∀ j u, cs'[j]? = some u → w.cell? (a.add (i * R.size + j)) = some u := fun j u hu => by
        have hj : j < cs'.length := (List.getElem?_eq_some_iff.1 hu).1
        rw [← add_add, hat j (by omega), hu]
      refine ⟨z, ?_, cs', hcell, hz⟩
      have h0 := hcell 0 _ (List.getElem?_eq_getElem (by omega))
      have := cell_lt h0
      rwa [add_block] at this
    subst hll
    refine ⟨l, some a, cap, rfl, hl, hm, fun k hk => ?_⟩
    obtain ⟨hb, cs, hc, hr⟩ := hq k hk
    exact ⟨a, cs, rfl, hb, hc, hr⟩

/-- The type of a field that is one cell, at its place. -/
def fieldT (P : Program) (e : TypeId) (i : Nat) : Option TypeId := match P.underlying e with
  | some (.struct fs) => match fs[i]? with
    | some f => bif Nat.beq f.offset i && Nat.beq (P.cellsOf f.type) 1 then some f.type else none
    | none => none
  | _ => none
theorem field_trod {e ft : TypeId} {i n : Nat} {cs : List Value} {x : DataW H × List MemPlace} {c : Value} (h : DataW.trod enc P w base spare held n e cs = some x) (hf : fieldT P e i = some ft) (hc : cs[i]? = some c) :
    ∃ m y, DataW.trod enc P w base spare held m ft [c] = some y := by
  unfold fieldT at hf
  split at hf
  · rename_i fs hu
    split at hf
    · rename_i f hfi
      cases hb : (Nat.beq f.offset i && Nat.beq (P.cellsOf f.type) 1) with
      | false => rw [hb] at hf; cases hf
      | true =>
        rw [hb] at hf
        simp only [cond_true, Option.some.injEq] at hf
        subst hf
        rw [Bool.and_eq_true] at hb
        have h1 : f.offset = i := Nat.eq_of_beq_eq_true hb.1
        have h2 : P.cellsOf f.type = 1 := Nat.eq_of_beq_eq_true hb.2
        obtain ⟨xs, m, _, _, _, hlen, hg⟩ := DataW.trod_struct hu h
        have h3 := hg i f hfi
        have hi : i < fs.size := (Array.getElem?_eq_some_iff.1 hfi).1
        rw [h1, h2, List.getElem?_eq_getElem (by omega)] at h3
        have h4 : (cs.drop i).take 1 = [c] := by
          obtain ⟨hlt, hget⟩ := List.getElem?_eq_some_iff.1 hc
          rw [List.drop_eq_getElem_cons hlt, hget]
          rfl
        rw [h4] at h3
        exact ⟨m, _, h3⟩
    · cases hf
  · cases hf
theorem int_trod {t : TypeId} {n : Nat} {c : Value} {x : DataW H × List MemPlace} (ht : P.underlying t = some (.int .i64)) (h : DataW.trod enc P w base spare held n t [c] = some x) : ∃ i, c = .int .i64 i ∧ inI64 i := by
  obtain ⟨i, hc, _, hw⟩ := DataW.trod_int ht h
  injection hc with hc
  exact ⟨i, hc, wf64 hw⟩
theorem str_trod {t : TypeId} {n : Nat} {c : Value} {x : DataW H × List MemPlace} (ht : P.underlying t = some .string) (h : DataW.trod enc P w base spare held n t [c] = some x) : ∃ s : ByteArray, c = .string s ∧ s.size ≤ maxLen := by
  obtain ⟨i, hc, _, hw⟩ := DataW.trod_string ht h
  injection hc with hc
  exact ⟨i, hc, hw⟩
theorem bool_trod {t : TypeId} {n : Nat} {c : Value} {x : DataW H × List MemPlace} (ht : P.underlying t = some .bool) (h : DataW.trod enc P w base spare held n t [c] = some x) : ∃ b, c = .bool b := by
  obtain ⟨i, hc, _⟩ := DataW.trod_bool ht h
  injection hc with hc
  exact ⟨i, hc⟩
theorem ints_trod {t e : TypeId} {n : Nat} {c : Value} {x : DataW H × List MemPlace} (ht : P.underlying t = some (.slice e)) (he : P.underlying e = some (.int .i64)) (hC : P.cellsOf e = 1) (h : DataW.trod enc P w base spare held n t [c] = some x) :
    ∃ l, Sl rInt w w.heap.size c l :=
  sl_of_trod (R := rInt) ht hC (by decide) (fun n cs y hl hy => by
    obtain ⟨i, hc, _, hw⟩ := DataW.trod_int he hy
    exact ⟨i, hc, wf64 hw⟩) h
end
end Go.Proofs.YtljibjlkjelpbaaGreatDoor

/- An empty slice literal. No program in sight. -/
namespace Go.Proofs.YtljibjlkjelpbaaGreatDoor
open Go.RowKit

theorem run_bslice0 {P : Program} (w : World) (t e : TypeId) (ie : TypeInfo) (hu : P.underlying t = some (.slice e)) (hie : P.info? e = some ie) :
    (Instr.buildSlice t 0 #[]).run P w = .ok (.slice (some ⟨w.heap.size, 0, none⟩) 0 0) (w.alloc (.cells #[] e)) := by
  simp [Instr.buildSlice, run_underlying hu, sizeOf, typeInfo, hie, newRow, Instr.fill]
  have h0 : (Array.range 0).map (fun _ : Nat => (default : Value)) = #[] := Array.eq_empty_of_size_eq_zero (by simp)
  rw [h0]
theorem gw_bslice0 {P : Program} {ops : Array Oper} {Q : Exit → Act → World → Prop} {N : Nat} {w0 : World} {L : List Res} {e : Env} {rest : List Oper} {t el : TypeId} {sz : Nat} [CSlice P t el sz] {d : Nat} {ty : TypeId} {pos : String} {af : Array Edge} {g : Option (Nat × Bool)} (hw : wantedE N ops e ⟨some d, .buildSlice t 0 #[], ty, pos, af, g⟩ = true)
    (k : ∀ b, GW P ops Q N w0 (Box b el #[] :: L) rest (upd e d (.slice (some ⟨b, 0, none⟩) 0 0))) : GW P ops Q N w0 L (⟨some d, .buildSlice t 0 #[], ty, pos, af, g⟩ :: rest) e := ⟨fun w s => by
  have ht := CSlice.h (P := P) (t := t) (el := el) (sz := sz)
  unfold sliceSz at ht
  split at ht
  · rename_i el' hu
    obtain ⟨i, hinfo, heq⟩ := Option.map_eq_some_iff.1 ht
    injection heq with e1 e2
    subst e1 e2
    have hr := run_bslice0 (P := P) w t el' i hu hinfo
    refine wl_run (w' := w.alloc (.cells #[] el')) hw ?_ ((k w.heap.size).h _ (s.box el' _))
    unfold execOp
    simp [hr]
  · cases ht⟩
end Go.Proofs.YtljibjlkjelpbaaGreatDoor

/- A collection of resources whose number is not known: one is taken out, turned, and put back. No program in sight. -/
namespace Go.Proofs.YtljibjlkjelpbaaGreatDoor
open Go.RowKit

def Emp : Res := ⟨fun _ => False, fun _ => True, fun _ _ _ _ => trivial⟩
def setR (F : Nat → Res) (i : Nat) (r : Res) : Nat → Res := fun j => if j = i then r else F j
theorem setR_same (F : Nat → Res) (i : Nat) (r : Res) : setR F i r i = r := if_pos rfl
theorem setR_ne (F : Nat → Res) {i j : Nat} (r : Res) (h : ¬ j = i) : setR F i r j = F j := if_neg h
theorem setR_set (F : Nat → Res) (i : Nat) (r q : Res) : setR (setR F i r) i q = setR F i q := by
  funext j
  unfold setR
  split <;> rfl
theorem setR_id (F : Nat → Res) (i : Nat) : setR F i (F i) = F := by
  funext j
  unfold setR
  split
  · rename_i h; rw [h]
  · rfl
/-- The resources F 0, .., F (n-1), which do not meet. -/
def Coll (n : Nat) (F : Nat → Res) : Res where
  fp b := ∃ i, i < n ∧ (F i).fp b
  p w := (∀ i, i < n → (F i).p w) ∧ ∀ i j, i < n → j < n → ¬ i = j → ∀ b, (F i).fp b → ¬ (F j).fp b
  stable w w' h p := ⟨fun i hi => (F i).stable w w' (fun b hb => h b ⟨i, hi, hb⟩) (p.1 i hi), p.2⟩
theorem St.same {w0 w : World} {r q : Res} {L : List Res} (s : St w0 (r :: L) w) (hf : ∀ b, q.fp b → r.fp b) (hp : q.p w) : St w0 (q :: L) w := ⟨s.below, hp, fun b hb => s.sep.2.1 b (hf b hb), fun b hb => s.sep.2.2.1 b (hf b hb), s.sep.2.2.2⟩
theorem coll_nil {F : Nat → Res} {L : List Res} : Ent L (Coll 0 F :: L) := fun _w0 _w s =>
  ⟨s.below, ⟨fun i hi => absurd hi (Nat.not_lt_zero i), fun i _j hi => absurd hi (Nat.not_lt_zero i)⟩, fun _b ⟨i, hi, _⟩ => absurd hi (Nat.not_lt_zero i), fun _b ⟨i, hi, _⟩ => absurd hi (Nat.not_lt_zero i), s.sep⟩
theorem coll_take {n i : Nat} {F : Nat → Res} {L : List Res} (hi : i < n) : Ent (Coll n F :: L) (F i :: Coll n (setR F i Emp) :: L) := fun w0 w s => by
  obtain ⟨hB, ⟨h1, h2⟩, h3, h4, h5⟩ := s
  have hsub : ∀ b, (Coll n (setR F i Emp)).fp b → ∃ j, j < n ∧ ¬ j = i ∧ (F j).fp b := fun b ⟨j, hj, hb⟩ => by
    by_cases hji : j = i
    · subst hji; rw [setR_same] at hb; exact absurd hb id
    · rw [setR_ne _ _ hji] at hb; exact ⟨j, hj, hji, hb⟩
  refine ⟨hB, h1 i hi, fun b hb => h3 b ⟨i, hi, hb⟩, fun b hb q hq => ?_, ⟨fun j hj => ?_, fun j k hj hk hjk b hb hb' => ?_⟩, fun b hb => ?_, fun b hb => ?_, h5⟩
  · rcases List.mem_cons.1 hq with rfl | hq
    · intro hc
      obtain ⟨j, hj, hji, hjb⟩ := hsub b hc
      exact h2 j i hj hi hji b hjb hb
    · exact h4 b ⟨i, hi, hb⟩ q hq
  · by_cases hji : j = i
    · subst hji; rw [setR_same]; trivial
    · rw [setR_ne _ _ hji]; exact h1 j hj
  · by_cases hji : j = i
    · subst hji; rw [setR_same] at hb; exact hb
    · rw [setR_ne _ _ hji] at hb
      by_cases hki : k = i
      · subst hki; rw [setR_same] at hb'; exact hb'
      · rw [setR_ne _ _ hki] at hb'; exact h2 j k hj hk hjk b hb hb'
  · obtain ⟨j, hj, _, hjb⟩ := hsub b hb; exact h3 b ⟨j, hj, hjb⟩
  · obtain ⟨j, hj, _, hjb⟩ := hsub b hb; exact h4 b ⟨j, hj, hjb⟩
theorem coll_put {n i : Nat} {F : Nat → Res} {r : Res} {L : List Res} (hi : i < n) : Ent (r :: Coll n (setR F i Emp) :: L) (Coll n (setR F i r) :: L) := fun w0 w s => by
  obtain ⟨hB, h1, h2, h3, ⟨g1, g2⟩, g3, g4, g5⟩ := s
  have hin : ∀ j b, j < n → ¬ j = i → (F j).fp b → (Coll n (setR F i Emp)).fp b := fun j b hj hji hb => ⟨j, hj, by rw [setR_ne _ _ hji]; exact hb⟩
  refine ⟨hB, ⟨fun j hj => ?_, fun j k hj hk hjk b hb hb' => ?_⟩, fun b ⟨j, hj, hb⟩ => ?_, fun b ⟨j, hj, hb⟩ q hq => ?_, g5⟩
  · by_cases hji : j = i
    · subst hji; rw [setR_same]; exact h1
    · rw [setR_ne _ _ hji]; have := g1 j hj; rwa [setR_ne _ _ hji] at this
  · by_cases hji : j = i
    · subst hji
      have hkj : ¬ k = j := fun h => hjk h.symm
      rw [setR_same] at hb
      rw [setR_ne _ _ hkj] at hb'
      exact h3 b hb _ List.mem_cons_self (hin k b hk hkj hb')
    · rw [setR_ne _ _ hji] at hb
      by_cases hki : k = i
      · subst hki
        rw [setR_same] at hb'
        exact h3 b hb' _ List.mem_cons_self (hin j b hj hji hb)
      · rw [setR_ne _ _ hki] at hb'
        have := g2 j k hj hk hjk b
        rw [setR_ne _ _ hji, setR_ne _ _ hki] at this
        exact this hb hb'
  · by_cases hji : j = i
    · subst hji; rw [setR_same] at hb; exact h2 b hb
    · rw [setR_ne _ _ hji] at hb; exact g3 b (hin j b hj hji hb)
  · by_cases hji : j = i
    · subst hji; rw [setR_same] at hb; exact h3 b hb q (List.mem_cons_of_mem _ hq)
    · rw [setR_ne _ _ hji] at hb; exact g4 b (hin j b hj hji hb) q hq
theorem coll_push {n : Nat} {F : Nat → Res} {r : Res} {L : List Res} : Ent (r :: Coll n F :: L) (Coll (n + 1) (setR F n r) :: L) := fun w0 w s => by
  obtain ⟨hB, h1, h2, h3, ⟨g1, g2⟩, g3, g4, g5⟩ := s
  refine ⟨hB, ⟨fun j hj => ?_, fun j k hj hk hjk b hb hb' => ?_⟩, fun b ⟨j, hj, hb⟩ => ?_, fun b ⟨j, hj, hb⟩ q hq => ?_, g5⟩
  · by_cases hji : j = n
    · subst hji; rw [setR_same]; exact h1
    · rw [setR_ne _ _ hji]; exact g1 j (by omega)
  · by_cases hji : j = n
    · subst hji
      have hkj : ¬ k = j := fun h => hjk h.symm
      rw [setR_same] at hb
      rw [setR_ne _ _ hkj] at hb'
      exact h3 b hb _ List.mem_cons_self ⟨k, by omega, hb'⟩
    · rw [setR_ne _ _ hji] at hb
      by_cases hki : k = n
      · subst hki
        rw [setR_same] at hb'
        exact h3 b hb' _ List.mem_cons_self ⟨j, by omega, hb⟩
      · rw [setR_ne _ _ hki] at hb'
        exact g2 j k (by omega) (by omega) hjk b hb hb'
  · by_cases hji : j = n
    · subst hji; rw [setR_same] at hb; exact h2 b hb
    · rw [setR_ne _ _ hji] at hb; exact g3 b ⟨j, by omega, hb⟩
  · by_cases hji : j = n
    · subst hji; rw [setR_same] at hb; exact h3 b hb q (List.mem_cons_of_mem _ hq)
    · rw [setR_ne _ _ hji] at hb; exact g4 b ⟨j, by omega, hb⟩ q hq
theorem coll_congr {n : Nat} {F G : Nat → Res} (h : ∀ i, i < n → F i = G i) {L : List Res} : Ent (Coll n F :: L) (Coll n G :: L) := fun w0 w s =>
  s.same (fun b ⟨i, hi, hb⟩ => ⟨i, hi, by rw [h i hi]; exact hb⟩) ⟨fun i hi => by rw [← h i hi]; exact s.head.1 i hi, fun i j hi hj hij b => by rw [← h i hi, ← h j hj]; exact s.head.2 i j hi hj hij b⟩
end Go.Proofs.YtljibjlkjelpbaaGreatDoor

/- Pointers and nil, arrays that are values. No program in sight. -/
namespace Go.Proofs.YtljibjlkjelpbaaGreatDoor
open Go.RowKit
section
variable {P : Program} {ops : Array Oper} {N : Nat} {w0 : World} {L L' : List Res} {e : Env} {o : Oper} {t : TypeId} {x y ix : Operand} {a : Addr} {v z : Value} {n m : Nat}
theorem w_nilcheck (hop : o.op = .nilCheck x) (hw : wantedE N ops e o = true) (hx : ev N e x = .pointer (some a)) : Det P ops N w0 L o e (.pointer (some a)) :=
  det_pure hw fun w => by
    unfold execOp
    simp [hop, hx]
theorem w_peqnil {p : Option Addr} {te yt : TypeId} (hu : P.underlying t = some (.pointer te)) (hop : o.op = .binOp .eql t x y yt) (hw : wantedE N ops e o = true) (hx : ev N e x = .pointer p) (hy : ev N e y = .pointer none) : Det P ops N w0 L o e (.bool p.isNone) :=
  det_pure hw fun w => by
    have h : ∀ (d : Nat) (w : World), (Op.equalIn (d + 1) t (.pointer p) (.pointer none)).run P w = .ok p.isNone w := fun d w => by
      cases p <;> simp [Op.equalIn, run_underlying hu]
    unfold execOp
    simp only [hop, hx, hy, eqGuard, binOp]
    simp [Op.equal, Op.maxDepth, h 9999]
theorem w_aidx {el : TypeId} {cs : Array Value} {k : IntKind} {zi : Int} (hu : P.underlying t = some (.array n el)) (he : P.underlying el = some (.int .i64)) (hs : ((P.info? el).map (·.size)) = some 1) (hop : o.op = .index t x ix) (hw : wantedE N ops e o = true) (hx : ev N e x = .agg cs) (hi : ev N e ix = .int k zi) (hz : zi = (m : Int)) (hm : m < n) (hc : cs[m]? = some v) :
    Det P ops N w0 L o e v :=
  det_pure hw fun w => by
    subst hz
    obtain ⟨j, hj, hsz⟩ := Option.map_eq_some_iff.1 hs
    have hp := part_int (P := P) (ft := el) (cs := cs) (off := m) (w := w) he hc
    unfold execOp
    simp [hop, hx, hi, Instr.index, run_underlying hu, asIntOf, hm, sizeOf, typeInfo, hj, hsz, hp]
theorem w_buildA {el : TypeId} {sz : Nat} [CZero P t z] {parts : Array (Nat × Operand)} {cells : Array Value} (hu : P.underlying t = some (.array n el)) (hs : ((P.info? el).map (·.size)) = some sz) (hop : o.op = .build t parts) (hw : wantedE N ops e o = true)
    (hf : Instr.fill (fun i => some (i * sz, sz)) z.cells (parts.toList.map fun q => (q.1, ev N e q.2)) = some cells) : Det P ops N w0 L o e (.agg cells) :=
  det_pure hw fun w => by
    have hz := CZero.h (P := P) (t := t) (z := z)
    obtain ⟨i, hi, hzi⟩ := Option.bind_eq_some_iff.1 hz
    obtain ⟨j, hj, hsz⟩ := Option.map_eq_some_iff.1 hs
    have hparts : (parts.map fun q => (q.1, ev N e q.2)).toList = parts.toList.map fun q => (q.1, ev N e q.2) := by simp
    have hr := run_build (P := P) w t (parts.map fun q => (q.1, ev N e q.2)) cells (by
      unfold Program.built
      simp only [hi, hu, hzi, hj, hparts]
      subst hsz
      exact hf)
    unfold execOp
    simp [hop, hr]
theorem w_buildP {ps : List (Nat × Nat)} [CPlaces P t ps] [CZero P t z] {parts : Array (Nat × Operand)} (vals : List (Nat × Value)) {cells : Array Value} (hf : Instr.fill (fun i => ps[i]?) z.cells vals = some cells) (hop : o.op = .build t parts) (hw : wantedE N ops e o = true)
    (hv : parts.toList.map (fun q => (q.1, ev N e q.2)) = vals) : Det P ops N w0 L o e (.agg cells) := w_build hop hw (by rw [hv]; exact hf)
end
end Go.Proofs.YtljibjlkjelpbaaGreatDoor

/- Reading what was built: slices over own cells. No program in sight. -/
namespace Go.Proofs.YtljibjlkjelpbaaGreatDoor
open Go.RowKit
set_option maxRecDepth 100000
set_option maxHeartbeats 2000000

section
variable {P : Program} {ops : Array Oper} {N : Nat} {w0 : World} {L : List Res} {rest : List Oper} {t : TypeId} {x y : Operand} {z : Value} {el sz by_ d : Nat} {ty : TypeId} {pos : String} {af : Array Edge} {g : Option (Nat × Bool)}
variable {X : Type} [Inhabited X] {pl : Nat → List Nat} {tail : ((Nat → X) → Env) → (Nat → (Nat → X) → List Res) → Prop} {i : Nat} {E : (Nat → X) → Env} {RL : Nat → (Nat → X) → List Res}
theorem gb_makeN [CSlice P t el sz] [CZero P el z] [CBytes P el by_] {n : Nat} {kl kc : IntKind} {l c : Int} {cells : Array Value} (inj : Nat → X) (bk : X → Nat) (hbk : ∀ b, bk (inj b) = b) (hw : ∀ γ, wantedE N ops (E γ) ⟨some d, .makeSlice t x y, ty, pos, af, g⟩ = true)
    (hx : ∀ γ, ev N (E γ) x = .int kl l) (hy : ∀ γ, ev N (E γ) y = .int kc c) (hl : l = (n : Int)) (hc : c = (n : Int)) (hb : by_ * n ≤ 281474976710656) (hn : n ≤ 9223372036854775807) (hm : madeCells z.cells (n * sz) = cells)
    (k : GB P ops N w0 L pl tail (i + 1) rest (fun β => upd (E β) d (.slice (some ⟨bk (β i), 0, none⟩) n n)) (fun j β => bif Nat.beq j i then [Box (bk (β i)) el cells] else RL j β)) :
    GB P ops N w0 L pl tail i (⟨some d, .makeSlice t x y, ty, pos, af, g⟩ :: rest) E RL := by
  subst hm
  refine gb_make (V := fun _ x => .slice (some ⟨bk x, 0, none⟩) n n) (R := fun _ x => [Box (bk x) el (madeCells z.cells (n * sz))]) (fun γ => ⟨hw γ, fun w s => ?_⟩) (fun _ _ => ⟨rfl, rfl⟩) (fun _ => ⟨rfl, rfl⟩) k
  have ht := CSlice.h (P := P) (t := t) (el := el) (sz := sz)
  have hz := CZero.h (P := P) (t := el) (z := z)
  have hby := CBytes.h (P := P) (t := el) (n := by_)
  unfold sliceSz at ht
  split at ht
  · rename_i el' hu
    obtain ⟨i, hinfo, heq⟩ := Option.map_eq_some_iff.1 ht
    injection heq with h1 h2
    subst h1 h2 hl hc
    obtain ⟨i', hi', hzi⟩ := Option.bind_eq_some_iff.1 hz
    rw [hinfo] at hi'
    injection hi' with hi'
    subst hi'
    unfold bytesB at hby
    rw [hinfo] at hby
    have hby' : i.bytes = by_ := by simpa using hby
    subst hby'
    have hr := run_make (P := P) w t el' i z hu hinfo hzi kl kc n n (by omega) (by omega) (by
      have : ((i.bytes * n : Nat) : Int) ≤ 281474976710656 := by omega
      rwa [Int.natCast_mul] at this) (by omega)
    simp only [Int.toNat_natCast] at hr
    have hr2 : (execOp (ev N (E γ)) ⟨some d, .makeSlice t x y, ty, pos, af, g⟩).run P w = .ok (.value (.slice (some ⟨w.heap.size, 0, none⟩) n n)) (w.alloc (.cells (madeCells z.cells (n * i.size)) el')) := by
      unfold execOp
      simp [hx, hy, hr]
    unfold Step
    rw [hr2]
    exact ⟨ext_alloc w _, inj w.heap.size, by rw [hbk], by rw [hbk]; exact made_box w el' _⟩
  · cases ht
end

/-! ### Reading what was built -/
def RepsFrom {α : Type} (R : Rp α) (w : World) : List α → List Value → Prop
  | [], _ => True
  | x :: l, cs => R.rep w (fun b => b < w.heap.size) x (cs.take R.size) ∧ RepsFrom R w l (cs.drop R.size)
theorem reps_at {α : Type} {R : Rp α} {w : World} : ∀ {l : List α} {cs : List Value}, RepsFrom R w l cs → ∀ k (hk : k < l.length), R.rep w (fun b => b < w.heap.size) l[k] ((cs.drop (k * R.size)).take R.size)
  | x :: l, cs, h, 0, _ => by simpa using h.1
  | x :: l, cs, h, k + 1, hk => by
    have := reps_at h.2 k (by simpa using hk)
    rw [List.drop_drop] at this
    rwa [show R.size + k * R.size = (k + 1) * R.size by rw [Nat.succ_mul]; omega] at this
theorem Sl.ofCells {α : Type} {R : Rp α} {w : World} {b n c : Nat} {cs : Array Value} {ty : TypeId} {l : List α} (hb : w.heap[b]? = some (.cells cs ty (0, 0))) (hn : n = l.length) (hc : n ≤ c) (hc2 : c ≤ 1000) (h : RepsFrom R w l cs.toList) : Sl R w w.heap.size (.slice (some ⟨b, 0, none⟩) n c) l := by
  subst hn
  refine ⟨_, c, rfl, hc, by unfold maxLen; omega, fun k hk => ⟨⟨b, 0, none⟩, _, rfl, (Array.getElem?_eq_some_iff.1 hb).1, fun j u hu => ?_, reps_at h k hk⟩⟩
  rw [add_zero]
  simp only [World.cell?, hb]
  rw [List.getElem?_take] at hu
  split at hu
  · rw [List.getElem?_drop] at hu
    simpa using hu
  · cases hu
theorem Sl.nil {α : Type} (R : Rp α) (w : World) : Sl R w w.heap.size (.slice none 0 0) ([] : List α) := ⟨none, 0, rfl, Nat.le_refl _, Nat.zero_le _, fun k hk => by cases hk⟩

theorem inI {i : Int} (h : decide (-9223372036854775808 ≤ i ∧ i ≤ 9223372036854775807) = true) : inI64 i := by unfold inI64; exact of_decide_eq_true h
theorem row_set {α : Type} (f : α → Value) {l : List α} {m : Nat} (hm : m < l.length) (x : α) : ((l.map f).toArray.toList.take (m * 1) ++ [f x] ++ (l.map f).toArray.toList.drop (m * 1 + 1)).toArray = ((l.set m x).map f).toArray := by
  rw [Nat.mul_one, List.map_set, List.set_eq_take_append_cons_drop, if_pos (by simpa using hm)]
  simp
theorem row_get {α : Type} (f : α → Value) {l : List α} (d : α) {m : Nat} (hm : m < l.length) : (l.map f).toArray[m * 1]? = some (f (l.getD m d)) := by
  simp [hm]
theorem row_make {α : Type} (f : α → Value) (n : Nat) (x : α) : Array.replicate n (f x) = ((List.replicate n x).map f).toArray := by
  rw [List.map_replicate]
  simp
end Go.Proofs.YtljibjlkjelpbaaGreatDoor

/- Regions that draw their order and hold an operation that changes what the function owns: in whatever order. No program in sight. -/
namespace Go.Proofs.YtljibjlkjelpbaaGreatDoor
open Go.RowKit

section
variable {X : Type} [Inhabited X] {P : Program} {ops : Array Oper} {Q : Exit → Act → World → Prop} {N : Nat} {w0 : World} {L : List Res} {rest : List Oper} {e : Env} {o : Oper}

/-- What the operation gives is known. -/
def StepG (P : Program) (ρ : Operand → Value) (o : Oper) (w : World) (φ : Value → World → Prop) : Prop :=
  match (execOp ρ o).run P w with
  | .ok (.value v) w' => φ v w'
  | .ok .skip w' => φ undef w'
  | .ok (.enter f args) w' => Ok P f args w' φ
  | _ => False
def setB (ls : Nat → Bool) (i : Nat) : Nat → Bool := fun j => if i = j then true else ls j
theorem StepG.congr {ρ ρ' : Operand → Value} {w : World} {φ : Value → World → Prop} (hs : ∀ cs b, o.op ≠ .select cs b) (h : ∀ x ∈ o.op.operands, ρ x = ρ' x) (k : StepG P ρ o w φ) : StepG P ρ' o w φ := by
  unfold StepG at *
  rwa [← execOp_congr o hs h]
theorem opJ_wpOp {i : Nat} {K : Act → World → Prop} {w : World} {E : Env} {φ : Value → World → Prop} (hi : ops[i]? = some o) (hs : ∀ cs b, o.op ≠ .select cs b)
    (hwt : wantedE N ops E o = true) (hst : StepG P (ev N E) o w φ) (hsame : ∀ t ∈ o.looksAt ops, E t = e t) (k : ∀ v w', φ v w' → K (mk N (updO e o.dst v)) w') : wpOp P ops Q i K (mk N e) w := by
  have hw : wantedE N ops E o = wantedE N ops e o := by
    unfold wantedE
    cases hg : o.guard with
    | none => rfl
    | some g =>
      obtain ⟨j, want⟩ := g
      cases hj : (ops[j]?).bind (·.dst) with
      | none => simp only [hj]
      | some d => simp only [hj, hsame d (looks_guard hg hj)]
  unfold wpOp
  simp only [hi]
  rw [hw] at hwt
  rw [if_pos (by rw [wanted_mk]; exact hwt)]
  refine .inl ?_
  have hstep := StepG.congr (ρ' := ev N e) hs (fun x hx => by
    cases x with
    | tmp t =>
      show (bif Nat.blt t N then E t else undef) = (bif Nat.blt t N then e t else undef)
      rw [hsame t (looks_operand hx)]
    | const v => rfl
    | global g => rfl
    | func f => rfl) hst
  unfold Oper.wp
  rw [mk_eval]
  unfold StepG at hstep
  split at hstep
  · rename_i hr
    rw [hr]
    show K ((mk N e).put o.dst _) _
    rw [mk_put]
    exact k _ _ hstep
  · rename_i hr
    rw [hr]
    show K ((mk N e).put o.dst undef) _
    rw [mk_put]
    exact k _ _ hstep
  · rename_i hr
    rw [hr]
    refine Calls.mono hstep ?_
    rintro y w'' ⟨v, rfl, _, hv⟩
    show K ((mk N e).put o.dst v) w''
    rw [mk_put]
    exact k _ _ hv
  · exact hstep.elim

set_option maxHeartbeats 1000000 in
theorem any_blockJ {k : Nat} {pl : Nat → List Nat} (hok : blockOk ops k pl = true) {e : Env} {V : Nat → (Nat → X) → Value} {J : (Nat → Bool) → (Nat → X) → World → Prop}
    (hop : ∀ (i : Nat) (o : Oper) (ls : Nat → Bool) (β : Nat → X) (w : World), ops[i]? = some o → i < k → ls i = false → (∀ j ∈ pl i, ls j = true) → J ls β w → wantedE N ops (envAt e (ops.toList.take i) (vals pl V i (restr (i :: pl i) β))) o = true ∧
      StepG P (ev N (envAt e (ops.toList.take i) (vals pl V i (restr (i :: pl i) β)))) o w fun v w' => ∃ x, v = V i (setF (restr (i :: pl i) β) i x) ∧ J (setB ls i) (setF β i x) w')
    (htail : ∀ (ls : Nat → Bool) (β : Nat → X) (w : World), (∀ i, i < k → ls i = true) → J ls β w → wpList P ops Q (ops.toList.drop k) (mk N (envAt e (ops.toList.take k) (vals pl V k β))) w) :
    ∀ (fuel : Nat) (listed : Array Bool) (β : Nat → X) (e' : Env) (w : World), listed.size = ops.size → listedCount listed ops.size + fuel = ops.size → (∀ i, k ≤ i → listed.getD i false = false) →
      (∀ i, i < k → listed.getD i false = true → ∀ j ∈ pl i, listed.getD j false = true) →
      (∀ (i : Nat) (o : Oper) (d : Nat), i < k → listed.getD i false = true → ops[i]? = some o → o.dst = some d → e' d = V i (restr (i :: pl i) β)) →
      (∀ t, (∀ (i : Nat) (o : Oper), i < k → listed.getD i false = true → ops[i]? = some o → o.dst ≠ some t) → e' t = e t) →
      J (fun j => listed.getD j false) β w → wpAny P .any ops Q fuel listed (mk N e') w := by
  have hkn : k ≤ ops.size := by
    unfold blockOk at hok
    rw [Bool.and_eq_true] at hok
    exact Nat.le_of_ble_eq_true hok.1
  have huniq : ∀ (i j : Nat) (oi oj : Oper) (d : Nat), i < k → j < k → ops[i]? = some oi → ops[j]? = some oj → oi.dst = some d → oj.dst = some d → i = j := fun i j oi oj d hi hj hoi hoj hdi hdj => by
    have := ((bOk_first (bOk_of hok hoi) hi).dst j d hj (by simp [hoj, hdj])).1
    rcases this with h | h
    · exact h.symm
    · exact absurd hdi h
  have hvget : ∀ (n j : Nat) (β : Nat → X), j < n → (vals pl V n β)[j]? = some (V j (restr (j :: pl j) β)) := fun n j β hj => by
    unfold vals
    rw [List.getElem?_map, List.getElem?_range hj]
    rfl
  have hspec : ∀ i, i ≤ k → ∀ (β : Nat → X) (t : Nat), ((∀ (j : Nat) (oj : Oper), j < i → ops[j]? = some oj → oj.dst ≠ some t) → envAt e (ops.toList.take i) (vals pl V i β) t = e t) ∧
      (∀ (j : Nat) (oj : Oper), j < i → ops[j]? = some oj → oj.dst = some t → envAt e (ops.toList.take i) (vals pl V i β) t = V j (restr (j :: pl j) β)) := fun i hi β t => by
    have hget : ∀ (j : Nat) (oj : Oper), (ops.toList.take i)[j]? = some oj ↔ j < i ∧ ops[j]? = some oj := fun j oj => by
      rw [List.getElem?_take]
      by_cases hji : j < i
      · simp [hji]
      · simp [hji]
    have h := envAt_spec (ops.toList.take i) (vals pl V i β) e t (by simp [vals]; omega) (fun a b oa ob ha hb hda hdb => by
      obtain ⟨ha1, ha2⟩ := (hget a oa).1 ha
      obtain ⟨hb1, hb2⟩ := (hget b ob).1 hb
      exact huniq a b oa ob t (by omega) (by omega) ha2 hb2 hda hdb)
    exact ⟨fun hn => h.1 fun j oj hj => hn j oj ((hget j oj).1 hj).1 ((hget j oj).1 hj).2, fun j oj hji hoj hd => h.2 j oj _ ((hget j oj).2 ⟨hji, hoj⟩) hd (hvget i j β hji)⟩
  -- all of the first k are listed: the rest
  have finish : ∀ (fuel : Nat) (listed : Array Bool) (β : Nat → X) (e' : Env) (w : World), listed.size = ops.size → k + fuel = ops.size → (∀ i, k ≤ i → listed.getD i false = false) → (∀ i, i < k → listed.getD i false = true) →
      (∀ (i : Nat) (o : Oper) (d : Nat), i < k → listed.getD i false = true → ops[i]? = some o → o.dst = some d → e' d = V i (restr (i :: pl i) β)) →
      (∀ t, (∀ (i : Nat) (o : Oper), i < k → listed.getD i false = true → ops[i]? = some o → o.dst ≠ some t) → e' t = e t) →
      J (fun j => listed.getD j false) β w → wpAny P .any ops Q fuel listed (mk N e') w := by
    intro fuel listed β e' w hsz hf hrest hall hval hold s
    have he : e' = envAt e (ops.toList.take k) (vals pl V k β) := by
      funext t
      have hs := hspec k (Nat.le_refl _) β t
      by_cases hex : ∃ (j : Nat) (oj : Oper), j < k ∧ ops[j]? = some oj ∧ oj.dst = some t
      · obtain ⟨j, oj, hj, hoj, hd⟩ := hex
        rw [hval j oj t hj (hall j hj) hoj hd, hs.2 j oj hj hoj hd]
      · rw [hold t fun i oi hi _ hoi hd => hex ⟨i, oi, hi, hoi, hd⟩, hs.1 fun j oj hj hoj hd => hex ⟨j, oj, hj, hoj, hd⟩]
    have hw := htail _ β w (fun i hi => hall i hi) s
    rw [← he] at hw
    refine any_rest' hok fuel k listed _ w (Nat.le_refl _) hf hsz (fun i hi => ?_) hw
    have hi' : i < listed.size := by omega
    by_cases hik : i < k
    · have h1 := hall i hik
      simp only [Array.getD_eq_getD_getElem?, hi', getElem?_pos, Option.getD_some] at h1 ⊢
      rw [h1]; simp [hik]
    · have h1 := hrest i (by omega)
      simp only [Array.getD_eq_getD_getElem?, hi', getElem?_pos, Option.getD_some] at h1 ⊢
      rw [h1]; simp [hik]
  have hsplit : ∀ (listed : Array Bool) (n : Nat), (∀ i, k ≤ i → listed.getD i false = false) → (∀ i, i < k → listed.getD i false = true) → listedCount listed n = min n k := by
    intro listed n h1 h2
    induction n with
    | zero => simp [listedCount]
    | succ n ihn =>
      rw [count_succ, ihn]
      by_cases hnk : n < k
      · rw [h2 n hnk]; simp; omega
      · rw [h1 n (by omega)]; simp; omega
  intro fuel
  induction fuel with
  | zero =>
    intro listed β e' w hsz hcnt hrest hcl hval hold s
    have hall := count_all ops.size (by omega : listedCount listed ops.size = ops.size)
    by_cases hk : k < ops.size
    · have h1 := hall k hk
      rw [hrest k (Nat.le_refl _)] at h1
      cases h1
    · exact finish 0 listed β e' w hsz (by omega) hrest (fun i hi => hall i (by omega)) hval hold s
  | succ fuel ih =>
    intro listed β e' w hsz hcnt hrest hcl hval hold s
    by_cases hfirst : ∃ i, i < k ∧ listed.getD i false = false
    · have hleast : ∃ i, (i < k ∧ listed.getD i false = false) ∧ ∀ j, j < i → j < k → listed.getD j false = true := by
        obtain ⟨n, hn, hmin⟩ := exists_least hfirst
        refine ⟨n, hn, fun j hj hjk => ?_⟩
        cases hb : listed.getD j false with
        | true => rfl
        | false => have := hmin j ⟨hjk, hb⟩; omega
      obtain ⟨i0, ⟨hi0, hun0⟩, hmin⟩ := hleast
      have hi0n : i0 < ops.size := by omega
      have hready0 : i0 ∈ Region.ready .any ops listed := by
        rw [mem_ready]
        refine ⟨?_, _, Array.getElem?_eq_getElem hi0n, fun x hx hb => ?_⟩
        · have : i0 < listed.size := by omega
          simpa [this] using hun0
        · have := bOk_edge (bOk_of hok (Array.getElem?_eq_getElem hi0n)) x hx hb
          exact hmin x.on this (by omega)
      refine ⟨fun h0 => (by rw [h0] at hready0; cases hready0), fun i hi => ?_⟩
      obtain ⟨hun, oi, hoi, hall⟩ := mem_ready.1 hi
      have hilt := (Array.getElem?_eq_some_iff.1 hoi).1
      have hilt' : i < listed.size := by omega
      have hun' : listed.getD i false = false := by simpa [hilt'] using hun
      have hik : i < k := by
        rcases Nat.lt_or_ge i k with h | h
        · exact h
        · rcases bOk_rest (bOk_of hok hoi) (by omega) with ⟨_, h1⟩ | ⟨h1, h2⟩
          · rcases h1 i0 hi0 with h2 | ⟨j', hj', h2, h3⟩
            · have := bindsOn_listed h2 hall
              rw [hun0] at this
              cases this
            · have := hcl j' hj' (bindsOn_listed h2 hall) i0 h3
              rw [hun0] at this
              cases this
          · have := bindsOn_listed h2 hall
            rw [hrest (i - 1) (by omega)] at this
            cases this
      have hB := bOk_first (bOk_of hok hoi) hik
      have hpl : ∀ j ∈ pl i, listed.getD j false = true := fun j hj => by
        rcases (hB.pred j hj).2 with h | ⟨j', h, hjj⟩
        · exact bindsOn_listed h hall
        · have hj' : j' < k := by
            unfold bindsOn at h
            obtain ⟨x, hx, hb⟩ := Array.any_eq_true'.1 h
            simp only [Bool.and_eq_true, beq_iff_eq] at hb
            have := (hB.edge x hx hb.1).1
            omega
          exact hcl j' hj' (bindsOn_listed h hall) j hjj
      have hplt : ∀ j ∈ pl i, j < i := fun j hj => (hB.pred j hj).1
      have hrr : ∀ j ∈ pl i, restr (j :: pl j) (restr (i :: pl i) β) = restr (j :: pl j) β := fun j hj => restr_restr β fun m hm => by
        rcases List.mem_cons.1 hm with rfl | hm
        · exact List.mem_cons_of_mem _ hj
        · exact List.mem_cons_of_mem _ (pl_trans hok i hik j hj m hm)
      have hsame : ∀ t ∈ oi.looksAt ops, envAt e (ops.toList.take i) (vals pl V i (restr (i :: pl i) β)) t = e' t := fun t ht => by
        have hs := hspec i (by omega) (restr (i :: pl i) β) t
        by_cases hex : ∃ (j : Nat) (oj : Oper), j < k ∧ ops[j]? = some oj ∧ oj.dst = some t
        · obtain ⟨j, oj, hj, hoj, hdj⟩ := hex
          have hji := (hB.dst j t hj (by simp [hoj, hdj])).2 ht
          rw [hs.2 j oj (hplt j hji) hoj hdj, hval j oj t hj (hpl j hji) hoj hdj, hrr j hji]
        · rw [hs.1 fun j oj hj hoj hd => hex ⟨j, oj, by omega, hoj, hd⟩, hold t fun j oj hj _ hoj hd => hex ⟨j, oj, hj, hoj, hd⟩]
      have hst := hop i oi (fun j => listed.getD j false) β w hoi hik hun' hpl s
      refine opJ_wpOp (e := e') hoi (bOk_select (bOk_of hok hoi)) hst.1 hst.2 hsame fun v w' hxx => ?_
      obtain ⟨x, rfl, hm⟩ := hxx
      have hset : ∀ j, (listed.setIfInBounds i true).getD j false = if i = j then true else listed.getD j false := fun j => by
        by_cases hij : i = j
        · subst hij; simp [hilt']
        · rw [getD_set_ne false hij, if_neg hij]
      have hri : restr (i :: pl i) (setF β i x) = setF (restr (i :: pl i) β) i x := restr_set List.mem_cons_self
      have hrj : ∀ j, j < k → listed.getD j false = true → restr (j :: pl j) (setF β i x) = restr (j :: pl j) β := fun j hj hl => restr_set_not fun hm => by
        rcases List.mem_cons.1 hm with rfl | hm
        · rw [hun'] at hl; cases hl
        · have := hcl j hj hl i hm
          rw [hun'] at this
          cases this
      refine ih _ (setF β i x) _ w' (by simpa using hsz) ?_ (fun j hj => ?_) (fun j hj hl m hm => ?_) (fun j oj d hj hl hoj hdj => ?_) (fun t ht => ?_) ?_
      · rw [count_set hilt' hun', if_pos hilt]; omega
      · rw [hset, if_neg (by omega)]; exact hrest j hj
      · rw [hset] at hl ⊢
        by_cases hij : i = j
        · subst hij
          split
          · rfl
          · exact hpl m hm
        · rw [if_neg hij] at hl
          split
          · rfl
          · exact hcl j hj hl m hm
      · rw [hset] at hl
        by_cases hij : i = j
        · subst hij
          rw [hoi] at hoj
          injection hoj with hoj
          subst hoj
          rw [hdj, hri]
          show upd e' d _ d = _
          rw [upd_apply, if_pos rfl]
        · rw [if_neg hij] at hl
          have := hval j oj d hj hl hoj hdj
          rw [hrj j hj hl]
          cases hdi : oi.dst with
          | none => exact this
          | some d' =>
            show upd e' d' _ d = _
            rw [upd_apply, if_neg]
            · exact this
            · intro heq
              subst heq
              exact hij (huniq i j oi oj d hik hj hoi hoj hdi hdj)
      · have h1 : e' t = e t := hold t fun j oj hj hl hoj => ht j oj hj (by rw [hset, hl]; split <;> rfl) hoj
        have h2 := ht i oi hik (by rw [hset, if_pos rfl]) hoi
        cases hdi : oi.dst with
        | none => exact h1
        | some d' =>
          show upd e' d' _ t = e t
          rw [upd_apply, if_neg]
          · exact h1
          · intro heq
            exact h2 (by rw [hdi, heq])
      · have hls : (fun j => (listed.setIfInBounds i true).getD j false) = setB (fun j => listed.getD j false) i := funext fun j => hset j
        rw [hls]
        exact hm
    · have hlist : ∀ i, i < k → listed.getD i false = true := fun i hi => by
        cases hb : listed.getD i false with
        | true => rfl
        | false => exact absurd ⟨i, hi, hb⟩ hfirst
      have hcount : listedCount listed ops.size = k := by rw [hsplit listed _ hrest hlist]; omega
      exact finish (fuel + 1) listed β e' w hsz (by omega) hrest hlist hval hold s


/-- A REGION THAT DRAWS: the first k operations in whatever order, under an invariant J of what is held; then the rest. -/
theorem gc_blockJ {id : Nat} {l : List Oper} (X : Type) [Inhabited X] (k : Nat) (pl : Nat → List Nat) (V : Nat → (Nat → X) → Value) (J : (Nat → Bool) → (Nat → X) → World → Prop) (hm : P.follows .mixedOrders = true) (hok : blockOk l.toArray k pl = true)
    (h0 : ∀ w, St w0 L w → J (fun _ => false) (fun _ => default) w)
    (hop : ∀ (i : Nat) (o : Oper) (ls : Nat → Bool) (β : Nat → X) (w : World), l[i]? = some o → i < k → ls i = false → (∀ j ∈ pl i, ls j = true) → J ls β w → wantedE N l.toArray (envAt e (l.take i) (vals pl V i (restr (i :: pl i) β))) o = true ∧
      StepG P (ev N (envAt e (l.take i) (vals pl V i (restr (i :: pl i) β)))) o w fun v w' => ∃ x, v = V i (setF (restr (i :: pl i) β) i x) ∧ J (setB ls i) (setF β i x) w')
    (htail : ∀ (ls : Nat → Bool) (β : Nat → X) (w : World), (∀ i, i < k → ls i = true) → J ls β w → wpList P l.toArray Q (l.drop k) (mk N (envAt e (l.take k) (vals pl V k β))) w) : GC P Q N w0 L (.region id l.toArray true) e := ⟨fun w s => by
  refine wp_region_any hm (any_blockJ (X := X) (V := V) (J := J) (k := k) (pl := pl) (e := e) hok (fun i o ls β w hi => hop i o ls β w (by simpa using hi)) htail l.toArray.size _ (fun _ => default) e _ (by simp) ?_ ?_ ?_ ?_ (fun _ _ => rfl) ?_)
  · have : listedCount (Array.replicate l.toArray.size false) l.toArray.size = 0 := by
      unfold listedCount
      rw [List.length_eq_zero_iff, List.filter_eq_nil_iff]
      intro i _
      by_cases hi : i < l.length <;> simp [hi]
    omega
  · intro i _
    by_cases hi : i < l.length <;> simp [hi]
  · intro i _ hl'
    by_cases hi : i < l.length <;> simp [hi] at hl'
  · intro i o d _ hl'
    by_cases hi : i < l.length <;> simp [hi] at hl'
  · have hf : (fun j => (Array.replicate l.toArray.size false).getD j false) = fun _ => false := by
      funext j
      by_cases hi : j < l.length <;> simp [hi]
    rw [hf]
    exact h0 _ (s.ext (Ext.drawn w _))⟩
theorem stepG_bslice1 {t el sz : Nat} {z v : Value} [CSlice P t el sz] [CZero P el z] {d : Nat} {q : Operand} {ty : TypeId} {pos : String} {af : Array Edge} {g : Option (Nat × Bool)} (hq : ev N e q = v)
    (hv : v.cells.size = sz) (hsz : Nat.ble sz 1000 = true) (hpos : Nat.blt 0 sz = true) {w : World} (s : St w0 L w) :
    StepG P (ev N e) ⟨some d, .buildSlice t 1 #[(0, q)], ty, pos, af, g⟩ w fun u w' => ∃ b, u = .slice (some ⟨b, 0, none⟩) 1 1 ∧ St w0 (Box b el v.cells :: L) w' := by
  have ht := CSlice.h (P := P) (t := t) (el := el) (sz := sz)
  have hz := CZero.h (P := P) (t := el) (z := z)
  unfold sliceSz at ht
  split at ht
  · rename_i el' hu
    obtain ⟨i, hinfo, heq⟩ := Option.map_eq_some_iff.1 ht
    injection heq with e1 e2
    subst e1 e2
    obtain ⟨i', hi', hzi⟩ := Option.bind_eq_some_iff.1 hz
    rw [hinfo] at hi'
    injection hi' with hi'
    subst hi'
    have hle := Nat.le_of_ble_eq_true hsz
    have hp : 0 < i.size := by rw [Nat.blt_eq] at hpos; exact hpos
    have hr := run_buildSlice (P := P) w t el' 1 #[(0, v)] v.cells i z hu hinfo hzi (by omega) (by omega) (fill_one (by simp) hv)
    have hrun2 : (execOp (ev N e) ⟨some d, .buildSlice t 1 #[(0, q)], ty, pos, af, g⟩).run P w = .ok (.value (.slice (some ⟨w.heap.size, 0, none⟩) 1 1)) (w.alloc (.cells v.cells el')) := by
      unfold execOp
      simp [hq, hr]
    unfold StepG
    rw [hrun2]
    exact ⟨w.heap.size, rfl, s.box el' _⟩
  · cases ht
theorem detG {E : Env} {c : Value} {φ : Value → World → Prop} {w : World} (hd : Det P ops N w0 L o E c) (hw : wantedE N ops E o = true) (s : St w0 L w) (k : ∀ w', Ext w w' → φ c w') : wantedE N ops E o = true ∧ StepG P (ev N E) o w φ := by
  refine ⟨hw, ?_⟩
  rcases hd with ⟨_, h⟩ | ⟨h, _⟩
  · have h1 := h w s
    unfold Step at h1
    unfold StepG
    split at h1
    · rename_i v w' hr
      rw [hr]
      show φ v w'
      rw [h1.2]
      exact k _ h1.1
    · rename_i w' hr
      rw [hr]
      show φ undef w'
      rw [h1.2]
      exact k _ h1.1
    · rename_i hr
      rw [hr]
      exact h1.2.mono fun v w' hx hv => by rw [hv]; exact k _ (h1.1.trans hx)
    · exact h1.elim
  · rw [hw] at h; cases h
theorem stepG_append {t el sz : Nat} {z : Value} {by_ : Nat} {x y : Operand} {L' : List Res} [CSlice P t el sz] [CZero P el z] [CBytes P el by_] {n c m c' : Nat} {A B : Option Addr} {d : Nat} {ty : TypeId} {pos : String} {af : Array Edge} {g : Option (Nat × Bool)} {xs news : List Value}
    (hx : ev N e x = .slice A n c) (hy : ev N e y = .slice B m c')
    (hp : Pick L (Own A n c el sz xs) L') (hl : news.length = m * sz) (hB : ∀ w, St w0 L w → 0 < m → ∃ ad, B = some ad ∧ ∀ j u, news[j]? = some u → w.cell? (ad.add j) = some u) (h1 : ∀ u ∈ news, u.oneCell' = true)
    (h63 : n + m ≤ maxLen) (hbytes : (n + m) * by_ ≤ 140737488355328) (hsz : 0 < sz) (hzs : z.cells.size = sz) {w : World} (s : St w0 L w) :
    StepG P (ev N e) ⟨some d, .call { callee := .builtin .append, args := #[x, y], argTypes := #[t, t] }, ty, pos, af, g⟩ w fun u w' => ∃ A' c'', u = .slice A' (n + m) c'' ∧ St w0 (Own A' (n + m) c'' el sz (xs ++ news) :: L') w' := by
  have ht := CSlice.h (P := P) (t := t) (el := el) (sz := sz)
  have hz := CZero.h (P := P) (t := el) (z := z)
  have hby := CBytes.h (P := P) (t := el) (n := by_)
  unfold sliceSz at ht
  split at ht
  · rename_i el' hu
    obtain ⟨i, hinfo, heq⟩ := Option.map_eq_some_iff.1 ht
    injection heq with e1 e2
    subst e1 e2
    obtain ⟨i', hi', hzi⟩ := Option.bind_eq_some_iff.1 hz
    rw [hinfo] at hi'
    injection hi' with hi'
    subst hi'
    unfold bytesB at hby
    rw [hinfo] at hby
    have hby' : i.bytes = by_ := by simpa using hby
    subst hby'
    have s1 := s.pick hp
    have hown : w.ownsRow 0 el' i.size (.slice A n c) n xs := s1.head
    have hrun : ∃ v' w', (Builtin.append_ #[t, t] ty #[.slice A n c, .slice B m c']).run P w = .ok v' w' ∧ w'.ownsRow 0 el' i.size v' (n + m) (xs ++ news) ∧ w.grownBy w' (Value.slice A n c).ownBlock ∧
        (v'.ownBlock = (Value.slice A n c).ownBlock ∨ v'.ownBlock = some w.heap.size) := by
      rcases Nat.eq_zero_or_pos m with h0 | h0
      · subst h0
        have hn : news = [] := List.eq_nil_of_length_eq_zero (by simpa using hl)
        subst hn
        refine ⟨.slice A n c, w, ?_, by simpa using hown, ⟨rfl, rfl, rfl, Nat.le_refl _, fun _ _ _ => rfl⟩, .inl rfl⟩
        rcases hown.2 with ⟨hv, rfl⟩ | ⟨g', cap, cur, hv, _, _, hnc, _⟩
        · injection hv with ha hn hc
          subst ha hc
          cases B <;> simp [Builtin.append_, run_underlying hu, sizeOf, typeInfo, hinfo, Builtin.lenOf, Builtin.firstCells, loadCells, loadCellsFrom]
        · injection hv with ha hn hc
          subst ha hc
          cases B <;> simp [Builtin.append_, run_underlying hu, sizeOf, typeInfo, hinfo, Builtin.lenOf, Builtin.firstCells, hnc, storeCells, loadCells, loadCellsFrom]
      · obtain ⟨ad, rfl, hcells⟩ := hB w s h0
        obtain ⟨v', w', hr, h2, h3, _, h5⟩ := run_append_own_at (P := P) w 0 t ty el' i z i.size i.bytes hu hinfo hzi rfl rfl hzs hsz (.slice A n c) n xs hown ad m c' news hl hcells h1 h63 hbytes (Nat.zero_le _)
        exact ⟨v', w', hr, h2, h3, h5⟩
    obtain ⟨v', w', hr, h2, h3, h4⟩ := hrun
    obtain ⟨A', c'', rfl⟩ : ∃ A' c'', v' = .slice A' (n + m) c'' := by
      rcases h2.2 with ⟨hv, h0⟩ | ⟨g', cap, cur, hv, _⟩
      · exact ⟨none, 0, by rw [hv, h0]⟩
      · exact ⟨_, _, hv⟩
    have hrun2 : (execOp (ev N e) ⟨some d, .call { callee := .builtin .append, args := #[x, y], argTypes := #[t, t] }, ty, pos, af, g⟩).run P w = .ok (.value (.slice A' (n + m) c'')) w' := by
      unfold execOp
      simp [hx, hy, resolve, invoke, builtin, hr]
    unfold StepG
    rw [hrun2]
    refine ⟨A', c'', rfl, s1.turn (r' := Own A' (n + m) c'' el' i.size (xs ++ news)) h3.size h3.os h3.tape h3.output (fun b hb hnb => h3.block b hb fun he => hnb he.symm) h2 fun b hb => ?_⟩
    have hb' : (Value.slice A' (n + m) c'').ownBlock = some b := hb
    rcases h4 with h4 | h4
    · exact .inl (h4.symm.trans hb')
    · rw [h4] at hb'
      injection hb' with hb'
      subst hb'
      exact .inr ⟨Nat.le_refl _, (h2.lt _ h4).2⟩
  · cases ht
theorem StepG.mono {ρ : Operand → Value} {w : World} {φ ψ : Value → World → Prop} (h : StepG P ρ o w φ) (k : ∀ v w', φ v w' → ψ v w') : StepG P ρ o w ψ := by
  unfold StepG at *
  split at h
  · exact k _ _ h
  · exact k _ _ h
  · exact Ok.mono h fun v w' _ hv => k v w' hv
  · exact h.elim
end
end Go.Proofs.YtljibjlkjelpbaaGreatDoor

/- Maps whose keys are structs of integers. No program in sight. -/
namespace Go.Proofs.YtljibjlkjelpbaaGreatDoor
open Go.RowKit
section
variable {κ : Type} [DecidableEq κ] {P : Program} {kt n : Nat} [CInts P kt n] {f : κ → List Int}
def kInts (f : κ → List Int) (k : κ) : Value := .agg ((f k).map (Value.int .i64)).toArray
theorem run_equal_ints {w : World} {xs ys : List Int} (hx : xs.length = n) (hy : ys.length = n) : (Op.equal kt (.agg (xs.map (Value.int .i64)).toArray) (.agg (ys.map (Value.int .i64)).toArray)).run P w = .ok (decide (xs = ys)) w := by
  have h := run_eq_ints (P := P) (t := kt) (n := n) (d := 9998) (w := w) hx hy
  unfold Op.equal
  exact h.1
theorem find_asking (hn : ∀ k, (f k).length = n) (hi : ∀ a b, f a = f b → a = b) (k : κ) (w : World) : ∀ (es : List MapEntry) (l : List (κ × Value)) (i : Nat), es.map (fun e => (e.key, e.val)) = l.map (fun p => (kInts f p.1, p.2)) →
    (Instr.findAsking kt (kInts f k) es i).run P w = .ok ((l.findIdx? (fun p => decide (k = p.1))).map fun j => (i + j, ((l[j]?).map (·.2)).getD undef)) w
  | [], [], i, _ => rfl
  | [], _ :: _, _, h => by simp at h
  | _ :: _, [], _, h => by simp at h
  | e :: es, p :: l, i, h => by
    simp only [List.map_cons, List.cons.injEq, Prod.mk.injEq] at h
    obtain ⟨⟨h1, h2⟩, h3⟩ := h
    have ih := find_asking hn hi k w es l (i + 1) h3
    unfold Instr.findAsking
    rw [h1]
    have he := run_equal_ints (P := P) (kt := kt) (w := w) (hn k) (hn p.1)
    unfold kInts at he ih ⊢
    simp only [Sem.run_bind, he, Result.andThen_ok, List.findIdx?_cons]
    by_cases hk : k = p.1
    · subst hk
      simp [h2]
    · have : ¬ f k = f p.1 := fun hc => hk (hi _ _ hc)
      simp only [decide_eq_false this, decide_eq_false hk, Bool.false_eq_true, if_false]
      rw [ih]
      cases l.findIdx? (fun p => decide (k = p.1)) with
      | none => rfl
      | some j => simp [Nat.add_assoc, Nat.add_comm 1 j]
theorem fields_check {em : Bool} {d : Nat} {w : World} (xs : List Int) : ∀ (fs : List Field) (k : Nat), (∀ (j : Nat) (g : Field), fs[j]? = some g → g.name ≠ "_" ∧ g.offset = k + j ∧ P.underlying g.type = some (.int .i64)) → k + fs.length = xs.length →
    (forIn (m := Sem) fs PUnit.unit fun g _ =>
      if g.name ≠ "_" then do
        let p ← part g.type (xs.map (Value.int .i64)).toArray g.offset
        Instr.checkKey em (d + 1) g.type p
        pure (ForInStep.yield PUnit.unit)
      else pure (ForInStep.yield PUnit.unit)).run P w = .ok () w
  | [], k, _, hk => by simp
  | g :: fs, k, hf, hk => by
    obtain ⟨h1, h2, h3⟩ := hf 0 g rfl
    simp only [Nat.add_zero] at h2
    simp only [List.length_cons] at hk
    have hkx : k < xs.length := by omega
    have ih := fields_check (em := em) (d := d) (w := w) xs fs (k + 1) (fun j g hg => by
      have := hf (j + 1) g (by simpa using hg)
      exact ⟨this.1, by omega, this.2.2⟩) (by omega)
    have p1 : (part g.type (xs.map (Value.int .i64)).toArray g.offset).run P w = .ok (.int .i64 xs[k]) w := part_int h3 (by rw [h2]; simp [hkx])
    have c1 : (Instr.checkKey em (d + 1) g.type (.int .i64 xs[k])).run P w = .ok () w := by
      unfold Instr.checkKey
      simp [run_underlying h3]
    rw [List.forIn_cons]
    simp only [Sem.run_bind, if_pos h1, p1, c1, Result.andThen_ok, Sem.run_pure]
    exact ih
theorem structLaw (hn : ∀ k, (f k).length = n) (hi : ∀ a b, f a = f b → a = b) : KeyLaw P kt (kInts f) := by
  have h := CInts.h (P := P) (t := kt) (n := n)
  unfold intStruct at h
  split at h
  · rename_i fs hu
    split at h
    · rename_i hc
      injection h with h
      simp only [Bool.and_eq_true, Bool.not_eq_true', List.all_eq_true] at hc
      refine ⟨fun k l es w he => ?_, fun em k w => ?_, fun k => ?_⟩
      · unfold Instr.findKey
        simp only [Sem.run_bind, run_underlying hu, Result.andThen_ok]
        cases es with
        | nil =>
          cases l with
          | nil => rfl
          | cons => simp at he
        | cons e es =>
          have hk : e.key = kInts f ((l.head?.map (·.1)).getD k) := by
            cases l with
            | nil => simp at he
            | cons p l =>
              simp only [List.map_cons, List.cons.injEq, Prod.mk.injEq] at he
              exact he.1.1
          have hno : Instr.findNow (.struct fs) (kInts f k) (e :: es) 0 = none := by
            unfold Instr.findNow
            rw [hk]
            rfl
          rw [hno]
          have := find_asking (P := P) (kt := kt) (n := n) hn hi k w (e :: es) l 0 he
          simp only [Nat.zero_add] at this
          exact this
      · have hck := fields_check (P := P) (em := em) (d := 9998) (w := w) (f k) fs.toList 0 (fun j g hj => by
          have hmem : (g, j) ∈ fs.toList.zipIdx := by
            rw [List.mem_iff_getElem?]
            exact ⟨j, by simp [hj]⟩
          have h1 := hc.1.1 (g, j) hmem
          simp only [bne_iff_ne, beq_iff_eq] at h1
          refine ⟨h1.1.1, by omega, ?_⟩
          have h2 := h1.2
          split at h2
          · assumption
          · cases h2) (by have := hn k; simp; omega)
        have : (10000 : Nat) = 9999 + 1 := rfl
        rw [this]
        unfold Instr.checkKey kInts
        simp only [Sem.run_bind, run_underlying hu, Result.andThen_ok]
        rw [← Array.forIn_toList]
        change (((forIn fs.toList PUnit.unit _ : Sem PUnit).run P w).andThen fun a w' => (pure () : Sem Unit).run P w') = _
        refine (congrArg (fun z => Result.andThen z fun a w' => (pure () : Sem Unit).run P w') hck).trans ?_
        rfl
      · unfold kInts
        have : (10000 : Nat) = 9999 + 1 := rfl
        rw [this]
        unfold Instr.sameBits
        simp only [beq_self_eq_true, Bool.true_and, List.all_eq_true]
        intro p hp
        obtain ⟨a, b⟩ := p
        have hab : a = b := by
          obtain ⟨j, hj, hx⟩ := List.getElem_of_mem hp
          rw [List.getElem_zip] at hx
          injection hx with h1 h2
          rw [← h1, ← h2]
        subst hab
        have ha := (List.of_mem_zip hp).1
        obtain ⟨i, _, rfl⟩ := List.mem_map.1 ha
        show Instr.sameBits (9998 + 1) (.int .i64 i) (.int .i64 i) = true
        simp [Instr.sameBits]
    · cases h
  · cases h
end

/-! ### Rows of structs, owned -/
section
variable {P : Program} {ops : Array Oper} {Q : Exit → Act → World → Prop} {N : Nat} {w0 : World} {L L' : List Res} {rest : List Oper} {e : Env} {o : Oper} {t : TypeId} {x : Operand} {v : Value} {n : Nat}
theorem w_load_rowN [CAgg P t n] {b i : Nat} {bt : TypeId} {cs : Array Value} {l : List Value} (hop : o.op = .load t x) (hw : wantedE N ops e o = true) (hx : ev N e x = .pointer (some ((⟨b, 0, none⟩ : Addr).add i))) (hp : Pick L (Box b bt cs) L') (hc : (cs.toList.drop i).take n = l) (hn : l.length = n) :
    Det P ops N w0 L o e (.agg l.toArray) := w_load_part (i := i) hop hw (by rw [hx, add_zero]) hp hc hn
theorem w_load_rowF [CNotAgg P t] {b i j : Nat} {ty : TypeId} {cs : Array Value} (hop : o.op = .load t x) (hw : wantedE N ops e o = true) (hx : ev N e x = .pointer (some (((⟨b, 0, none⟩ : Addr).add i).add j))) (hp : Pick L (Box b ty cs) L') (hc : cs[i + j]? = some v) : Det P ops N w0 L o e v :=
  w_load_row hop hw (by rw [hx, add_add]) hp hc
end
theorem cells_chunk {α : Type} {enc : α → List Value} {sz n : Nat} {cs : Array Value} {l : List α} (h : cs.toList.take (n * sz) = l.flatMap enc) (hl : ∀ x ∈ l, (enc x).length = sz) (hn : n = l.length) {k : Nat} (hk : k < l.length) : (cs.toList.drop (k * sz)).take sz = enc l[k] := by
  have he := hl _ (List.getElem_mem hk)
  apply List.ext_getElem?
  intro j
  rw [List.getElem?_take]
  by_cases hj : j < sz
  · rw [if_pos hj, List.getElem?_drop, ← flat_get l hl k hk j hj, ← h, List.getElem?_take, if_pos]
    subst hn
    have : (k + 1) * sz ≤ l.length * sz := Nat.mul_le_mul_right _ hk
    rw [Nat.add_mul, Nat.one_mul] at this
    omega
  · rw [if_neg hj, List.getElem?_eq_none (by omega)]
theorem cells_at {α : Type} {enc : α → List Value} {sz n : Nat} {cs : Array Value} {l : List α} (h : cs.toList.take (n * sz) = l.flatMap enc) (hl : ∀ x ∈ l, (enc x).length = sz) (hn : n = l.length) {k : Nat} (hk : k < l.length) (j : Nat) (hj : j < sz) : cs[k * sz + j]? = (enc l[k])[j]? := by
  rw [← cells_chunk h hl hn hk, List.getElem?_take, if_pos hj, List.getElem?_drop, Array.getElem?_toList]
/-! ### Reading an owned row without opening it -/
section
variable {P : Program} {ops : Array Oper} {Q : Exit → Act → World → Prop} {N : Nat} {w0 : World} {L L' : List Res} {rest : List Oper} {e : Env} {o : Oper} {t : TypeId} {x ix : Operand} {v : Value} {n c el sz : Nat} {A : Option Addr} {xs : List Value}
def adr (A : Option Addr) : Addr := A.getD ⟨0, 0, none⟩
theorem own_some {w : World} {el' : TypeId} {sz' : Nat} (s : St w0 L w) (hp : Pick L (Own A n c el' sz' xs) L') (hn : 0 < n) : ∃ g cs, A = some ⟨g, 0, none⟩ ∧ w.heap[g]? = some (.cells cs el' (0, 0)) ∧ cs.toList.take (n * sz') = xs := by
  have hown : w.ownsRow 0 el' sz' (.slice A n c) n xs := (s.pick hp).head
  rcases hown.2 with ⟨_, h0⟩ | ⟨g, cap, cur, hv, _, hg, h1, h2, h3, h4⟩
  · omega
  · injection hv with e1 e2 e3
    subst e1 e3
    exact ⟨g, cur, rfl, hg, h4⟩
theorem own_cell {w : World} {el' : TypeId} {sz' i : Nat} {u : Value} (s : St w0 L w) (hp : Pick L (Own A n c el' sz' xs) L') (hn : 0 < n) (hu : xs[i]? = some u) : w.cell? ((adr A).add i) = some u := by
  obtain ⟨g, cs, rfl, hg, ht⟩ := own_some s hp hn
  show w.cell? ((⟨g, 0, none⟩ : Addr).add i) = some u
  rw [add_zero]
  simp only [World.cell?, hg]
  rw [← ht, List.getElem?_take] at hu
  split at hu
  · simpa using hu
  · cases hu
theorem w_indexO [CSlice P t el sz] {el' : TypeId} {sz' m : Nat} {k : IntKind} {z : Int} (hop : o.op = .indexAddr t x ix) (hw : wantedE N ops e o = true) (hx : ev N e x = .slice A n c) (hi : ev N e ix = .int k z) (hz : z = (m : Int)) (hm : m < n) (hp : Pick L (Own A n c el' sz' xs) L') :
    Det P ops N w0 L o e (.pointer (some ((adr A).add (m * sz)))) :=
  .inl ⟨hw, fun w s => by
    obtain ⟨g, cs, rfl, _, _⟩ := own_some s hp (by omega)
    rcases w_index (P := P) (ops := ops) (N := N) (w0 := w0) (L := L) (e := e) (o := o) hop hw hx hi hz hm with h | h
    · exact h.2 w s
    · rw [hw] at h; cases h.1⟩
theorem w_loadOF [CNotAgg P t] {el' : TypeId} {sz' i j : Nat} (hop : o.op = .load t x) (hw : wantedE N ops e o = true) (hx : ev N e x = .pointer (some (((adr A).add i).add j))) (hp : Pick L (Own A n c el' sz' xs) L') (hn : 0 < n) (hc : xs[i + j]? = some v) : Det P ops N w0 L o e v :=
  det_load hop hw hx fun w s => run_loadVar1 CNotAgg.h (by rw [add_add]; exact own_cell s hp hn hc)
theorem w_loadO [CNotAgg P t] {el' : TypeId} {sz' i : Nat} (hop : o.op = .load t x) (hw : wantedE N ops e o = true) (hx : ev N e x = .pointer (some ((adr A).add i))) (hp : Pick L (Own A n c el' sz' xs) L') (hn : 0 < n) (hc : xs[i]? = some v) : Det P ops N w0 L o e v :=
  det_load hop hw hx fun _w s => run_loadVar1 CNotAgg.h (own_cell s hp hn hc)
theorem w_loadON {n' : Nat} [CAgg P t n'] {el' : TypeId} {sz' i : Nat} {l : List Value} (hop : o.op = .load t x) (hw : wantedE N ops e o = true) (hx : ev N e x = .pointer (some ((adr A).add i))) (hp : Pick L (Own A n c el' sz' xs) L') (hn : 0 < n) (hc : ∀ j u, l[j]? = some u → xs[i + j]? = some u) (hl : l.length = n') : Det P ops N w0 L o e (.agg l.toArray) :=
  det_load hop hw hx fun w s => run_loadVarN (by rw [hl]; exact CAgg.h) fun j u hu => by rw [add_add]; exact own_cell s hp hn (hc j u hu)
end
theorem flat_at {α : Type} {enc : α → List Value} {sz : Nat} {l : List α} (hl : ∀ x ∈ l, (enc x).length = sz) {k : Nat} (hk : k < l.length) : ∀ j u, (enc l[k])[j]? = some u → (l.flatMap enc)[k * sz + j]? = some u := fun j u hu => by
  have hj : j < (enc l[k]).length := (List.getElem?_eq_some_iff.1 hu).1
  rw [flat_get l hl k hk j (by rw [← hl _ (List.getElem_mem hk)]; exact hj)]
  exact hu
end Go.Proofs.YtljibjlkjelpbaaGreatDoor
