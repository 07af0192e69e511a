/- Structs of integers held against each other, calls of function values, slices of spots. No program in sight. -/
import Derived.Test.YteiboodeepjanaaGreatFwG
namespace Go.Proofs.YteiboodeepjanaaGreat
open Go.RowKit

section
variable {P : Program} {ops : Array Oper} {Q : Exit → Act → World → Prop} {N : Nat} {w0 : World} {L L' : List Res} {rest : List Oper} {e : Env} {o : Oper} {t : TypeId} {x y ix : Operand} {a : Addr} {v z : Value} {n : Nat}

/-! ### Equality of structs of integers -/
theorem equalIn_int {d : Nat} {ft : TypeId} {i j : Int} {w : World} (hu : P.underlying ft = some (.int .i64)) : (Op.equalIn (d + 1) ft (.int .i64 i) (.int .i64 j)).run P w = .ok (i == j) w := by
  simp [Op.equalIn, run_underlying hu]

theorem part_int {ft : TypeId} {cs : Array Value} {off : Nat} {w : World} (hu : P.underlying ft = some (.int .i64)) (hc : cs[off]? = some v) : (part ft cs off).run P w = .ok v w := by
  simp [part, isAgg, run_underlying hu, hc]

/-- What the model's loop over the fields gives. -/
theorem fields_eq {d : Nat} {w : World} (xs ys : List Int) (hlen : xs.length = ys.length) : ∀ (fs : List Field) (k : Nat), (∀ (j : Nat) (f : Field), fs[j]? = some f → f.name ≠ "_" ∧ f.offset = k + j ∧ P.underlying f.type = some (.int .i64)) → k + fs.length = xs.length →
    (forIn (m := Sem) fs ((none, ()) : Option Bool × Unit) fun f _ =>
      if f.name ≠ "_" then do
        let p ← part f.type (xs.map (Value.int .i64)).toArray f.offset
        let q ← part f.type (ys.map (Value.int .i64)).toArray f.offset
        let r ← Op.equalIn (d + 1) f.type p q
        if (!r) = true then pure (ForInStep.done (some false, ())) else pure (ForInStep.yield (none, ()))
      else pure (ForInStep.yield (none, ()))).run P w = .ok (if xs.drop k = ys.drop k then none else some false, ()) w
  | [], k, _, hk => by
    have h1 : xs.drop k = [] := List.drop_eq_nil_of_le (by simp at hk; omega)
    have h2 : ys.drop k = [] := List.drop_eq_nil_of_le (by simp at hk; omega)
    simp [h1, h2]
  | f :: fs, k, hf, hk => by
    obtain ⟨h1, h2, h3⟩ := hf 0 f rfl
    simp only [Nat.add_zero] at h2
    simp only [List.length_cons] at hk
    have hkx : k < xs.length := by omega
    have hky : k < ys.length := by omega
    have ih := fields_eq (d := d) (w := w) xs ys hlen fs (k + 1) (fun j g hg => by
      have := hf (j + 1) g (by simpa using hg)
      exact ⟨this.1, by omega, this.2.2⟩) (by omega)
    have p1 : (part f.type (xs.map (Value.int .i64)).toArray f.offset).run P w = .ok (.int .i64 xs[k]) w := part_int h3 (by rw [h2]; simp [hkx])
    have p2 : (part f.type (ys.map (Value.int .i64)).toArray f.offset).run P w = .ok (.int .i64 ys[k]) w := part_int h3 (by rw [h2]; simp [hky])
    rw [List.forIn_cons]
    simp only [Sem.run_bind, if_pos h1, p1, p2, Result.andThen_ok, equalIn_int h3]
    rw [List.drop_eq_getElem_cons hkx, List.drop_eq_getElem_cons hky]
    by_cases he : xs[k] = ys[k]
    · simp only [he, beq_self_eq_true, Bool.not_true, Bool.false_eq_true, if_false, Sem.run_pure, Result.andThen_ok, List.cons.injEq, true_and]
      exact ih
    · have hb : (xs[k] == ys[k]) = false := by simpa using he
      have hd : ¬ (xs[k] :: xs.drop (k + 1) = ys[k] :: ys.drop (k + 1)) := fun h => by injection h with h _; exact he h
      rw [if_neg hd]
      simp [hb]

theorem run_eq_ints [CInts P t n] {d : Nat} {w : World} {xs ys : List Int} (hx : xs.length = n) (hy : ys.length = n) :
    (Op.equalIn (d + 2) t (.agg (xs.map (Value.int .i64)).toArray) (.agg (ys.map (Value.int .i64)).toArray)).run P w = .ok (decide (xs = ys)) w ∧ P.eqGuardType P.depth t = false := by
  have h := CInts.h (P := P) (t := t) (n := n)
  unfold intStruct at h
  split at h
  · rename_i fs hu
    split at h
    · rename_i hc
      injection h with h
      simp only [Bool.and_eq_true, Bool.not_eq_true', List.all_eq_true] at hc
      refine ⟨?_, hc.2⟩
      have hf := fields_eq (P := P) (d := d) (w := w) xs ys (by omega) fs.toList 0 (fun j f hj => by
        have hmem : (f, j) ∈ fs.toList.zipIdx := by
          rw [List.mem_iff_getElem?]
          exact ⟨j, by simp [hj]⟩
        have h1 := hc.1.1 (f, j) hmem
        simp only [Bool.and_eq_true, bne_iff_ne, beq_iff_eq] at h1
        refine ⟨h1.1.1, by omega, ?_⟩
        have h2 := h1.2
        split at h2
        · assumption
        · cases h2) (by simp; omega)
      unfold Op.equalIn
      simp only [Sem.run_bind, run_underlying hu, Result.andThen_ok]
      rw [← Array.forIn_toList]
      have hprog : (program).run P w = .ok P w := rfl
      simp only [hprog, Result.andThen_ok, hc.1.2, Bool.false_eq_true, if_false, Sem.run_bind]
      rw [hf]
      simp only [List.drop_zero, Result.andThen_ok]
      by_cases he : xs = ys <;> simp [he]
    · cases h
  · cases h

theorem w_eqs [CInts P t n] {xs ys : List Int} {yt : TypeId} (hop : o.op = .binOp .eql t x y yt) (hw : wantedE N ops e o = true) (hx : ev N e x = .agg (xs.map (Value.int .i64)).toArray) (hy : ev N e y = .agg (ys.map (Value.int .i64)).toArray) (h1 : xs.length = n) (h2 : ys.length = n) :
    Det P ops N w0 L o e (.bool (decide (xs = ys))) :=
  det_pure hw fun w => by
    have h := fun w => run_eq_ints (P := P) (t := t) (n := n) (d := 9998) (w := w) h1 h2
    unfold execOp
    simp only [hop, hx, hy, eqGuard, binOp]
    simp [Op.equal, Op.maxDepth, (h w).1, (h w).2, program, Sem.run]
theorem w_nes [CInts P t n] {xs ys : List Int} {yt : TypeId} (hop : o.op = .binOp .neq t x y yt) (hw : wantedE N ops e o = true) (hx : ev N e x = .agg (xs.map (Value.int .i64)).toArray) (hy : ev N e y = .agg (ys.map (Value.int .i64)).toArray) (h1 : xs.length = n) (h2 : ys.length = n) :
    Det P ops N w0 L o e (.bool (decide (¬ xs = ys))) :=
  det_pure hw fun w => by
    have h := fun w => run_eq_ints (P := P) (t := t) (n := n) (d := 9998) (w := w) h1 h2
    unfold execOp
    simp only [hop, hx, hy, eqGuard, binOp]
    simp [Op.equal, Op.maxDepth, (h w).1, (h w).2, program, Sem.run]
theorem w_eq2 [CInts P t 2] {a1 a2 b1 b2 : Int} {yt : TypeId} (hop : o.op = .binOp .eql t x y yt) (hw : wantedE N ops e o = true) (hx : ev N e x = .agg #[.int .i64 a1, .int .i64 a2]) (hy : ev N e y = .agg #[.int .i64 b1, .int .i64 b2]) : Det P ops N w0 L o e (.bool (decide ((a1, a2) = (b1, b2)))) :=
  det_eq (w_eqs (n := 2) (xs := [a1, a2]) (ys := [b1, b2]) hop hw hx hy rfl rfl) (by congr 1; simp)
theorem w_ne2 [CInts P t 2] {a1 a2 b1 b2 : Int} {yt : TypeId} (hop : o.op = .binOp .neq t x y yt) (hw : wantedE N ops e o = true) (hx : ev N e x = .agg #[.int .i64 a1, .int .i64 a2]) (hy : ev N e y = .agg #[.int .i64 b1, .int .i64 b2]) : Det P ops N w0 L o e (.bool (decide (¬ (a1, a2) = (b1, b2)))) :=
  det_eq (w_nes (n := 2) (xs := [a1, a2]) (ys := [b1, b2]) hop hw hx hy rfl rfl) (by congr 1; simp)

/-! ### Calls of a function value -/
theorem w_callv {f : FuncId} [CCall P f] {fo : Operand} {as : Array Operand} {ts : Array TypeId} {l : List Value} {r : Value} {fst cap : Array Value} (hop : o.op = .call { callee := .value fo, args := as, argTypes := ts }) (hw : wantedE N ops e o = true)
    (hf : ev N e fo = .func (.func f) fst cap) (hC : ∀ w, St w0 L w → Ok P f l.toArray w fun v _ => v = r) (hl : fst.toList ++ as.toList.map (ev N e) ++ cap.toList = l) : Det P ops N w0 L o e r :=
  det_enter (f := f) (args := l.toArray) hw (fun w => by
    have hcf := CCall.h (P := P) (f := f)
    have hargs : fst ++ as.map (ev N e) ++ cap = l.toArray := by rw [← hl]; apply Array.ext'; simp
    unfold callable at hcf
    split at hcf
    · rename_i fn hfn
      rw [Bool.and_eq_true, Bool.not_eq_true', Bool.not_eq_true'] at hcf
      have h1 : ¬ fn.name = "runtime.NumGoroutine" := by simpa using hcf.1
      have h2 : ¬ fn.body = none := fun h => by rw [h] at hcf; cases hcf.2
      unfold execOp
      simp [hop, resolve, hf, Deferred.ofValue, invoke, callFunc, program, hfn, h1, h2, hargs, Sem.run]
    · cases hcf) hC

/-! ### Spots -/
def rSpot : Rp (Int × Int) where
  size := 2
  rep _ _ p cs := cs = [.int .i64 p.1, .int .i64 p.2] ∧ inI64 p.1 ∧ inI64 p.2
  len h := by rw [h.1]; rfl
  mono _ h := h
  grow _ h := h
theorem Sl.spot {w : World} {B : Nat} {v : Value} {l : List (Int × Int)} (h : Sl rSpot w B v l) : ∃ A c, v = .slice A l.length c ∧ l.length ≤ c ∧ l.length ≤ 9223372036854775807 ∧
    ∀ k (hk : k < l.length), ∃ ad, A = some ad ∧ ad.block < B ∧ (∀ j u, [Value.int .i64 l[k].1, Value.int .i64 l[k].2][j]? = some u → w.cell? (ad.add (k * 2 + j)) = some u) ∧ inI64 l[k].1 ∧ inI64 l[k].2 := by
  obtain ⟨A, c, hv, h1, h2, h3⟩ := h
  refine ⟨A, c, hv, h1, by unfold maxLen at h2; omega, fun k hk => ?_⟩
  obtain ⟨ad, cs, ha, hlt, hc, hr⟩ := h3 k hk
  obtain ⟨rfl, hr1, hr2⟩ := hr
  exact ⟨ad, ha, hlt, hc, hr1, hr2⟩

/-! ### Parts of slices -/
theorem Sl.take {α : Type} {R : Rp α} {w : World} {B : Nat} {A : Option Addr} {n c : Nat} {l : List α} (h : Sl R w B (.slice A n c) l) {m : Nat} (hm : m ≤ l.length) : Sl R w B (.slice A m c) (l.take m) := by
  obtain ⟨A', c', hv, h1, h2, h3⟩ := h
  injection hv with e1 e2 e3
  subst e1 e3
  refine ⟨A, c, by rw [List.length_take, Nat.min_eq_left hm], by rw [List.length_take]; omega, h2, fun k hk => ?_⟩
  have hk' : k < l.length := by rw [List.length_take] at hk; omega
  obtain ⟨ad, cs, ha, hlt, hc, hr⟩ := h3 k hk'
  exact ⟨ad, cs, ha, hlt, hc, by rw [List.getElem_take]; exact hr⟩

/-- A store of a whole struct into its variable. -/
theorem w_store_all [CSize P t n] {b : Nat} {bt ty : TypeId} {cs vs : Array Value} {pos : String} {af : Array Edge} {g : Option (Nat × Bool)} (hw : wantedE N ops e ⟨none, .store t x y, ty, pos, af, g⟩ = true) (hx : ev N e x = .pointer (some ⟨b, 0, none⟩)) (hy : ev N e y = .agg vs) (hn : vs.size = n)
    (h1 : vs.toList.all (·.oneCell') = true) (hp : Pick L (Box b bt cs) L') (hcs : cs.size = n) (k : GW P ops Q N w0 (Box b bt vs :: L') rest e) : GW P ops Q N w0 L (⟨none, .store t x y, ty, pos, af, g⟩ :: rest) e :=
  w_store (v := .agg vs) hw hx hy hn h1 hp (by rw [Nat.zero_add, hcs]; exact Nat.ble_eq_true_of_le (Nat.le_refl _)) (by
    show (cs.toList.take 0 ++ vs.toList ++ cs.toList.drop (0 + n)).toArray = vs
    rw [List.drop_eq_nil_of_le (by simp; omega)]
    simp) k
end
end Go.Proofs.YteiboodeepjanaaGreat
