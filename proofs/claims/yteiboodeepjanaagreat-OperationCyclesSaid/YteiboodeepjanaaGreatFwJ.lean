/- Calls that give fresh memory, conversions and shifts, results in variables, and rules for drawn regions that make memory. No program in sight. -/
import Derived.Test.YteiboodeepjanaaGreatFwI
namespace Go.Proofs.YteiboodeepjanaaGreat
open Go.RowKit

/-- A call whose result is fresh: V x for some x, and R x is made. -/
def OkM {X : Type} (P : Program) (f : FuncId) (args : Array Value) (w : World) (V : X → Value) (R : X → List Res) : Prop :=
  Ok P f args w fun v w' => ∃ x, v = V x ∧ Made w (R x) w'

section
variable {P : Program} {ops : Array Oper} {Q : Exit → Act → World → Prop} {N : Nat} {w0 : World} {L L' : List Res} {rest : List Oper} {e : Env} {o : Oper} {t : TypeId} {x y ix : Operand} {a : Addr} {v z : Value} {n m : Nat}
variable {d : Nat} {op : Op} {ty : TypeId} {pos : String} {af : Array Edge} {g : Option (Nat × Bool)}

theorem step_call {X : Type} {f : FuncId} [CCall P f] {as : Array Operand} {ts : Array TypeId} {l : List Value} {V : X → Value} {R : X → List Res} {w : World} (hop : o.op = .call { callee := .value (.func f), args := as, argTypes := ts }) (hl : as.toList.map (ev N e) = l)
    (hC : OkM P f l.toArray w V R) : Step P (ev N e) o w fun v w' => ∃ x, v = V x ∧ Made w (R x) w' := by
  unfold Step
  rw [run_call hop CCall.h hl]
  exact ⟨Ext.refl _, hC⟩

/-- A call with a fresh result, in order. -/
theorem gw_callm {X : Type} {f : FuncId} [CCall P f] {as : Array Operand} {ts : Array TypeId} {l : List Value} {V : X → Value} {R : X → List Res} (hw : wantedE N ops e ⟨some d, .call { callee := .value (.func f), args := as, argTypes := ts }, ty, pos, af, g⟩ = true)
    (hC : ∀ w, St w0 L w → OkM P f l.toArray w V R) (hl : as.toList.map (ev N e) = l) (k : ∀ x, GW P ops Q N w0 (R x ++ L) rest (upd e d (V x))) :
    GW P ops Q N w0 L (⟨some d, .call { callee := .value (.func f), args := as, argTypes := ts }, ty, pos, af, g⟩ :: rest) e := ⟨fun w s =>
  wl_step hw (step_call rfl hl (hC w s)) fun v w' x ⟨y, hv, hm⟩ => by subst hv; exact (k y).h w' (s.adds x hm)⟩

/-! ### Conversions, shifts, copies of nothing -/
theorem det_conv {t2 : TypeId} {k k' k0 : IntKind} {i r : Int} [CInt P t2 k'] [CInt P t k0] (hop : o.op = .convert t t2 x) (hw : wantedE N ops e o = true) (hx : ev N e x = .int k i) (hr : k'.wrap i = r) : Det P ops N w0 L o e (.int k' r) :=
  det_pure hw fun w => by
    have h := CInt.h (P := P) (t := t2) (k := k')
    unfold intKindB at h
    split at h
    · rename_i k2 hu
      injection h with h
      subst h hr
      have h0 := CInt.h (P := P) (t := t) (k := k0)
      unfold intKindB at h0
      split at h0
      · rename_i k1 hu1
        unfold execOp
        simp [hop, hx, convert, run_underlying hu, run_underlying hu1, Conv.intToInt]
      · cases h0
    · cases h

theorem det_shr {k k' : IntKind} {i j r : Int} {yt : TypeId} (hop : o.op = .binOp .shr t x y yt) (hw : wantedE N ops e o = true) (hx : ev N e x = .int k i) (hy : ev N e y = .int k' j) (hj : 0 ≤ j) (hr : i.fdiv (2 ^ (min j.toNat k.bits)) = r) : Det P ops N w0 L o e (.int k r) :=
  det_pure hw fun w => by
    have : ¬ j < 0 := by omega
    unfold execOp
    simp [hop, hx, hy, binOp, Op.shift, this, hr, eqGuard]

/-- copy into a slice that holds nothing. -/
theorem det_copy0 [CSlice P t n m] {A B : Option Addr} {c k c' : Nat} (hop : o.op = .call { callee := .builtin .copy, args := #[x, y], argTypes := #[t, t] }) (hw : wantedE N ops e o = true) (hx : ev N e x = .slice A 0 c) (hy : ev N e y = .slice B k c') : Det P ops N w0 L o e (.int .i64 0) :=
  det_pure hw fun w => by
    have ht := CSlice.h (P := P) (t := t) (el := n) (sz := m)
    unfold sliceSz at ht
    split at ht
    · rename_i el' hu
      obtain ⟨i, hinfo, heq⟩ := Option.map_eq_some_iff.1 ht
      injection heq with h1 h2
      subst h1 h2
      unfold execOp
      cases A <;> cases B <;> simp [hop, hx, hy, resolve, invoke, builtin, Builtin.copy_, run_underlying hu, Builtin.lenOf, Builtin.firstCells, sizeOf, typeInfo, hinfo, loadCells, loadCellsFrom, storeCells, goInt]
    · cases ht

/-! ### Results that lie in a variable -/
theorem gx_retc [CAgg P t n] {fn : Func} {φ : Value → World → Prop} {b r : Nat} {bt : TypeId} {cs : Array Value} (hres : fn.results = #[.cell r t]) (hv : ev N e (.tmp r) = .pointer (some ⟨b, 0, none⟩)) (hp : Pick L (Box b bt cs) L') (hn : cs.size = n) (h : ∀ w, St w0 L w → φ (.agg cs) w) :
    GX (Post P fn w0 φ) N w0 L .ret e :=
  gx_ret (fun w s => by
    have hl := run_loadVarN (P := P) (t := t) (cs := cs.toList) (a := ⟨b, 0, none⟩) (w := w) (by rw [Array.length_toList, hn]; exact CAgg.h) fun j u hu => by
      have hadd : (⟨b, 0, none⟩ : Addr).add j = ⟨b, j, none⟩ := by unfold Addr.add; split <;> simp_all
      rw [hadd, Box.cell (s.pick hp).head j]
      simpa using hu
    have hg : (mk N e).tmps.getD r undef = .pointer (some ⟨b, 0, none⟩) := by rw [mk_getD]; exact hv
    simp only [Array.getD_eq_getD_getElem?] at hg
    simp [results, hres, hg, asAddr, hl]) h

/-- A load of a struct that is a part of a variable. -/
theorem w_load_part [CAgg P t n] {b i : Nat} {bt : TypeId} {cs : Array Value} {l : List Value} (hop : o.op = .load t x) (hw : wantedE N ops e o = true) (hx : ev N e x = .pointer (some ⟨b, i, none⟩)) (hp : Pick L (Box b bt cs) L') (hc : (cs.toList.drop i).take n = l) (hn : l.length = n) :
    Det P ops N w0 L o e (.agg l.toArray) :=
  det_load hop hw hx fun w s => by
    have h := run_loadVarN (P := P) (t := t) (cs := l) (a := ⟨b, i, none⟩) (w := w) (by rw [hn]; exact CAgg.h) fun j u hu => by
      have hadd : (⟨b, i, none⟩ : Addr).add j = ⟨b, i + j, none⟩ := by unfold Addr.add; split <;> simp_all
      rw [hadd, Box.cell (s.pick hp).head (i + j)]
      subst hc
      rw [List.getElem?_take] at hu
      split at hu
      · rw [List.getElem?_drop] at hu
        simpa using hu
      · cases hu
    exact h

/-! ### Drawn regions that make memory -/
variable {X : Type} [Inhabited X] {pl : Nat → List Nat} {tail : ((Nat → X) → Env) → (Nat → (Nat → X) → List Res) → Prop} {i : Nat} {E : (Nat → X) → Env} {RL : Nat → (Nat → X) → List Res}

theorem gb_d {V : (Nat → X) → Value} (hd : ∀ γ, Det P ops N w0 ((pl i).flatMap (RL · γ) ++ L) ⟨some d, op, ty, pos, af, g⟩ (E γ) (V γ)) (h1 : ∀ γ x, V (setF γ i x) = V γ) (h2 : ∀ β, V (restr (i :: pl i) β) = V β)
    (k : GB P ops N w0 L pl tail (i + 1) rest (fun β => upd (E β) d (V β)) (fun j β => bif Nat.beq j i then [] else RL j β)) : GB P ops N w0 L pl tail i (⟨some d, op, ty, pos, af, g⟩ :: rest) E RL := by
  refine GB.cons V (fun _ => []) (fun γ => ?_) ?_
  · rcases hd γ with ⟨hw, hs⟩ | ⟨hw, hv⟩
    · refine .inl ⟨hw, fun w s => ?_⟩
      have := hs w s
      unfold Step at this ⊢
      split at this
      · exact ⟨this.1, default, by rw [h1]; exact this.2, trivial⟩
      · exact ⟨this.1, default, by rw [h1]; exact this.2, trivial⟩
      · exact ⟨this.1, this.2.mono fun v w' _ hv => ⟨default, by rw [h1]; exact hv, trivial⟩⟩
      · exact this.elim
    · exact .inr ⟨hw, hv, rfl⟩
  · have he : (fun β => updO (E β) (⟨some d, op, ty, pos, af, g⟩ : Oper).dst (V (restr (i :: pl i) β))) = fun β => upd (E β) d (V β) := by
      funext β; rw [h2]; rfl
    rw [he]
    exact k

/-- A call with a fresh result, in whatever order. -/
theorem gb_call {f : FuncId} [CCall P f] {as : Array Operand} {ts : Array TypeId} {l : (Nat → X) → List Value} (V : (Nat → X) → X → Value) (R : (Nat → X) → X → List Res) (hw : ∀ γ, wantedE N ops (E γ) ⟨some d, .call { callee := .value (.func f), args := as, argTypes := ts }, ty, pos, af, g⟩ = true)
    (hC : ∀ γ w, St w0 ((pl i).flatMap (RL · γ) ++ L) w → OkM P f (l γ).toArray w (V γ) (R γ)) (hl : ∀ γ, as.toList.map (ev N (E γ)) = l γ) (h1 : ∀ γ x, V (setF γ i x) = V γ ∧ R (setF γ i x) = R γ) (h2 : ∀ β, V (restr (i :: pl i) β) = V β ∧ R (restr (i :: pl i) β) = R β)
    (k : GB P ops N w0 L pl tail (i + 1) rest (fun β => upd (E β) d (V β (β i))) (fun j β => bif Nat.beq j i then R β (β i) else RL j β)) :
    GB P ops N w0 L pl tail i (⟨some d, .call { callee := .value (.func f), args := as, argTypes := ts }, ty, pos, af, g⟩ :: rest) E RL := by
  refine GB.cons (fun γ => V γ (γ i)) (fun γ => R γ (γ i)) (fun γ => .inl ⟨hw γ, fun w s => ?_⟩) ?_
  · have h := step_call (o := ⟨some d, .call { callee := .value (.func f), args := as, argTypes := ts }, ty, pos, af, g⟩) rfl (hl γ) (hC γ w s)
    have hs : ∀ x, setF γ i x i = x := fun x => by rw [setF_apply, if_pos rfl]
    unfold Step at h ⊢
    split at h
    · obtain ⟨h3, x, h4, h5⟩ := h
      exact ⟨h3, x, by show _ = V _ (setF γ i x i); rw [(h1 γ x).1, hs]; exact h4, by show Made w (R _ (setF γ i x i)) _; rw [(h1 γ x).2, hs]; exact h5⟩
    · obtain ⟨h3, x, h4, h5⟩ := h
      exact ⟨h3, x, by show _ = V _ (setF γ i x i); rw [(h1 γ x).1, hs]; exact h4, by show Made w (R _ (setF γ i x i)) _; rw [(h1 γ x).2, hs]; exact h5⟩
    · exact ⟨h.1, h.2.mono fun v w' _ ⟨x, h4, h5⟩ => ⟨x, by show _ = V _ (setF γ i x i); rw [(h1 γ x).1, hs]; exact h4, by show Made w (R _ (setF γ i x i)) _; rw [(h1 γ x).2, hs]; exact h5⟩⟩
    · exact h.elim
  · have hr : ∀ β : Nat → X, restr (i :: pl i) β i = β i := fun β => by unfold restr; simp
    have he : (fun β => updO (E β) (⟨some d, .call { callee := .value (.func f), args := as, argTypes := ts }, ty, pos, af, g⟩ : Oper).dst (V (restr (i :: pl i) β) (restr (i :: pl i) β i))) = fun β => upd (E β) d (V β (β i)) := by
      funext β; rw [(h2 β).1, hr]; rfl
    have hRR : (fun j β => bif Nat.beq j i then R (restr (i :: pl i) β) (restr (i :: pl i) β i) else RL j β) = fun j β => bif Nat.beq j i then R β (β i) else RL j β := by
      funext j β; rw [(h2 β).2, hr]
    rw [he, hRR]
    exact k
end
end Go.Proofs.YteiboodeepjanaaGreat
