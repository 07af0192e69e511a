/- The examples of the chapter: how they are built. -/
import Derived.Test.YteiboodeepjanaaGreatC23
namespace Go.Proofs.YteiboodeepjanaaGreat
open Go.RowKit
set_option maxRecDepth 100000
set_option maxHeartbeats 2000000

section
variable {P : Program} {ops : Array Oper} {N : Nat} {w0 : World} {L : List Res} {rest : List Oper} {t : TypeId} {x y : Operand} {z : Value} {el sz by_ d : Nat} {ty : TypeId} {pos : String} {af : Array Edge} {g : Option (Nat × Bool)}
variable {X : Type} [Inhabited X] {pl : Nat → List Nat} {tail : ((Nat → X) → Env) → (Nat → (Nat → X) → List Res) → Prop} {i : Nat} {E : (Nat → X) → Env} {RL : Nat → (Nat → X) → List Res}
theorem gb_makeN [CSlice P t el sz] [CZero P el z] [CBytes P el by_] {n : Nat} {kl kc : IntKind} {l c : Int} {cells : Array Value} (inj : Nat → X) (bk : X → Nat) (hbk : ∀ b, bk (inj b) = b) (hw : ∀ γ, wantedE N ops (E γ) ⟨some d, .makeSlice t x y, ty, pos, af, g⟩ = true)
    (hx : ∀ γ, ev N (E γ) x = .int kl l) (hy : ∀ γ, ev N (E γ) y = .int kc c) (hl : l = (n : Int)) (hc : c = (n : Int)) (hb : by_ * n ≤ 281474976710656) (hn : n ≤ 9223372036854775807) (hm : madeCells z.cells (n * sz) = cells)
    (k : GB P ops N w0 L pl tail (i + 1) rest (fun β => upd (E β) d (.slice (some ⟨bk (β i), 0, none⟩) n n)) (fun j β => bif Nat.beq j i then [Box (bk (β i)) el cells] else RL j β)) :
    GB P ops N w0 L pl tail i (⟨some d, .makeSlice t x y, ty, pos, af, g⟩ :: rest) E RL := by
  subst hm
  refine gb_make (V := fun _ x => .slice (some ⟨bk x, 0, none⟩) n n) (R := fun _ x => [Box (bk x) el (madeCells z.cells (n * sz))]) (fun γ => ⟨hw γ, fun w s => ?_⟩) (fun _ _ => ⟨rfl, rfl⟩) (fun _ => ⟨rfl, rfl⟩) k
  have ht := CSlice.h (P := P) (t := t) (el := el) (sz := sz)
  have hz := CZero.h (P := P) (t := el) (z := z)
  have hby := CBytes.h (P := P) (t := el) (n := by_)
  unfold sliceSz at ht
  split at ht
  · rename_i el' hu
    obtain ⟨i, hinfo, heq⟩ := Option.map_eq_some_iff.1 ht
    injection heq with h1 h2
    subst h1 h2 hl hc
    obtain ⟨i', hi', hzi⟩ := Option.bind_eq_some_iff.1 hz
    rw [hinfo] at hi'
    injection hi' with hi'
    subst hi'
    unfold bytesB at hby
    rw [hinfo] at hby
    have hby' : i.bytes = by_ := by simpa using hby
    subst hby'
    have hr := run_make (P := P) w t el' i z hu hinfo hzi kl kc n n (by omega) (by omega) (by
      have : ((i.bytes * n : Nat) : Int) ≤ 281474976710656 := by omega
      rwa [Int.natCast_mul] at this) (by omega)
    simp only [Int.toNat_natCast] at hr
    have hr2 : (execOp (ev N (E γ)) ⟨some d, .makeSlice t x y, ty, pos, af, g⟩).run P w = .ok (.value (.slice (some ⟨w.heap.size, 0, none⟩) n n)) (w.alloc (.cells (madeCells z.cells (n * i.size)) el')) := by
      unfold execOp
      simp [hx, hy, hr]
    unfold Step
    rw [hr2]
    exact ⟨ext_alloc w _, inj w.heap.size, by rw [hbk], by rw [hbk]; exact made_box w el' _⟩
  · cases ht
end

/-! ### Reading what was built -/
def RepsFrom {α : Type} (R : Rp α) (w : World) : List α → List Value → Prop
  | [], _ => True
  | x :: l, cs => R.rep w (fun b => b < w.heap.size) x (cs.take R.size) ∧ RepsFrom R w l (cs.drop R.size)
theorem reps_at {α : Type} {R : Rp α} {w : World} : ∀ {l : List α} {cs : List Value}, RepsFrom R w l cs → ∀ k (hk : k < l.length), R.rep w (fun b => b < w.heap.size) l[k] ((cs.drop (k * R.size)).take R.size)
  | x :: l, cs, h, 0, _ => by simpa using h.1
  | x :: l, cs, h, k + 1, hk => by
    have := reps_at h.2 k (by simpa using hk)
    rw [List.drop_drop] at this
    rwa [show R.size + k * R.size = (k + 1) * R.size by rw [Nat.succ_mul]; omega] at this
theorem Sl.ofCells {α : Type} {R : Rp α} {w : World} {b n c : Nat} {cs : Array Value} {ty : TypeId} {l : List α} (hb : w.heap[b]? = some (.cells cs ty (0, 0))) (hn : n = l.length) (hc : n ≤ c) (hc2 : c ≤ 1000) (h : RepsFrom R w l cs.toList) : Sl R w w.heap.size (.slice (some ⟨b, 0, none⟩) n c) l := by
  subst hn
  refine ⟨_, c, rfl, hc, by unfold maxLen; omega, fun k hk => ⟨⟨b, 0, none⟩, _, rfl, (Array.getElem?_eq_some_iff.1 hb).1, fun j u hu => ?_, reps_at h k hk⟩⟩
  rw [add_zero]
  simp only [World.cell?, hb]
  rw [List.getElem?_take] at hu
  split at hu
  · rw [List.getElem?_drop] at hu
    simpa using hu
  · cases hu
theorem Sl.nil {α : Type} (R : Rp α) (w : World) : Sl R w w.heap.size (.slice none 0 0) ([] : List α) := ⟨none, 0, rfl, Nat.le_refl _, Nat.zero_le _, fun k hk => by cases hk⟩

/-! ### Four operations -/
def sJoin : ByteArray := ⟨#[106, 111, 105, 110]⟩
def sHem : ByteArray := ⟨#[104, 101, 109]⟩
def sCuff : ByteArray := ⟨#[99, 117, 102, 102]⟩
def sLabel : ByteArray := ⟨#[108, 97, 98, 101, 108]⟩
def fourCells (b1 b3 : Nat) : Array Value := #[.string sJoin, .int .i64 0, .int .i64 300, .slice (some ⟨b1, 0, none⟩) 1 1, .slice none 0 0, .string sHem, .int .i64 0, .int .i64 100, .slice (some ⟨b3, 0, none⟩) 1 1, .slice none 0 0,
  .string sCuff, .int .i64 0, .int .i64 200, .slice none 0 0, .slice none 0 0, .string sLabel, .int .i64 0, .int .i64 50, .slice none 0 0, .slice none 0 0]
def fourR (x : Nat × Nat × Nat) : List Res := [Box x.2.2 46 (fourCells x.1 x.2.1), Box x.2.1 3 #[.int .i64 0], Box x.1 3 #[.int .i64 2]]
def fourL : List Opn := [⟨sJoin, 0, 300, [2], []⟩, ⟨sHem, 0, 100, [0], []⟩, ⟨sCuff, 0, 200, [], []⟩, ⟨sLabel, 0, 50, [], []⟩]
theorem four_ok (w : World) : OkM Tryz.prog 30 [].toArray w (fun x => .slice (some ⟨x.2.2, 0, none⟩) 4 4) fourR := by
  unfold OkM
  refine ok_enter Tryz.func30 rfl Tryz.ntmps30 rfl ?_
  focus (refine gc_seq ?_; refine gc_region ?_; apply gw_d; exact det_m rfl rfl (by conv => (lhs; whnf)); refine gw_nil ?_; refine gx_next ?_; refine gc_seq ?_; refine gc_region ?_)
  refine gw_bslice1 (v := .int .i64 2) rfl rfl rfl rfl rfl (fun b1 => ?_)
  focus (apply gw_d; exact w_build (cells := #[.string sJoin, .int .i64 0, .int .i64 300, .slice (some ⟨b1, 0, none⟩) 1 1, .slice none 0 0]) rfl rfl (by rfl))
  refine gw_bslice1 (v := .int .i64 0) rfl rfl rfl rfl rfl (fun b3 => ?_)
  focus (apply gw_d; exact w_build (cells := #[.string sHem, .int .i64 0, .int .i64 100, .slice (some ⟨b3, 0, none⟩) 1 1, .slice none 0 0]) rfl rfl (by rfl); apply gw_d; exact w_build (cells := #[.string sCuff, .int .i64 0, .int .i64 200, .slice none 0 0, .slice none 0 0]) rfl rfl (by rfl); apply gw_d; exact w_build (cells := #[.string sLabel, .int .i64 0, .int .i64 50, .slice none 0 0, .slice none 0 0]) rfl rfl (by rfl))
  refine gw_bslice (cells := fourCells b1 b3) rfl ?_ ?_ ?_ (fun b7 => ?_)
  · rfl
  · rfl
  · kernel_rfl
  focus (apply gw_d; exact det_m rfl rfl (by conv => (lhs; whnf)); refine gw_nil ?_; refine gx_next ?_; refine gc_ret ?_)
  exact gx_ret1 rfl rfl fun w s => ⟨(b1, b3, b7), rfl, s.sep⟩
theorem inI {i : Int} (h : decide (-9223372036854775808 ≤ i ∧ i ≤ 9223372036854775807) = true) : inI64 i := by unfold inI64; exact of_decide_eq_true h
theorem four_sl {w0 w : World} {L : List Res} {x : Nat × Nat × Nat} (s : St w0 (fourR x ++ L) w) : Sl rOp w w.heap.size (.slice (some ⟨x.2.2, 0, none⟩) 4 4) fourL := by
  have h1 : w.heap[x.2.2]? = some (.cells (fourCells x.1 x.2.1) 46 (0, 0)) := s.head
  have h2 : w.heap[x.2.1]? = some (.cells #[.int .i64 0] 3 (0, 0)) := s.drop.head
  have h3 : w.heap[x.1]? = some (.cells #[.int .i64 2] 3 (0, 0)) := s.drop.drop.head
  have a1 : Sl rInt w w.heap.size (.slice (some ⟨x.1, 0, none⟩) 1 1) [2] := Sl.ofCells h3 rfl (by decide) (by decide) ⟨⟨rfl, inI rfl⟩, trivial⟩
  have a2 : Sl rInt w w.heap.size (.slice (some ⟨x.2.1, 0, none⟩) 1 1) [0] := Sl.ofCells h2 rfl (by decide) (by decide) ⟨⟨rfl, inI rfl⟩, trivial⟩
  refine Sl.ofCells h1 rfl (by decide) (by decide) ⟨⟨_, _, _, _, rfl, ⟨by decide, inI rfl, inI rfl⟩, a1, Sl.nil _ _⟩, ⟨_, _, _, _, rfl, ⟨by decide, inI rfl, inI rfl⟩, a2, Sl.nil _ _⟩, ⟨_, _, _, _, rfl, ⟨by decide, inI rfl, inI rfl⟩, Sl.nil _ _, Sl.nil _ _⟩, ⟨_, _, _, _, rfl, ⟨by decide, inI rfl, inI rfl⟩, Sl.nil _ _, Sl.nil _ _⟩, trivial⟩
end Go.Proofs.YteiboodeepjanaaGreat
