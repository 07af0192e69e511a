/- Contracts: critical sums, precedence. -/
import Derived.Test.YteiboodeepjanaaGreatC20
namespace Go.Proofs.YteiboodeepjanaaGreat
open Go.RowKit
set_option maxRecDepth 100000
set_option maxHeartbeats 2000000

/-! ### Plain facts -/
theorem arr_mem {l : List Opn} : ∀ (f : Nat) (o : List Int), (∀ x ∈ o, 0 ≤ x ∧ x < l.length) → ∀ x ∈ arr l f o, 0 ≤ x ∧ x < l.length
  | 0, o, h => h
  | f + 1, o, h => by
    show ∀ x ∈ (match nextOf l o with | some i => arr l f (o ++ [(i : Int)]) | none => o), _
    cases hn : nextOf l o with
    | none => exact h
    | some i =>
      have hi : i < l.length := List.mem_range.1 (List.mem_of_find?_eq_some hn)
      refine arr_mem f _ fun x hx => ?_
      rcases List.mem_append.1 hx with h1 | h1
      · exact h x h1
      · rw [List.mem_singleton] at h1; omega
theorem sorted_mem {l : List Opn} : ∀ x ∈ sortedL l, 0 ≤ x ∧ x < l.length := arr_mem _ _ fun x hx => by cases hx
theorem row_set {α : Type} (f : α → Value) {l : List α} {m : Nat} (hm : m < l.length) (x : α) : ((l.map f).toArray.toList.take (m * 1) ++ [f x] ++ (l.map f).toArray.toList.drop (m * 1 + 1)).toArray = ((l.set m x).map f).toArray := by
  rw [Nat.mul_one, List.map_set, List.set_eq_take_append_cons_drop, if_pos (by simpa using hm)]
  simp
theorem row_get {α : Type} (f : α → Value) {l : List α} (d : α) {m : Nat} (hm : m < l.length) : (l.map f).toArray[m * 1]? = some (f (l.getD m d)) := by
  simp [hm]
theorem row_make {α : Type} (f : α → Value) (n : Nat) (x : α) : Array.replicate n (f x) = ((List.replicate n x).map f).toArray := by
  rw [List.map_replicate]
  simp
structure Good (l : List Opn) : Prop where
  le : l.length ≤ 16
  op : ∀ i, i < l.length → opE l (-1) i = 0
  full : (sortedL l).length = l.length
theorem list_good {l : List Opn} (he : listE l (-1) = 0) : Good l := by
  have h16 : ¬ 16 < l.length := fun h => by unfold listE at he; rw [if_pos h] at he; cases he
  have hI0 : firstE (opE l (-1)) l.length = 0 := by
    unfold listE at he
    rw [if_neg h16] at he
    split at he
    · rename_i h1; exact absurd he h1
    · rename_i h1; simpa using h1
  refine ⟨by omega, firstE_at hI0, ?_⟩
  unfold listE at he
  rw [if_neg h16, if_neg (by rw [hI0]; decide)] at he
  split at he
  · rename_i h1
    exact of_decide_eq_true h1
  · cases he
theorem Good.one {l : List Opn} (h : Good l) {i : Nat} (hi : i < l.length) : (1 ≤ l[i].minutes ∧ l[i].minutes ≤ 10000) ∧ ∀ x ∈ l[i].after, 0 ≤ x ∧ x < l.length := by
  have h1 := h.op i hi
  unfold opE at h1
  rw [List.getElem?_eq_getElem hi] at h1
  dsimp only at h1
  split at h1
  · cases h1
  · split at h1
    · cases h1
    · split at h1
      · cases h1
      · rename_i h2
        split at h1
        · cases h1
        · rename_i h3
          refine ⟨by omega, areIx_at ?_⟩
          cases hb : areIx l[i].after l.length with
          | true => rfl
          | false => exact absurd (.inl hb) h3
theorem Good.after {l : List Opn} (h : Good l) (i : Nat) : ∀ x ∈ afterOf l i, 0 ≤ x ∧ x < l.length := by
  by_cases hi : i < l.length
  · rw [afterOf_get hi]; exact (h.one hi).2
  · unfold afterOf
    rw [List.getElem?_eq_none (by omega)]
    intro x hx
    cases hx

/-! ### Precedence -/
def precStep (a : Int) (i : Nat) (bs : List Bool) (p : Int) : List Bool := if p = a ∨ bs.getD p.toNat false = true then bs.set i true else bs
def precIn (a : Int) (i : Nat) (bs : List Bool) (ps : List Int) : List Bool := ps.foldl (precStep a i) bs
def precs (l : List Opn) (a : Int) (o : List Int) : List Bool := o.foldl (fun bs i => precIn a i.toNat bs (afterOf l i.toNat)) (List.replicate l.length false)
theorem precStep_len (a : Int) (i : Nat) (bs : List Bool) (p : Int) : (precStep a i bs p).length = bs.length := by
  unfold precStep
  split
  · simp
  · rfl
theorem precIn_len (a : Int) (i : Nat) (ps : List Int) : ∀ bs, (precIn a i bs ps).length = bs.length := by
  induction ps with
  | nil => intro bs; rfl
  | cons p ps ih => intro bs; exact (ih _).trans (precStep_len a i bs p)
theorem precs_len (l : List Opn) (a : Int) (o : List Int) : (precs l a o).length = l.length := by
  unfold precs
  suffices h : ∀ (o : List Int) (bs : List Bool), (o.foldl (fun bs i => precIn a i.toNat bs (afterOf l i.toNat)) bs).length = bs.length by rw [h]; simp
  intro o
  induction o with
  | nil => intro bs; rfl
  | cons x o ih => intro bs; exact (ih _).trans (precIn_len _ _ _ _)
theorem precs_snoc {l : List Opn} {a : Int} {o : List Int} {k : Nat} (hk : k < o.length) : precs l a (o.take (k + 1)) = precIn a o[k].toNat (precs l a (o.take k)) (afterOf l o[k].toNat) := by
  unfold precs
  rw [List.take_succ_eq_append_getElem hk, List.foldl_append]
  rfl
theorem precIn_snoc {a : Int} {i : Nat} {bs : List Bool} {ps : List Int} {k : Nat} (hk : k < ps.length) : precIn a i bs (ps.take (k + 1)) = precStep a i (precIn a i bs (ps.take k)) ps[k] := by
  unfold precIn
  rw [List.take_succ_eq_append_getElem hk, List.foldl_append]
  rfl

theorem preceded_ok (w : World) (v vo : Value) (l : List Opn) (o : List Int) (a : Int) (hl : Sl rOp w w.heap.size v l) (ho : Sl rInt w w.heap.size vo o) (h16 : l.length ≤ 16) (hom : ∀ x ∈ o, 0 ≤ x ∧ x < l.length) (haf : ∀ i, ∀ x ∈ afterOf l i, 0 ≤ x ∧ x < l.length) :
    OkM Tryz.prog 38 [v, vo, .int .i64 a].toArray w (fun b => .slice (some ⟨b, 0, none⟩) l.length l.length) (fun b => [Box b 4 ((precs l a o).map Value.bool).toArray]) := by
  obtain ⟨A0, c0, rfl, hc, hm⟩ := len_small hl
  obtain ⟨A1, c1, rfl, hoc, hom2, hocell⟩ := ho.int
  unfold OkM
  refine ok_enter Tryz.func38 rfl Tryz.ntmps38 rfl ?_
  focus (refine gc_seq ?_; refine gc_region ?_; apply gw_d; exact det_m rfl rfl (by conv => (lhs; whnf)); refine gw_nil ?_; refine gx_next ?_; refine gc_seq ?_; refine gc_region ?_; apply gw_d; exact det_m rfl rfl (by conv => (lhs; whnf)); apply gw_d; exact w_len rfl rfl rfl)
  refine gw_make1 (n := l.length) rfl rfl rfl rfl rfl (by omega) (by omega) rfl (fun b => ?_)
  rw [show Array.replicate l.length ((Value.bool false).cells.getD 0 undef) = ((precs l a (o.take 0)).map Value.bool).toArray from row_make Value.bool l.length false]
  focus (apply gw_d; exact det_m rfl rfl (by conv => (lhs; whnf)); refine gw_nil ?_; refine gx_next ?_; refine gc_seq ?_; refine gc_seq ?_; refine gc_region ?_; apply gw_d; exact det_m rfl rfl (by conv => (lhs; whnf)); apply gw_d; exact w_len rfl rfl rfl; apply gw_d; exact det_m rfl rfl (by conv => (lhs; whnf)); refine gw_nil ?_; refine gx_next ?_; refine gc_block ?_)
  refine gc_loop (σ := Nat) [18, 19, 20, 9, 21, 22, 23, 24, 25, 26, 27, 28, 29, 30, 11, 31, 32, 33, 34, 35, 36, 37, 38, 39, 40, 41, 42, 43, 44, 17] (fun k => [(17, .int .i64 k)]) (fun k => [Box b 4 ((precs l a (o.take k)).map Value.bool).toArray]) (fun k => k ≤ o.length) (fun k => o.length - k) 0 (Nat.zero_le _) ⟨rfl, trivial⟩ (.cons .here .nil) ?_
  rintro k base hk
  focus (refine gc_seq ?_; refine gc_region ?_; apply gw_d; exact det_cmp rfl rfl rfl rfl rfl; refine gw_nil ?_; refine gx_next ?_; refine gc_seq ?_)
  refine gc_if_dec rfl (fun h => ?_) (fun h => ?_)
  · have hlt : k < o.length := by omega
    obtain ⟨ad1, rfl, hb1, hce1, _⟩ := hocell k hlt
    have hok := hom o[k] (List.getElem_mem hlt)
    obtain ⟨i, hi⟩ : ∃ i : Nat, o[k] = (i : Int) := ⟨o[k].toNat, by omega⟩
    have hil : i < l.length := by omega
    have hsn := precs_snoc (l := l) (a := a) hlt
    rw [hi] at hce1 hsn
    rw [Int.toNat_natCast, afterOf_get hil] at hsn
    obtain ⟨ad, _, hv, _, _, hb, hcell⟩ := hl.at' 5 rfl (by omega)
    injection hv with e1 e2 e3
    subst e1 e3
    obtain ⟨cs, hce, Aa, ca, Au, cu, rfl, _, q1, q2⟩ := hcell i hil
    have hce3 := hce 3 _ rfl
    have ha : Sl rInt w w.heap.size (.slice Aa l[i].after.length ca) l[i].after := q1
    obtain ⟨_, _, hv, hac, ham, hacell⟩ := ha.int
    injection hv with e1 e2 e3
    subst e1 e3
    have hpl := precs_len l a (o.take k)
    generalize precs l a (o.take k) = bs at hsn hpl ⊢
    focus (refine gc_skip ?_; refine gx_next ?_; refine gc_seq ?_; refine gc_block ?_; refine gc_seq ?_; refine gc_region ?_; apply gw_d; exact w_index rfl rfl rfl rfl (by with_reducible exact rfl) (by omega); apply gw_d; exact w_load_at rfl rfl rfl (by assumption) (by assumption); apply gw_d; exact det_m rfl rfl (by conv => (lhs; whnf)); refine gw_nil ?_; refine gx_next ?_; refine gc_seq ?_; refine gc_region ?_; apply gw_d; exact det_m rfl rfl (by conv => (lhs; whnf)); apply gw_d; exact det_m rfl rfl (by conv => (lhs; whnf)); apply gw_d; exact w_index rfl rfl rfl rfl (by with_reducible exact rfl) (by omega); apply gw_d; exact w_field rfl rfl rfl; apply gw_d; exact w_load_fld rfl rfl rfl (by assumption) (by assumption); apply gw_d; exact w_len rfl rfl rfl; apply gw_d; exact det_m rfl rfl (by conv => (lhs; whnf)); refine gw_nil ?_; refine gx_next ?_; refine gc_block ?_)
    refine gc_loop (σ := Nat) [28, 29, 30, 11, 31, 32, 33, 34, 35, 36, 37, 38, 39, 40, 41, 42, 43, 27] (fun j => [(27, .int .i64 j)]) (fun j => [Box b 4 ((precIn a i bs (l[i].after.take j)).map Value.bool).toArray]) (fun j => j ≤ l[i].after.length) (fun j => l[i].after.length - j) 0 (Nat.zero_le _) ⟨rfl, trivial⟩ (.cons .here .nil) ?_
    rintro j base2 hj
    focus (refine gc_seq ?_; refine gc_region ?_; apply gw_d; exact det_cmp rfl rfl rfl rfl rfl; refine gw_nil ?_; refine gx_next ?_; refine gc_seq ?_)
    refine gc_if_dec rfl (fun h2 => ?_) (fun h2 => ?_)
    · have hjl : j < l[i].after.length := by omega
      obtain ⟨ad2, rfl, hb2, hce2, _⟩ := hacell j hjl
      have hpr := haf i l[i].after[j] (by rw [afterOf_get hil]; exact List.getElem_mem hjl)
      obtain ⟨p, hp⟩ : ∃ p : Nat, l[i].after[j] = (p : Int) := ⟨l[i].after[j].toNat, by omega⟩
      have hsn2 := precIn_snoc (a := a) (i := i) (bs := bs) hjl
      rw [hp] at hce2 hsn2
      have hl2 := precIn_len a i (l[i].after.take j) bs
      generalize precIn a i bs (l[i].after.take j) = cs2 at hsn2 hl2 ⊢
      have hpc : (cs2.map Value.bool).toArray[p * 1]? = some (.bool (cs2.getD p false)) := row_get Value.bool false (by omega)
      unfold precStep at hsn2
      rw [Int.toNat_natCast] at hsn2
      focus (refine gc_skip ?_; refine gx_next ?_; refine gc_seq ?_; refine gc_block ?_; refine gc_seq ?_; refine gc_region ?_; apply gw_d; exact w_index rfl rfl rfl rfl (by with_reducible exact rfl) (by omega); apply gw_d; exact w_load_at rfl rfl rfl (by assumption) (by assumption); apply gw_d; exact det_m rfl rfl (by conv => (lhs; whnf)); refine gw_nil ?_; refine gx_next ?_; refine gc_seq ?_; refine gc_region ?_; apply gw_d; exact det_m rfl rfl (by conv => (lhs; whnf)); apply gw_d; exact det_m rfl rfl (by conv => (lhs; whnf)); apply gw_d; exact det_cmp rfl rfl rfl rfl rfl; apply gw_d; exact det_m rfl rfl (by conv => (lhs; whnf)); refine gw_guard_dec rfl rfl (fun _ => ?_) (fun _ => ?_); apply gw_d; exact det_not rfl; apply gw_d; exact det_not rfl; apply gw_d; exact det_not rfl; apply gw_d; exact det_not rfl; apply gw_d; exact det_pick_t (v := .bool _) rfl rfl rfl rfl; refine gw_nil ?_; refine gx_next ?_; refine gc_if_true rfl ?_; refine gc_region ?_; apply gw_d; exact det_m rfl rfl (by conv => (lhs; whnf)); apply gw_d; exact det_m rfl rfl (by conv => (lhs; whnf)); apply gw_d; exact w_index rfl rfl rfl rfl (by with_reducible exact rfl) (by omega); rotate_left; apply gw_d; exact det_m rfl rfl (by conv => (lhs; whnf)); apply gw_d; exact det_m rfl rfl (by conv => (lhs; whnf)); apply gw_d; exact w_index rfl rfl rfl rfl (by with_reducible exact rfl) (by omega); apply gw_d; exact w_load_row rfl rfl rfl .here hpc; apply gw_d; exact det_pick_f (v := .bool _) rfl rfl rfl rfl; refine gw_nil ?_; refine gx_next ?_; refine gc_if rfl (fun _ => ?_) (fun _ => ?_); refine gc_region ?_; apply gw_d; exact det_m rfl rfl (by conv => (lhs; whnf)); apply gw_d; exact det_m rfl rfl (by conv => (lhs; whnf)); apply gw_d; exact w_index rfl rfl rfl rfl (by with_reducible exact rfl) (by omega); rotate_left; refine gc_skip ?_; refine gx_block ?_; refine gx_next ?_; refine gc_region ?_; apply gw_d; exact det_ar rfl rfl rfl rfl rfl (by omega); apply gw_d; exact det_m rfl rfl (by conv => (lhs; whnf)); refine gw_nil ?_; rotate_left)
      · refine w_store_row (n := 1) (v := .bool true) rfl rfl rfl rfl rfl .here (by simp; omega) (row_set Value.bool (by omega) true) ?_
        focus (refine gw_nil ?_; refine gx_block ?_; refine gx_next ?_; refine gc_region ?_; apply gw_d; exact det_ar rfl rfl rfl rfl rfl (by omega); apply gw_d; exact det_m rfl rfl (by conv => (lhs; whnf)); refine gw_nil ?_)
        refine gx_round (j + 1) hjl (by omega) (by repeat (first | exact Keeps.refl | refine Keeps.upd rfl ?_ | refine Keeps.sets rfl ?_ | refine Keeps.havoc rfl ?_)) ⟨rfl, trivial⟩ ?_
        rw [hsn2, if_pos (.inl (by assumption))]
        exact .cons .here .nil
      · refine w_store_row (n := 1) (v := .bool true) rfl rfl rfl rfl rfl .here (by simp; omega) (row_set Value.bool (by omega) true) ?_
        focus (refine gw_nil ?_; refine gx_block ?_; refine gx_next ?_; refine gc_region ?_; apply gw_d; exact det_ar rfl rfl rfl rfl rfl (by omega); apply gw_d; exact det_m rfl rfl (by conv => (lhs; whnf)); refine gw_nil ?_)
        refine gx_round (j + 1) hjl (by omega) (by repeat (first | exact Keeps.refl | refine Keeps.upd rfl ?_ | refine Keeps.sets rfl ?_ | refine Keeps.havoc rfl ?_)) ⟨rfl, trivial⟩ ?_
        rw [hsn2, if_pos (.inr (by assumption))]
        exact .cons .here .nil
      · refine gx_round (j + 1) hjl (by omega) (by repeat (first | exact Keeps.refl | refine Keeps.upd rfl ?_ | refine Keeps.sets rfl ?_ | refine Keeps.havoc rfl ?_)) ⟨rfl, trivial⟩ ?_
        rw [hsn2, if_neg (by rintro (h3 | h3) <;> simp_all)]
        exact .cons .here .nil
    · obtain rfl : j = l[i].after.length := by omega
      rw [List.take_length, ← hsn]
      focus (refine gc_exit ?_; refine gx_then_exit ?_; refine gx_then_exit ?_; refine gx_block_exit ?_; refine gx_block ?_; refine gx_next ?_; refine gc_region ?_; apply gw_d; exact det_ar rfl rfl rfl rfl rfl (by omega); apply gw_d; exact det_m rfl rfl (by conv => (lhs; whnf)); refine gw_nil ?_)
      exact gx_round (k + 1) hlt (by omega) (by repeat (first | exact Keeps.refl | refine Keeps.upd rfl ?_ | refine Keeps.sets rfl ?_ | refine Keeps.havoc rfl ?_)) ⟨rfl, trivial⟩ (Sub.all _)
  · obtain rfl : k = o.length := by omega
    rw [List.take_length]
    focus (refine gc_exit ?_; refine gx_then_exit ?_; refine gx_then_exit ?_; refine gx_block_exit ?_; refine gx_next ?_; refine gc_seq ?_; refine gc_region ?_; apply gw_d; exact det_m rfl rfl (by conv => (lhs; whnf)); apply gw_d; exact det_m rfl rfl (by conv => (lhs; whnf)); refine gw_nil ?_; refine gx_next ?_; refine gc_ret ?_)
    exact gx_ret1 rfl rfl fun w s => ⟨b, rfl, s.sep⟩
end Go.Proofs.YteiboodeepjanaaGreat
