/- Contracts: Critical, Before, Followers. -/
import Derived.Test.YteiboodeepjanaaGreatC21
namespace Go.Proofs.YteiboodeepjanaaGreat
open Go.RowKit
set_option maxRecDepth 100000
set_option maxHeartbeats 2000000

/-! ### Critical sums -/
def sumStep (i : Nat) (s : List Int) (p : Int) : List Int := s.set i (max (s.getD i 0) (s.getD p.toNat 0))
def sumIn (i : Nat) (s : List Int) (ps : List Int) : List Int := ps.foldl (sumStep i) s
def minOf (l : List Opn) (i : Nat) : Int := ((l[i]?).map (·.minutes)).getD 0
def sumOne (l : List Opn) (s : List Int) (i : Nat) : List Int := let t := sumIn i s (afterOf l i); t.set i (t.getD i 0 + minOf l i)
def critS (l : List Opn) (o : List Int) : List Int × Int := o.foldl (fun x i => (sumOne l x.1 i.toNat, max x.2 ((sumOne l x.1 i.toNat).getD i.toNat 0))) (List.replicate l.length 0, 0)
theorem minOf_get {l : List Opn} {i : Nat} (h : i < l.length) : minOf l i = l[i].minutes := by
  unfold minOf
  rw [List.getElem?_eq_getElem h]
  rfl
theorem critS_snoc {l : List Opn} {o : List Int} {k : Nat} (hk : k < o.length) : critS l (o.take (k + 1)) = (sumOne l (critS l (o.take k)).1 o[k].toNat, max (critS l (o.take k)).2 ((sumOne l (critS l (o.take k)).1 o[k].toNat).getD o[k].toNat 0)) := by
  unfold critS
  rw [List.take_succ_eq_append_getElem hk, List.foldl_append]
  rfl
theorem sumIn_snoc {i : Nat} {s : List Int} {ps : List Int} {k : Nat} (hk : k < ps.length) : sumIn i s (ps.take (k + 1)) = sumStep i (sumIn i s (ps.take k)) ps[k] := by
  unfold sumIn
  rw [List.take_succ_eq_append_getElem hk, List.foldl_append]
  rfl
theorem sumIn_len (i : Nat) (ps : List Int) : ∀ s, (sumIn i s ps).length = s.length := by
  induction ps with
  | nil => intro s; rfl
  | cons p ps ih => intro s; exact (ih _).trans (by unfold sumStep; simp)
theorem sumOne_len (l : List Opn) (s : List Int) (i : Nat) : (sumOne l s i).length = s.length := by
  unfold sumOne
  simp [sumIn_len]
def Lo (s : List Int) (b : Int) : Prop := ∀ x ∈ s, 0 ≤ x ∧ x ≤ b
theorem Lo.get {s : List Int} {b : Int} (h : Lo s b) (hb : 0 ≤ b) (i : Nat) : 0 ≤ s.getD i 0 ∧ s.getD i 0 ≤ b := by
  by_cases hi : i < s.length
  · have : s.getD i 0 = s[i] := by simp [hi]
    rw [this]
    exact h _ (List.getElem_mem hi)
  · have : s.getD i 0 = 0 := by simp [List.getElem?_eq_none (Nat.le_of_not_lt hi)]
    rw [this]; omega
theorem Lo.set {s : List Int} {b : Int} (h : Lo s b) (i : Nat) {x : Int} (hx : 0 ≤ x ∧ x ≤ b) : Lo (s.set i x) b := fun y hy => by
  rcases List.mem_or_eq_of_mem_set hy with h1 | h1
  · exact h y h1
  · rw [h1]; exact hx
theorem sumIn_lo {b : Int} (hb : 0 ≤ b) (i : Nat) (ps : List Int) : ∀ s, Lo s b → Lo (sumIn i s ps) b := by
  induction ps with
  | nil => intro s h; exact h
  | cons p ps ih =>
    intro s h
    refine ih _ ?_
    unfold sumStep
    have h1 := h.get hb i
    have h2 := h.get hb p.toNat
    exact h.set i (by omega)
theorem sumOne_lo {l : List Opn} {s : List Int} {b : Int} (hb : 0 ≤ b) (h : Lo s b) (i : Nat) (hm : 0 ≤ minOf l i ∧ minOf l i ≤ 10000) : Lo (sumOne l s i) (b + 10000) := by
  have h1 := sumIn_lo hb i (afterOf l i) s h
  have h2 := h1.get hb i
  have h3 : Lo (sumIn i s (afterOf l i)) (b + 10000) := fun x hx => by have := h1 x hx; omega
  exact h3.set i (by omega)

theorem Critical_bad (w : World) (v : Value) (l : List Opn) (hl : Sl rOp w w.heap.size v l) (hne : ¬ listE l (-1) = 0) :
    Ok Tryz.prog 19 [v].toArray w fun r _ => r = .tuple #[.int .i64 0, .int .i64 (listE l (-1))] := by
  obtain ⟨A0, c0, rfl, hc, hm⟩ := len_small hl
  refine ok_enter Tryz.func19 rfl Tryz.ntmps19 rfl ?_
  focus (refine gc_seq ?_; refine gc_region ?_; apply gw_d; exact det_m rfl rfl (by conv => (lhs; whnf)); apply gw_d; exact det_m rfl rfl (by conv => (lhs; whnf)); refine gw_nil ?_; refine gx_next ?_; refine gc_seq ?_; refine gc_region ?_; apply gw_d; exact det_m rfl rfl (by conv => (lhs; whnf)); apply gw_d; exact w_call rfl rfl (fun w s => checkList_bad w _ l (-1) (hl.later s) hne) rfl; apply gw_d; exact det_m rfl rfl (by conv => (lhs; whnf)); apply gw_d; exact det_extract rfl rfl rfl (by conv => (lhs; whnf)); apply gw_d; exact det_extract rfl rfl rfl (by conv => (lhs; whnf)); apply gw_d; exact det_m rfl rfl (by conv => (lhs; whnf)); apply gw_d; exact det_m rfl rfl (by conv => (lhs; whnf)); refine gw_nil ?_; refine gx_next ?_; refine gc_seq ?_; refine gc_seq ?_; refine gc_region ?_; apply gw_d; exact det_m rfl rfl (by conv => (lhs; whnf)); apply gw_d; exact det_cmp rfl rfl rfl rfl rfl; refine gw_nil ?_; refine gx_next ?_)
  refine gc_if_dec rfl (fun _ => ?_) (fun h => absurd hne h)
  focus (refine gc_seq ?_; refine gc_region ?_; apply gw_d; exact det_m rfl rfl (by conv => (lhs; whnf)); apply gw_d; exact det_m rfl rfl (by conv => (lhs; whnf)); apply gw_d; exact det_m rfl rfl (by conv => (lhs; whnf)); refine gw_nil ?_; refine gx_next ?_; refine gc_ret ?_; refine gx_then_ret ?_)
  refine gx_ret2 (u := .int _ _) (v := .int _ _) rfl rfl rfl (fun _ _ => ?_)
  rfl
theorem Critical_good (w : World) (v : Value) (l : List Opn) (hl : Sl rOp w w.heap.size v l) (he : listE l (-1) = 0) :
    Ok Tryz.prog 19 [v].toArray w fun r _ => r = .tuple #[.int .i64 (critS l (sortedL l)).2, .int .i64 0] := by
  obtain ⟨A0, c0, rfl, hc, hm⟩ := len_small hl
  have hG := list_good he
  have h16 := hG.le
  have hsl := hG.full
  refine ok_enter Tryz.func19 rfl Tryz.ntmps19 rfl ?_
  focus (refine gc_seq ?_; refine gc_region ?_; apply gw_d; exact det_m rfl rfl (by conv => (lhs; whnf)); apply gw_d; exact det_m rfl rfl (by conv => (lhs; whnf)); refine gw_nil ?_; refine gx_next ?_; refine gc_seq ?_; refine gc_region ?_; apply gw_d; exact det_m rfl rfl (by conv => (lhs; whnf)))
  refine gw_callm rfl (fun w s => checkList_good w _ l (-1) (hl.later s) he) rfl (fun x => ?_)
  obtain ⟨A, c⟩ := x
  focus (apply gw_d; exact det_m rfl rfl (by conv => (lhs; whnf)); apply gw_d; exact det_extract rfl rfl rfl (by conv => (lhs; whnf)); apply gw_d; exact det_extract rfl rfl rfl (by conv => (lhs; whnf)); apply gw_d; exact det_m rfl rfl (by conv => (lhs; whnf)); apply gw_d; exact det_m rfl rfl (by conv => (lhs; whnf)); refine gw_nil ?_; refine gx_next ?_; refine gc_seq ?_; refine gc_seq ?_; refine gc_region ?_; apply gw_d; exact det_m rfl rfl (by conv => (lhs; whnf)); apply gw_d; exact det_cmp rfl rfl rfl rfl rfl; refine gw_nil ?_; refine gx_next ?_)
  refine gc_if_dec rfl (fun h => absurd rfl h) (fun _ => ?_)
  focus (refine gc_skip ?_; refine gx_next ?_; refine gc_seq ?_; refine gc_region ?_; apply gw_d; exact det_m rfl rfl (by conv => (lhs; whnf)); apply gw_d; exact w_len rfl rfl rfl)
  refine gw_make1 (n := l.length) rfl rfl rfl rfl rfl (by omega) (by omega) rfl (fun b => ?_)
  rw [show Array.replicate l.length ((Value.int .i64 0).cells.getD 0 undef) = (((critS l ((sortedL l).take 0)).1).map (Value.int .i64)).toArray from row_make (Value.int .i64) l.length 0]
  focus (apply gw_d; exact det_m rfl rfl (by conv => (lhs; whnf)); refine gw_nil ?_; refine gx_next ?_; refine gc_seq ?_; refine gc_region ?_; apply gw_d; exact det_m rfl rfl (by conv => (lhs; whnf)); refine gw_nil ?_; refine gx_next ?_; refine gc_seq ?_; refine gc_seq ?_; refine gc_region ?_; apply gw_d; exact det_m rfl rfl (by conv => (lhs; whnf)); apply gw_d; exact w_len rfl rfl rfl; apply gw_d; exact det_m rfl rfl (by conv => (lhs; whnf)); refine gw_nil ?_; refine gx_next ?_; refine gc_block ?_)
  refine gc_loop (σ := Nat) [26, 27, 28, 9, 29, 30, 31, 32, 33, 34, 35, 36, 37, 38, 11, 39, 40, 41, 42, 43, 44, 45, 46, 47, 48, 49, 50, 51, 52, 53, 54, 55, 56, 57, 58, 59, 60, 61, 62, 63, 64, 65, 66, 67, 68, 7, 69, 25] (fun k => [(25, .int .i64 k), (7, .int .i64 (critS l ((sortedL l).take k)).2)]) (fun k => [Box b 3 (((critS l ((sortedL l).take k)).1).map (Value.int .i64)).toArray, Own A l.length c 3 1 ((sortedL l).map (Value.int .i64))])
    (fun k => k ≤ l.length ∧ (critS l ((sortedL l).take k)).1.length = l.length ∧ Lo (critS l ((sortedL l).take k)).1 (10000 * k) ∧ 0 ≤ (critS l ((sortedL l).take k)).2 ∧ (critS l ((sortedL l).take k)).2 ≤ 10000 * k) (fun k => l.length - k) 0
    ⟨Nat.zero_le _, by simp [critS], fun x hx => by have := (List.mem_replicate.1 hx).2; omega, by show (0 : Int) ≤ 0; omega, by show (0 : Int) ≤ 0; omega⟩ ⟨rfl, rfl, trivial⟩ (.cons .here (.cons .here .nil)) ?_
  rintro k base ⟨hk, hlen, hlo, hg0, hg1⟩
  focus (refine gc_seq ?_; refine gc_region ?_; apply gw_d; exact det_cmp rfl rfl rfl rfl rfl; refine gw_nil ?_; refine gx_next ?_; refine gc_seq ?_)
  refine gc_if_dec rfl (fun h => ?_) (fun h => ?_)
  · have hlt : k < (sortedL l).length := by omega
    have hok := sorted_mem (l := l) (sortedL l)[k] (List.getElem_mem hlt)
    obtain ⟨i, hi⟩ : ∃ i : Nat, (sortedL l)[k] = (i : Int) := ⟨(sortedL l)[k].toNat, by omega⟩
    have hil : i < l.length := by omega
    have hsn := critS_snoc (l := l) hlt
    rw [hi, Int.toNat_natCast] at hsn
    obtain ⟨⟨hmin1, hmin2⟩, haf⟩ := hG.one hil
    obtain ⟨ad, _, hv, _, _, hb, hcell⟩ := hl.at' 5 rfl (by omega)
    injection hv with e1 e2 e3
    subst e1 e3
    obtain ⟨cs, hce, Aa, ca, Au, cu, rfl, _, q1, q2⟩ := hcell i hil
    have hce3 := hce 3 _ rfl
    have hce2 := hce 2 _ rfl
    have ha : Sl rInt w w.heap.size (.slice Aa l[i].after.length ca) l[i].after := q1
    obtain ⟨_, _, hv, hac, ham, hacell⟩ := ha.int
    injection hv with e1 e2 e3
    subst e1 e3
    refine gc_ownbox (by omega) (.there .here) fun g ocs hA hosz hotk => ?_
    subst hA
    have hoc := take_at hotk hlt
    rw [hi] at hoc
    generalize hS : critS l ((sortedL l).take k) = S at hsn hlen hlo hg0 hg1 ⊢
    obtain ⟨sm, gr⟩ := S
    dsimp only at hsn hlen hlo hg0 hg1 ⊢
    focus (refine gc_skip ?_; refine gx_next ?_; refine gc_seq ?_; refine gc_block ?_; refine gc_seq ?_; refine gc_region ?_; apply gw_d; exact w_index rfl rfl rfl rfl (by with_reducible exact rfl) (by omega); apply gw_d; exact w_load_row rfl rfl rfl .here hoc; apply gw_d; exact det_m rfl rfl (by conv => (lhs; whnf)); refine gw_nil ?_; refine gx_next ?_; refine gc_seq ?_; refine gc_seq ?_; refine gc_region ?_; apply gw_d; exact det_m rfl rfl (by conv => (lhs; whnf)); apply gw_d; exact det_m rfl rfl (by conv => (lhs; whnf)); apply gw_d; exact w_index rfl rfl rfl rfl (by with_reducible exact rfl) (by omega); apply gw_d; exact w_field rfl rfl rfl; apply gw_d; exact w_load_fld rfl rfl rfl (by assumption) (by assumption); apply gw_d; exact w_len rfl rfl rfl; apply gw_d; exact det_m rfl rfl (by conv => (lhs; whnf)); refine gw_nil ?_; refine gx_next ?_; refine gc_block ?_)
    refine gc_loop (σ := Nat) [36, 37, 38, 11, 39, 40, 41, 42, 43, 44, 45, 46, 47, 48, 49, 50, 51, 35] (fun j => [(35, .int .i64 j)]) (fun j => [Box b 3 ((sumIn i sm (l[i].after.take j)).map (Value.int .i64)).toArray, Box g 3 ocs]) (fun j => j ≤ l[i].after.length) (fun j => l[i].after.length - j) 0 (Nat.zero_le _) ⟨rfl, trivial⟩ (.cons (.there .here) (.cons .here .nil)) ?_
    rintro j base2 hj
    have hl2 := sumIn_len i (l[i].after.take j) sm
    have hlo2 := sumIn_lo (b := 10000 * k) (by omega) i (l[i].after.take j) sm hlo
    focus (refine gc_seq ?_; refine gc_region ?_; apply gw_d; exact det_cmp rfl rfl rfl rfl rfl; refine gw_nil ?_; refine gx_next ?_; refine gc_seq ?_)
    refine gc_if_dec rfl (fun h2 => ?_) (fun h2 => ?_)
    · have hjl : j < l[i].after.length := by omega
      obtain ⟨ad2, rfl, hb2, hce4, _⟩ := hacell j hjl
      have hpr := haf l[i].after[j] (List.getElem_mem hjl)
      obtain ⟨p, hp⟩ : ∃ p : Nat, l[i].after[j] = (p : Int) := ⟨l[i].after[j].toNat, by omega⟩
      have hsn2 := sumIn_snoc (i := i) (s := sm) hjl
      rw [hp] at hce4 hsn2
      generalize sumIn i sm (l[i].after.take j) = s2 at hsn2 hl2 hlo2 ⊢
      unfold sumStep at hsn2
      rw [Int.toNat_natCast] at hsn2
      have hpc : (s2.map (Value.int .i64)).toArray[p * 1]? = some (.int .i64 (s2.getD p 0)) := row_get (Value.int .i64) 0 (by omega)
      have hpi : (s2.map (Value.int .i64)).toArray[i * 1]? = some (.int .i64 (s2.getD i 0)) := row_get (Value.int .i64) 0 (by omega)
      focus (refine gc_skip ?_; refine gx_next ?_; refine gc_seq ?_; refine gc_block ?_; refine gc_seq ?_; refine gc_region ?_; apply gw_d; exact w_index rfl rfl rfl rfl (by with_reducible exact rfl) (by omega); apply gw_d; exact w_load_at rfl rfl rfl (by assumption) (by assumption); apply gw_d; exact det_m rfl rfl (by conv => (lhs; whnf)); refine gw_nil ?_; refine gx_next ?_)
      refine gc_draw 11 (by kernel_rfl) (by kernel_rfl) ?_
      focus (apply gd_d; exact det_m rfl rfl (by conv => (lhs; whnf)); apply gd_d; exact det_m rfl rfl (by conv => (lhs; whnf)); apply gd_d; exact det_m rfl rfl (by conv => (lhs; whnf)); apply gd_d; exact det_m rfl rfl (by conv => (lhs; whnf)); apply gd_d; exact w_index rfl rfl rfl rfl (by with_reducible exact rfl) (by omega); apply gd_d; exact w_load_row rfl rfl rfl .here hpi; apply gd_d; exact det_m rfl rfl (by conv => (lhs; whnf)); apply gd_d; exact det_m rfl rfl (by conv => (lhs; whnf)); apply gd_d; exact w_index rfl rfl rfl rfl (by with_reducible exact rfl) (by omega); apply gd_d; exact w_load_row rfl rfl rfl .here hpc; apply gd_d; exact w_max rfl rfl rfl rfl; refine gd_nil ?_; apply gw_d; exact w_index rfl rfl rfl rfl (by with_reducible exact rfl) (by omega))
      refine w_store_row (n := 1) (v := .int .i64 (max (s2.getD i 0) (s2.getD p 0))) rfl rfl rfl rfl rfl .here (by simp; omega) (row_set (Value.int .i64) (by omega) _) ?_
      focus (refine gw_nil ?_; refine gx_block ?_; refine gx_next ?_; refine gc_region ?_; apply gw_d; exact det_ar rfl rfl rfl rfl rfl (by omega); apply gw_d; exact det_m rfl rfl (by conv => (lhs; whnf)); refine gw_nil ?_)
      refine gx_round (j + 1) hjl (by omega) (by repeat (first | exact Keeps.refl | refine Keeps.upd rfl ?_ | refine Keeps.sets rfl ?_ | refine Keeps.havoc rfl ?_)) ⟨rfl, trivial⟩ ?_
      rw [hsn2]
      exact .cons .here (.cons .here .nil)
    · obtain rfl : j = l[i].after.length := by omega
      rw [List.take_length] at hl2 hlo2 ⊢
      have hone : sumOne l sm i = (sumIn i sm l[i].after).set i ((sumIn i sm l[i].after).getD i 0 + l[i].minutes) := by unfold sumOne; rw [afterOf_get hil, minOf_get hil]
      have hlo3 := sumOne_lo (l := l) (s := sm) (b := 10000 * k) (by omega) hlo i (by rw [minOf_get hil]; omega)
      have hlen3 := sumOne_len l sm i
      generalize sumIn i sm l[i].after = s2 at hl2 hlo2 hone ⊢
      have hpi : (s2.map (Value.int .i64)).toArray[i * 1]? = some (.int .i64 (s2.getD i 0)) := row_get (Value.int .i64) 0 (by omega)
      have hbd := hlo2.get (by omega) i
      focus (refine gc_exit ?_; refine gx_then_exit ?_; refine gx_then_exit ?_; refine gx_block_exit ?_; refine gx_next ?_; refine gc_seq ?_)
      refine gc_draw 10 (by kernel_rfl) (by kernel_rfl) ?_
      focus (apply gd_d; exact det_m rfl rfl (by conv => (lhs; whnf)); apply gd_d; exact det_m rfl rfl (by conv => (lhs; whnf)); apply gd_d; exact w_index rfl rfl rfl rfl (by with_reducible exact rfl) (by omega); apply gd_d; exact w_load_row rfl rfl rfl .here hpi; apply gd_d; exact det_m rfl rfl (by conv => (lhs; whnf)); apply gd_d; exact det_m rfl rfl (by conv => (lhs; whnf)); apply gd_d; exact w_index rfl rfl rfl rfl (by with_reducible exact rfl) (by omega); apply gd_d; exact w_field rfl rfl rfl; apply gd_d; exact w_load_fld rfl rfl rfl (by assumption) (by assumption); apply gd_d; exact det_ar rfl rfl rfl rfl rfl (by omega); refine gd_nil ?_; apply gw_d; exact w_index rfl rfl rfl rfl (by with_reducible exact rfl) (by omega))
      refine w_store_row (n := 1) (v := .int .i64 (s2.getD i 0 + l[i].minutes)) rfl rfl rfl rfl rfl .here (by simp; omega) (row_set (Value.int .i64) (by omega) _) ?_
      rw [← hone]
      have hpj : ((sumOne l sm i).map (Value.int .i64)).toArray[i * 1]? = some (.int .i64 ((sumOne l sm i).getD i 0)) := row_get (Value.int .i64) 0 (by omega)
      have hbd3 := hlo3.get (by omega) i
      focus (refine gw_nil ?_; refine gx_next ?_; refine gc_region ?_; apply gw_d; exact det_m rfl rfl (by conv => (lhs; whnf)); apply gw_d; exact det_m rfl rfl (by conv => (lhs; whnf)); apply gw_d; exact det_m rfl rfl (by conv => (lhs; whnf)); apply gw_d; exact w_index rfl rfl rfl rfl (by with_reducible exact rfl) (by omega); apply gw_d; exact w_load_row rfl rfl rfl .here hpj; apply gw_d; exact w_max rfl rfl rfl rfl; apply gw_d; exact det_m rfl rfl (by conv => (lhs; whnf)); refine gw_nil ?_; refine gx_block ?_; refine gx_next ?_; refine gc_region ?_; apply gw_d; exact det_ar rfl rfl rfl rfl rfl (by omega); apply gw_d; exact det_m rfl rfl (by conv => (lhs; whnf)); refine gw_nil ?_)
      refine gx_roundE (k + 1) ⟨by omega, by rw [hsn]; dsimp only; omega, by rw [hsn]; intro x hx; have := hlo3 x hx; omega, by rw [hsn]; dsimp only; omega, by rw [hsn]; dsimp only; omega⟩ (by omega) (by repeat (first | exact Keeps.refl | refine Keeps.upd rfl ?_ | refine Keeps.sets rfl ?_ | refine Keeps.havoc rfl ?_)) ⟨rfl, by rw [hsn]; rfl, trivial⟩ ?_
      rw [hsn]
      refine Ent.trans (Ent.trans (Sub.ent (.cons (.there .here) (.cons .here .nil))) (box_own hosz hotk)) (Sub.ent (.cons (.there .here) (.cons .here .nil)))
  · obtain rfl : k = l.length := by omega
    rw [List.take_of_length_le (by omega)]
    focus (refine gc_exit ?_; refine gx_then_exit ?_; refine gx_then_exit ?_; refine gx_block_exit ?_; refine gx_next ?_; refine gc_seq ?_; refine gc_region ?_; apply gw_d; exact det_m rfl rfl (by conv => (lhs; whnf)); apply gw_d; exact det_m rfl rfl (by conv => (lhs; whnf)); apply gw_d; exact det_m rfl rfl (by conv => (lhs; whnf)); refine gw_nil ?_; refine gx_next ?_; refine gc_ret ?_)
    refine gx_ret2 (u := .int _ _) (v := .int _ _) rfl rfl rfl (fun _ _ => ?_)
    rfl

/-! ### Before -/
def beforeE (l : List Opn) (a b : Int) : Int := if ¬ listE l (-1) = 0 then listE l (-1) else if areIx [a, b] l.length = true then 0 else 3
def beforeV (l : List Opn) (a b : Int) : Bool := if beforeE l a b = 0 then (precs l a (sortedL l)).getD b.toNat false else false
theorem Before_ok (w : World) (v : Value) (l : List Opn) (a b : Int) (hl : Sl rOp w w.heap.size v l) (ha : inI64 a) (hb : inI64 b) :
    Ok Tryz.prog 22 [v, .int .i64 a, .int .i64 b].toArray w fun r _ => r = .tuple #[.bool (beforeV l a b), .int .i64 (beforeE l a b)] := by
  have hin2 : ∀ x ∈ [a, b], inI64 x := by
    intro x hx
    simp only [List.mem_cons, List.not_mem_nil, or_false] at hx
    rcases hx with rfl | rfl <;> assumption
  obtain ⟨A0, c0, rfl, hc, hm⟩ := len_small hl
  by_cases he : listE l (-1) = 0
  · have hG := list_good he
    have h16 := hG.le
    have hsl := hG.full
    refine ok_enter Tryz.func22 rfl Tryz.ntmps22 rfl ?_
    focus (refine gc_seq ?_; refine gc_region ?_; apply gw_d; exact det_m rfl rfl (by conv => (lhs; whnf)); apply gw_d; exact det_m rfl rfl (by conv => (lhs; whnf)); refine gw_nil ?_; refine gx_next ?_; refine gc_seq ?_; refine gc_region ?_; apply gw_d; exact det_m rfl rfl (by conv => (lhs; whnf)))
    refine gw_callm rfl (fun w s => checkList_good w _ l (-1) (hl.later s) he) rfl (fun x => ?_)
    obtain ⟨A, c⟩ := x
    focus (apply gw_d; exact det_m rfl rfl (by conv => (lhs; whnf)); apply gw_d; exact det_extract rfl rfl rfl (by conv => (lhs; whnf)); apply gw_d; exact det_extract rfl rfl rfl (by conv => (lhs; whnf)); apply gw_d; exact det_m rfl rfl (by conv => (lhs; whnf)); apply gw_d; exact det_m rfl rfl (by conv => (lhs; whnf)); refine gw_nil ?_; refine gx_next ?_; refine gc_seq ?_; refine gc_seq ?_; refine gc_region ?_; apply gw_d; exact det_m rfl rfl (by conv => (lhs; whnf)); apply gw_d; exact det_cmp rfl rfl rfl rfl rfl; refine gw_nil ?_; refine gx_next ?_)
    refine gc_if_dec rfl (fun h => absurd rfl h) (fun _ => ?_)
    focus (refine gc_skip ?_; refine gx_next ?_; refine gc_seq ?_; refine gc_seq ?_; refine gc_region ?_; apply gw_d; exact det_m rfl rfl (by conv => (lhs; whnf)); apply gw_d; exact det_m rfl rfl (by conv => (lhs; whnf)))
    refine gw_bslice (cells := #[.int .i64 a, .int .i64 b]) rfl ?_ ?_ ?_ (fun bx => ?_)
    · rfl
    · rfl
    · kernel_rfl
    have hC : ∀ (L : List Res) (w' : World), St w (Box bx 3 #[.int .i64 a, .int .i64 b] :: L) w' → Ok Tryz.prog 37 [.slice (some ⟨bx, 0, none⟩) 2 2, .int .i64 l.length].toArray w' fun r _ => r = .bool (areIx [a, b] l.length) := fun L w' s => areIx_ok w' _ [a, b] _ (Sl.boxI (o := [a, b]) s .here rfl (by decide) (by decide) hin2)
    focus (apply gw_d; exact det_m rfl rfl (by conv => (lhs; whnf)); apply gw_d; exact w_len rfl rfl rfl; apply gw_d; exact w_call rfl rfl (hC _) rfl; apply gw_d; exact det_not_ rfl rfl rfl; refine gw_nil ?_; refine gx_next ?_)
    refine gc_if rfl (fun h => ?_) (fun h => ?_)
    · focus (refine gc_seq ?_; refine gc_region ?_; apply gw_d; exact det_m rfl rfl (by conv => (lhs; whnf)); apply gw_d; exact det_m rfl rfl (by conv => (lhs; whnf)); refine gw_nil ?_; refine gx_next ?_; refine gc_ret ?_; refine gx_then_ret ?_)
      refine gx_ret2 (u := .bool _) (v := .int _ _) rfl rfl rfl (fun _ _ => ?_)
      have h1 : areIx [a, b] l.length = false := by simpa using h
      have h2 : beforeE l a b = 3 := by unfold beforeE; rw [if_neg (by rw [he]; decide), if_neg (by rw [h1]; decide)]
      have h3 : beforeV l a b = false := by unfold beforeV; rw [h2]; rfl
      rw [h2, h3]
    · have h1 : areIx [a, b] l.length = true := by simpa using h
      have h2 : beforeE l a b = 0 := by unfold beforeE; rw [if_neg (by rw [he]; decide), if_pos h1]
      have hbr := areIx_at h1 b (by simp)
      obtain ⟨m, rfl⟩ : ∃ m : Nat, b = (m : Int) := ⟨b.toNat, by omega⟩
      have hml : m < l.length := by omega
      have h3 : beforeV l a m = (precs l a (sortedL l)).getD m false := by unfold beforeV; rw [if_pos h2, Int.toNat_natCast]
      rw [h2, h3]
      focus (refine gc_skip ?_; refine gx_next ?_; refine gc_seq ?_; refine gc_region ?_; apply gw_d; exact det_m rfl rfl (by conv => (lhs; whnf)); apply gw_d; exact det_m rfl rfl (by conv => (lhs; whnf)); apply gw_d; exact det_m rfl rfl (by conv => (lhs; whnf)))
      refine gw_callm rfl (fun w s => preceded_ok w _ _ l (sortedL l) a (hl.later s) (Sl.ownI s (.there .here) hsl.symm (fun x hx => by have := sorted_mem (l := l) x hx; unfold inI64; omega)) h16 sorted_mem hG.after) rfl (fun bp => ?_)
      have hpl := precs_len l a (sortedL l)
      have hpc : ((precs l a (sortedL l)).map Value.bool).toArray[m * 1]? = some (.bool ((precs l a (sortedL l)).getD m false)) := row_get Value.bool false (by omega)
      focus (apply gw_d; exact det_m rfl rfl (by conv => (lhs; whnf)); apply gw_d; exact w_index rfl rfl rfl rfl (by with_reducible exact rfl) (by omega); apply gw_d; exact w_load_row rfl rfl rfl .here hpc; apply gw_d; exact det_m rfl rfl (by conv => (lhs; whnf)); apply gw_d; exact det_m rfl rfl (by conv => (lhs; whnf)); refine gw_nil ?_; refine gx_next ?_; refine gc_ret ?_)
      refine gx_ret2 (u := .bool _) (v := .int _ _) rfl rfl rfl (fun _ _ => ?_)
      rfl
  · have h2 : beforeE l a b = listE l (-1) := by unfold beforeE; rw [if_pos he]
    have h3 : beforeV l a b = false := by unfold beforeV; rw [h2, if_neg he]
    rw [h2, h3]
    refine ok_enter Tryz.func22 rfl Tryz.ntmps22 rfl ?_
    focus (refine gc_seq ?_; refine gc_region ?_; apply gw_d; exact det_m rfl rfl (by conv => (lhs; whnf)); apply gw_d; exact det_m rfl rfl (by conv => (lhs; whnf)); refine gw_nil ?_; refine gx_next ?_; refine gc_seq ?_; refine gc_region ?_; apply gw_d; exact det_m rfl rfl (by conv => (lhs; whnf)); apply gw_d; exact w_call rfl rfl (fun w s => checkList_bad w _ l (-1) (hl.later s) he) rfl; apply gw_d; exact det_m rfl rfl (by conv => (lhs; whnf)); apply gw_d; exact det_extract rfl rfl rfl (by conv => (lhs; whnf)); apply gw_d; exact det_extract rfl rfl rfl (by conv => (lhs; whnf)); apply gw_d; exact det_m rfl rfl (by conv => (lhs; whnf)); apply gw_d; exact det_m rfl rfl (by conv => (lhs; whnf)); refine gw_nil ?_; refine gx_next ?_; refine gc_seq ?_; refine gc_seq ?_; refine gc_region ?_; apply gw_d; exact det_m rfl rfl (by conv => (lhs; whnf)); apply gw_d; exact det_cmp rfl rfl rfl rfl rfl; refine gw_nil ?_; refine gx_next ?_)
    refine gc_if_dec rfl (fun _ => ?_) (fun h => absurd he h)
    focus (refine gc_seq ?_; refine gc_region ?_; apply gw_d; exact det_m rfl rfl (by conv => (lhs; whnf)); apply gw_d; exact det_m rfl rfl (by conv => (lhs; whnf)); apply gw_d; exact det_m rfl rfl (by conv => (lhs; whnf)); refine gw_nil ?_; refine gx_next ?_; refine gc_ret ?_; refine gx_then_ret ?_)
    refine gx_ret2 (u := .bool _) (v := .int _ _) rfl rfl rfl (fun _ _ => ?_)
    rfl

/-! ### Followers -/
def follE (l : List Opn) (a : Int) : Int := if ¬ listE l (-1) = 0 then listE l (-1) else if areIx [a] l.length = true then 0 else 3
def follT (bs : List Bool) (n : Nat) : List Int := ((List.range n).filter fun i => bs.getD i false).map fun i : Nat => (i : Int)
def follL (l : List Opn) (a : Int) : List Int := follT (precs l a (sortedL l)) l.length
theorem follT_snoc (bs : List Bool) (n : Nat) : follT bs (n + 1) = if bs.getD n false = true then follT bs n ++ [(n : Int)] else follT bs n := by
  unfold follT
  rw [List.range_succ, List.filter_append, List.map_append, List.filter_cons]
  split <;> simp
theorem follT_len (bs : List Bool) (n : Nat) : (follT bs n).length ≤ n := by
  unfold follT
  rw [List.length_map]
  exact Nat.le_trans (List.length_filter_le _ _) (by simp)
theorem Followers_bad (w : World) (v : Value) (l : List Opn) (a : Int) (hl : Sl rOp w w.heap.size v l) (ha : inI64 a) (hne : ¬ follE l a = 0) :
    Ok Tryz.prog 24 [v, .int .i64 a].toArray w fun r _ => r = .tuple #[.slice none 0 0, .int .i64 (follE l a)] := by
  have hin1 : ∀ x ∈ [a], inI64 x := fun x hx => by rw [List.mem_singleton] at hx; rw [hx]; exact ha
  obtain ⟨A0, c0, rfl, hc, hm⟩ := len_small hl
  by_cases he : listE l (-1) = 0
  · have h0 : follE l a = if areIx [a] l.length = true then 0 else 3 := by unfold follE; rw [if_neg (by rw [he]; decide)]
    have h1 : areIx [a] l.length = false := by
      cases hb : areIx [a] l.length with
      | false => rfl
      | true => rw [h0, hb] at hne; exact absurd rfl hne
    rw [h1] at h0
    rw [h0]
    refine ok_enter Tryz.func24 rfl Tryz.ntmps24 rfl ?_
    focus (refine gc_seq ?_; refine gc_region ?_; apply gw_d; exact det_m rfl rfl (by conv => (lhs; whnf)); apply gw_d; exact det_m rfl rfl (by conv => (lhs; whnf)); refine gw_nil ?_; refine gx_next ?_; refine gc_seq ?_; refine gc_region ?_; apply gw_d; exact det_m rfl rfl (by conv => (lhs; whnf)))
    refine gw_callm rfl (fun w s => checkList_good w _ l (-1) (hl.later s) he) rfl (fun x => ?_)
    obtain ⟨A, c⟩ := x
    focus (apply gw_d; exact det_m rfl rfl (by conv => (lhs; whnf)); apply gw_d; exact det_extract rfl rfl rfl (by conv => (lhs; whnf)); apply gw_d; exact det_extract rfl rfl rfl (by conv => (lhs; whnf)); apply gw_d; exact det_m rfl rfl (by conv => (lhs; whnf)); apply gw_d; exact det_m rfl rfl (by conv => (lhs; whnf)); refine gw_nil ?_; refine gx_next ?_; refine gc_seq ?_; refine gc_seq ?_; refine gc_region ?_; apply gw_d; exact det_m rfl rfl (by conv => (lhs; whnf)); apply gw_d; exact det_cmp rfl rfl rfl rfl rfl; refine gw_nil ?_; refine gx_next ?_)
    refine gc_if_dec rfl (fun h => absurd rfl h) (fun _ => ?_)
    focus (refine gc_skip ?_; refine gx_next ?_; refine gc_seq ?_; refine gc_seq ?_; refine gc_region ?_; apply gw_d; exact det_m rfl rfl (by conv => (lhs; whnf)))
    refine gw_bslice1 (v := .int .i64 a) rfl rfl rfl rfl rfl (fun bx => ?_)
    have hC : ∀ (L : List Res) (w' : World), St w (Box bx 3 (Value.int .i64 a).cells :: L) w' → Ok Tryz.prog 37 [.slice (some ⟨bx, 0, none⟩) 1 1, .int .i64 l.length].toArray w' fun r _ => r = .bool (areIx [a] l.length) := fun L w' s => areIx_ok w' _ [a] _ (Sl.boxI (o := [a]) s .here rfl (by decide) (by decide) hin1)
    focus (apply gw_d; exact det_m rfl rfl (by conv => (lhs; whnf)); apply gw_d; exact w_len rfl rfl rfl; apply gw_d; exact w_call rfl rfl (hC _) rfl; apply gw_d; exact det_not_ rfl rfl rfl; refine gw_nil ?_; refine gx_next ?_)
    refine gc_if rfl (fun h => ?_) (fun h => by rw [h1] at h; cases h)
    focus (refine gc_seq ?_; refine gc_region ?_; apply gw_d; exact det_m rfl rfl (by conv => (lhs; whnf)); apply gw_d; exact det_m rfl rfl (by conv => (lhs; whnf)); refine gw_nil ?_; refine gx_next ?_; refine gc_ret ?_; refine gx_then_ret ?_)
    refine gx_ret2 (u := .slice _ _ _) (v := .int _ _) rfl rfl rfl (fun _ _ => ?_)
    rfl
  · have h2 : follE l a = listE l (-1) := by unfold follE; rw [if_pos he]
    rw [h2]
    refine ok_enter Tryz.func24 rfl Tryz.ntmps24 rfl ?_
    focus (refine gc_seq ?_; refine gc_region ?_; apply gw_d; exact det_m rfl rfl (by conv => (lhs; whnf)); apply gw_d; exact det_m rfl rfl (by conv => (lhs; whnf)); refine gw_nil ?_; refine gx_next ?_; refine gc_seq ?_; refine gc_region ?_; apply gw_d; exact det_m rfl rfl (by conv => (lhs; whnf)); apply gw_d; exact w_call rfl rfl (fun w s => checkList_bad w _ l (-1) (hl.later s) he) rfl; apply gw_d; exact det_m rfl rfl (by conv => (lhs; whnf)); apply gw_d; exact det_extract rfl rfl rfl (by conv => (lhs; whnf)); apply gw_d; exact det_extract rfl rfl rfl (by conv => (lhs; whnf)); apply gw_d; exact det_m rfl rfl (by conv => (lhs; whnf)); apply gw_d; exact det_m rfl rfl (by conv => (lhs; whnf)); refine gw_nil ?_; refine gx_next ?_; refine gc_seq ?_; refine gc_seq ?_; refine gc_region ?_; apply gw_d; exact det_m rfl rfl (by conv => (lhs; whnf)); apply gw_d; exact det_cmp rfl rfl rfl rfl rfl; refine gw_nil ?_; refine gx_next ?_)
    refine gc_if_dec rfl (fun _ => ?_) (fun h => absurd he h)
    focus (refine gc_seq ?_; refine gc_region ?_; apply gw_d; exact det_m rfl rfl (by conv => (lhs; whnf)); apply gw_d; exact det_m rfl rfl (by conv => (lhs; whnf)); apply gw_d; exact det_m rfl rfl (by conv => (lhs; whnf)); refine gw_nil ?_; refine gx_next ?_; refine gc_ret ?_; refine gx_then_ret ?_)
    refine gx_ret2 (u := .slice _ _ _) (v := .int _ _) rfl rfl rfl (fun _ _ => ?_)
    rfl
theorem Followers_good (w : World) (v : Value) (l : List Opn) (a : Int) (hl : Sl rOp w w.heap.size v l) (ha : inI64 a) (hz : follE l a = 0) :
    OkM Tryz.prog 24 [v, .int .i64 a].toArray w (fun x : Option Addr × Nat => .tuple #[.slice x.1 (follL l a).length x.2, .int .i64 0]) (fun x => [Own x.1 (follL l a).length x.2 3 1 ((follL l a).map (Value.int .i64))]) := by
  have hin1 : ∀ x ∈ [a], inI64 x := fun x hx => by rw [List.mem_singleton] at hx; rw [hx]; exact ha
  obtain ⟨A0, c0, rfl, hc, hm⟩ := len_small hl
  have he : listE l (-1) = 0 := by
    unfold follE at hz
    split at hz
    · rename_i h1; exact absurd hz h1
    · rename_i h1; simpa using h1
  have h1 : areIx [a] l.length = true := by
    unfold follE at hz
    rw [if_neg (by rw [he]; decide)] at hz
    split at hz
    · assumption
    · cases hz
  have hG := list_good he
  have h16 := hG.le
  have hsl := hG.full
  unfold OkM
  refine ok_enter Tryz.func24 rfl Tryz.ntmps24 rfl ?_
  focus (refine gc_seq ?_; refine gc_region ?_; apply gw_d; exact det_m rfl rfl (by conv => (lhs; whnf)); apply gw_d; exact det_m rfl rfl (by conv => (lhs; whnf)); refine gw_nil ?_; refine gx_next ?_; refine gc_seq ?_; refine gc_region ?_; apply gw_d; exact det_m rfl rfl (by conv => (lhs; whnf)))
  refine gw_callm rfl (fun w s => checkList_good w _ l (-1) (hl.later s) he) rfl (fun x => ?_)
  obtain ⟨A, c⟩ := x
  focus (apply gw_d; exact det_m rfl rfl (by conv => (lhs; whnf)); apply gw_d; exact det_extract rfl rfl rfl (by conv => (lhs; whnf)); apply gw_d; exact det_extract rfl rfl rfl (by conv => (lhs; whnf)); apply gw_d; exact det_m rfl rfl (by conv => (lhs; whnf)); apply gw_d; exact det_m rfl rfl (by conv => (lhs; whnf)); refine gw_nil ?_; refine gx_next ?_; refine gc_seq ?_; refine gc_seq ?_; refine gc_region ?_; apply gw_d; exact det_m rfl rfl (by conv => (lhs; whnf)); apply gw_d; exact det_cmp rfl rfl rfl rfl rfl; refine gw_nil ?_; refine gx_next ?_)
  refine gc_if_dec rfl (fun h => absurd rfl h) (fun _ => ?_)
  focus (refine gc_skip ?_; refine gx_next ?_; refine gc_seq ?_; refine gc_seq ?_; refine gc_region ?_; apply gw_d; exact det_m rfl rfl (by conv => (lhs; whnf)))
  refine gw_bslice1 (v := .int .i64 a) rfl rfl rfl rfl rfl (fun bx => ?_)
  have hC : ∀ (L : List Res) (w' : World), St w (Box bx 3 (Value.int .i64 a).cells :: L) w' → Ok Tryz.prog 37 [.slice (some ⟨bx, 0, none⟩) 1 1, .int .i64 l.length].toArray w' fun r _ => r = .bool (areIx [a] l.length) := fun L w' s => areIx_ok w' _ [a] _ (Sl.boxI (o := [a]) s .here rfl (by decide) (by decide) hin1)
  focus (apply gw_d; exact det_m rfl rfl (by conv => (lhs; whnf)); apply gw_d; exact w_len rfl rfl rfl; apply gw_d; exact w_call rfl rfl (hC _) rfl; apply gw_d; exact det_not_ rfl rfl rfl; refine gw_nil ?_; refine gx_next ?_)
  refine gc_if rfl (fun h => by rw [h1] at h; cases h) (fun h => ?_)
  focus (refine gc_skip ?_; refine gx_next ?_; refine gc_seq ?_; refine gc_region ?_; apply gw_d; exact det_m rfl rfl (by conv => (lhs; whnf)); refine gw_nil ?_; refine gx_next ?_; refine gc_seq ?_; refine gc_seq ?_; refine gc_region ?_; apply gw_d; exact det_m rfl rfl (by conv => (lhs; whnf)); apply gw_d; exact det_m rfl rfl (by conv => (lhs; whnf)); apply gw_d; exact det_m rfl rfl (by conv => (lhs; whnf)))
  refine gw_callm rfl (fun w s => preceded_ok w _ _ l (sortedL l) a (hl.later s) (Sl.ownI s (.there .here) hsl.symm (fun x hx => by have := sorted_mem (l := l) x hx; unfold inI64; omega)) h16 sorted_mem hG.after) rfl (fun bp => ?_)
  have hpl := precs_len l a (sortedL l)
  unfold follL
  generalize precs l a (sortedL l) = bs at hpl ⊢
  focus (apply gw_d; exact w_len rfl rfl rfl; apply gw_d; exact det_m rfl rfl (by conv => (lhs; whnf)); refine gw_nil ?_; refine gx_next ?_; refine gc_block ?_)
  refine gc_own0 3 1 ?_
  refine gc_loop (σ := Nat × Option Addr × Nat) [31, 32, 33, 34, 9, 10, 35, 36, 37, 38, 39, 8, 40, 30] (fun s => [(8, .slice s.2.1 (follT bs s.1).length s.2.2), (30, .int .i64 s.1)]) (fun s => [Own s.2.1 (follT bs s.1).length s.2.2 3 1 ((follT bs s.1).map (Value.int .i64)), Box bp 4 (bs.map Value.bool).toArray])
    (fun s => s.1 ≤ l.length) (fun s => l.length - s.1) (0, none, 0) (Nat.zero_le _) ⟨rfl, rfl, trivial⟩ (.cons .here (.cons .here .nil)) ?_
  rintro ⟨k, A2, c2⟩ base hk
  dsimp only at hk ⊢
  have hfl := follT_len bs k
  have hsn := follT_snoc bs k
  focus (refine gc_seq ?_; refine gc_region ?_; apply gw_d; exact det_cmp rfl rfl rfl rfl rfl; refine gw_nil ?_; refine gx_next ?_; refine gc_seq ?_)
  refine gc_if_dec rfl (fun h => ?_) (fun h => ?_)
  · have hlt : k < l.length := by omega
    have hpc : (bs.map Value.bool).toArray[k * 1]? = some (.bool (bs.getD k false)) := row_get Value.bool false (by omega)
    focus (refine gc_skip ?_; refine gx_next ?_; refine gc_seq ?_; refine gc_block ?_; refine gc_seq ?_; refine gc_region ?_; apply gw_d; exact det_m rfl rfl (by conv => (lhs; whnf)); apply gw_d; exact w_index rfl rfl rfl rfl (by with_reducible exact rfl) (by omega); apply gw_d; exact w_load_row rfl rfl rfl (.there .here) hpc; apply gw_d; exact det_m rfl rfl (by conv => (lhs; whnf)); apply gw_d; exact det_m rfl rfl (by conv => (lhs; whnf)); refine gw_nil ?_; refine gx_next ?_; refine gc_seq ?_; refine gc_region ?_; apply gw_d; exact det_m rfl rfl (by conv => (lhs; whnf)); refine gw_nil ?_; refine gx_next ?_)
    refine gc_if rfl (fun h3 => ?_) (fun h3 => ?_)
    · rw [if_pos h3] at hsn
      focus (refine gc_region ?_; apply gw_d; exact det_m rfl rfl (by conv => (lhs; whnf)); apply gw_d; exact det_m rfl rfl (by conv => (lhs; whnf)))
      refine gw_bslice1 (v := .int .i64 (k : Int)) rfl rfl rfl rfl rfl (fun bb => ?_)
      refine gw_append (news := [.int .i64 (k : Int)]) rfl rfl rfl (.there .here) rfl (fun w' s _ => ?_) (fun u hu => ?_) (by unfold maxLen; omega) (by omega) (by decide) rfl (fun A3 c3 => ?_)
      · refine ⟨⟨bb, 0, none⟩, rfl, fun i u hu => ?_⟩
        rw [add_zero]
        refine (Box.cell s.head i).trans ?_
        change (#[Value.int .i64 (k : Int)] : Array Value)[i]? = some u
        rw [List.getElem?_toArray]
        exact hu
      · rw [List.mem_singleton] at hu
        subst hu
        rfl
      · focus (apply gw_d; exact det_m rfl rfl (by conv => (lhs; whnf)); refine gw_nil ?_; refine gx_block ?_; refine gx_next ?_; refine gc_region ?_; apply gw_d; exact det_ar rfl rfl rfl rfl rfl (by omega); apply gw_d; exact det_m rfl rfl (by conv => (lhs; whnf)); refine gw_nil ?_)
        refine gx_round (k + 1, A3, c3) hlt (by dsimp only; omega) (by repeat (first | exact Keeps.refl | refine Keeps.upd rfl ?_ | refine Keeps.sets rfl ?_ | refine Keeps.havoc rfl ?_)) ⟨by rw [hsn, List.length_append]; rfl, rfl, trivial⟩ ?_
        dsimp only
        rw [hsn, List.length_append, List.map_append]
        exact .cons .here (.cons (.there .here) .nil)
    · rw [if_neg (by rw [h3]; decide)] at hsn
      focus (refine gc_skip ?_; refine gx_block ?_; refine gx_next ?_; refine gc_region ?_; apply gw_d; exact det_ar rfl rfl rfl rfl rfl (by omega); apply gw_d; exact det_m rfl rfl (by conv => (lhs; whnf)); refine gw_nil ?_)
      refine gx_round (k + 1, A2, c2) hlt (by dsimp only; omega) (by repeat (first | exact Keeps.refl | refine Keeps.upd rfl ?_ | refine Keeps.sets rfl ?_ | refine Keeps.havoc rfl ?_)) ⟨by rw [hsn]; rfl, rfl, trivial⟩ ?_
      dsimp only
      rw [hsn]
      exact Sub.all _
  · obtain rfl : k = l.length := by omega
    focus (refine gc_exit ?_; refine gx_then_exit ?_; refine gx_then_exit ?_; refine gx_block_exit ?_; refine gx_next ?_; refine gc_seq ?_; refine gc_region ?_; apply gw_d; exact det_m rfl rfl (by conv => (lhs; whnf)); apply gw_d; exact det_m rfl rfl (by conv => (lhs; whnf)); apply gw_d; exact det_m rfl rfl (by conv => (lhs; whnf)); refine gw_nil ?_; refine gx_next ?_; refine gc_ret ?_)
    exact gx_ret2 (u := .slice _ _ _) (v := .int _ _) rfl rfl rfl (fun w' s => ⟨(A2, c2), rfl, (s.sub (.cons .here .nil)).sep⟩)
end Go.Proofs.YteiboodeepjanaaGreat
