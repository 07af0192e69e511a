/- Contracts: the reference of chapter 45, critical sums. -/
import Derived.Test.YteiboodeepjanaaGreatR2
namespace Go.Proofs.YteiboodeepjanaaGreat
open Go.RowKit
set_option maxRecDepth 100000
set_option maxHeartbeats 4000000

def startOf (s : List Int) (ps : List Int) (z : Int) : Int := ps.foldl (fun m p => max m (s.getD p.toNat 0)) z
theorem getD_set_other {s : List Int} {i j : Nat} {x : Int} (h : j ≠ i) : (s.set i x).getD j 0 = s.getD j 0 := by
  simp [Ne.symm h]
theorem getD_set_self {s : List Int} {i : Nat} {x : Int} (h : i < s.length) : (s.set i x).getD i 0 = x := by
  simp [h]
theorem sumIn_start {i : Nat} (ps : List Int) : ∀ (s : List Int), i < s.length → (∀ p ∈ ps, p.toNat ≠ i) → sumIn i s ps = s.set i (startOf s ps (s.getD i 0)) := by
  induction ps with
  | nil =>
    intro s hi _
    show s = s.set i (s.getD i 0)
    have : s.getD i 0 = s[i] := by simp [hi]
    rw [this, List.set_getElem_self]
  | cons p ps ih =>
    intro s hi hp
    have hpi := hp p List.mem_cons_self
    have h1 := ih (sumStep i s p) (by unfold sumStep; simpa using hi) (fun q hq => hp q (List.mem_cons_of_mem _ hq))
    show sumIn i (sumStep i s p) ps = _
    rw [h1]
    have h2 : ∀ (qs : List Int) (z : Int), (∀ q ∈ qs, q.toNat ≠ i) → startOf (sumStep i s p) qs z = startOf s qs z := by
      intro qs
      induction qs with
      | nil => intro z _; rfl
      | cons q qs ihq =>
        intro z hq
        show startOf (sumStep i s p) qs (max z ((sumStep i s p).getD q.toNat 0)) = startOf s qs (max z (s.getD q.toNat 0))
        have : (sumStep i s p).getD q.toNat 0 = s.getD q.toNat 0 := getD_set_other (hq q List.mem_cons_self)
        rw [this, ihq _ fun r hr => hq r (List.mem_cons_of_mem _ hr)]
    rw [h2 ps _ fun q hq => hp q (List.mem_cons_of_mem _ hq)]
    have h3 : (sumStep i s p).getD i 0 = max (s.getD i 0) (s.getD p.toNat 0) := getD_set_self hi
    rw [h3]
    unfold sumStep
    rw [List.set_set]
    rfl
theorem crit_zero {l : List Opn} {j : Nat} : ∀ (k : Nat) (_ : k ≤ (sortedL l).length), (∀ q (hq : q < (sortedL l).length), q < k → (sortedL l)[q].toNat ≠ j) → (critS l ((sortedL l).take k)).1.getD j 0 = 0
  | 0, _, _ => by
    show (List.replicate l.length (0 : Int)).getD j 0 = 0
    by_cases h : j < l.length <;> simp [h]
  | k + 1, hk, hq => by
    have hkl : k < (sortedL l).length := by omega
    have ih := crit_zero (l := l) (j := j) k (by omega) fun q hq1 h1 => hq q hq1 (by omega)
    have hne := hq k hkl (by omega)
    rw [critS_snoc hkl]
    show (sumOne l _ _).getD j 0 = 0
    unfold sumOne
    rw [getD_set_other (Ne.symm hne)]
    have : ∀ (ps : List Int) (s : List Int), (sumIn (sortedL l)[k].toNat s ps).getD j 0 = s.getD j 0 := by
      intro ps
      induction ps with
      | nil => intro s; rfl
      | cons p ps ihp => intro s; exact (ihp _).trans (getD_set_other (Ne.symm hne))
    rw [this, ih]

theorem rCritical_bad (w : World) (v : Value) (l : List Opn) (hl : Sl rOp w w.heap.size v l) (hne : ¬ listE l (-1) = 0) :
    Ok Tryz.prog 20 [v].toArray w fun r _ => r = .tuple #[.int .i64 0, .int .i64 (listE l (-1))] := by
  obtain ⟨A0, c0, rfl, hc, hm⟩ := len_small hl
  refine ok_enter Tryz.func20 rfl Tryz.ntmps20 rfl ?_
  focus (refine gc_seq ?_; refine gc_region ?_; apply gw_d; exact det_m rfl rfl (by conv => (lhs; whnf)); apply gw_d; exact det_m rfl rfl (by conv => (lhs; whnf)); refine gw_nil ?_; refine gx_next ?_; refine gc_seq ?_; refine gc_seq ?_; refine gc_region ?_; apply gw_d; exact det_m rfl rfl (by conv => (lhs; whnf)); apply gw_d; exact w_call rfl rfl (fun w s => sound_ok w _ l (hl.later s)) rfl; apply gw_d; exact det_m rfl rfl (by conv => (lhs; whnf)); refine gw_nil ?_; refine gx_next ?_; refine gc_seq ?_; refine gc_region ?_; apply gw_d; exact det_m rfl rfl (by conv => (lhs; whnf)); apply gw_d; exact det_cmp rfl rfl rfl rfl rfl; refine gw_nil ?_; refine gx_next ?_)
  refine gc_if_dec rfl (fun _ => ?_) (fun h => absurd hne h)
  focus (refine gc_seq ?_; refine gc_region ?_; apply gw_d; exact det_m rfl rfl (by conv => (lhs; whnf)); apply gw_d; exact det_m rfl rfl (by conv => (lhs; whnf)); apply gw_d; exact det_m rfl rfl (by conv => (lhs; whnf)); refine gw_nil ?_; refine gx_next ?_; refine gc_ret ?_; refine gx_then_ret ?_)
  refine gx_ret2 (u := .int _ _) (v := .int _ _) rfl rfl rfl (fun _ _ => ?_)
  rfl
theorem rCritical_good (w : World) (v : Value) (l : List Opn) (hl : Sl rOp w w.heap.size v l) (he : listE l (-1) = 0) :
    Ok Tryz.prog 20 [v].toArray w fun r _ => r = .tuple #[.int .i64 (critS l (sortedL l)).2, .int .i64 0] := by
  obtain ⟨A0, c0, rfl, hc, hm⟩ := len_small hl
  have hG := list_good he
  have h16 := hG.le
  have hsl := hG.full
  refine ok_enter Tryz.func20 rfl Tryz.ntmps20 rfl ?_
  focus (refine gc_seq ?_; refine gc_region ?_; apply gw_d; exact det_m rfl rfl (by conv => (lhs; whnf)); apply gw_d; exact det_m rfl rfl (by conv => (lhs; whnf)); refine gw_nil ?_; refine gx_next ?_; refine gc_seq ?_; refine gc_seq ?_; refine gc_region ?_; apply gw_d; exact det_m rfl rfl (by conv => (lhs; whnf)); apply gw_d; exact w_call rfl rfl (fun w s => sound_ok w _ l (hl.later s)) rfl; apply gw_d; exact det_m rfl rfl (by conv => (lhs; whnf)); refine gw_nil ?_; refine gx_next ?_; refine gc_seq ?_; refine gc_region ?_; apply gw_d; exact det_m rfl rfl (by conv => (lhs; whnf)); apply gw_d; exact det_cmp rfl rfl rfl rfl rfl; refine gw_nil ?_; refine gx_next ?_)
  refine gc_if_dec rfl (fun h => absurd he h) (fun _ => ?_)
  focus (refine gc_skip ?_; refine gx_next ?_; refine gc_seq ?_; refine gc_region ?_; apply gw_d; exact det_m rfl rfl (by conv => (lhs; whnf)))
  refine gw_callm rfl (fun w s => rsorted_ok w _ l (hl.later s) (by omega)) rfl (fun x => ?_)
  obtain ⟨A, c⟩ := x
  focus (apply gw_d; exact det_m rfl rfl (by conv => (lhs; whnf)); refine gw_nil ?_; refine gx_next ?_; refine gc_seq ?_; refine gc_region ?_; apply gw_d; exact det_m rfl rfl (by conv => (lhs; whnf)); apply gw_d; exact w_len rfl rfl rfl)
  refine gw_make1 (n := l.length) rfl rfl rfl rfl rfl (by omega) (by omega) rfl (fun b => ?_)
  rw [show Array.replicate l.length ((Value.int .i64 0).cells.getD 0 undef) = (((critS l ((sortedL l).take 0)).1).map (Value.int .i64)).toArray from row_make (Value.int .i64) l.length 0]
  focus (apply gw_d; exact det_m rfl rfl (by conv => (lhs; whnf)); refine gw_nil ?_; refine gx_next ?_; refine gc_seq ?_; refine gc_region ?_; apply gw_d; exact det_m rfl rfl (by conv => (lhs; whnf)); refine gw_nil ?_; refine gx_next ?_; refine gc_seq ?_; refine gc_seq ?_; refine gc_region ?_; apply gw_d; exact det_m rfl rfl (by conv => (lhs; whnf)); refine gw_nil ?_; refine gx_next ?_; refine gc_block ?_)
  refine gc_loop (σ := Nat) [22, 23, 24, 25, 28, 29, 30, 31, 9, 10, 11, 32, 33, 34, 35, 36, 37, 38, 39, 42, 43, 44, 45, 46, 47, 48, 49, 50, 51, 52, 53, 54, 40, 41, 55, 56, 57, 58, 59, 60, 61, 62, 63, 64, 65, 66, 67, 68, 69, 70, 7, 26, 27, 8] (fun k => [(8, .int .i64 k), (7, .int .i64 (critS l ((sortedL l).take k)).2)]) (fun k => [Box b 3 (((critS l ((sortedL l).take k)).1).map (Value.int .i64)).toArray, Own A (sortedL l).length c 3 1 ((sortedL l).map (Value.int .i64))])
    (fun k => k ≤ l.length ∧ (critS l ((sortedL l).take k)).1.length = l.length ∧ Lo (critS l ((sortedL l).take k)).1 (10000 * k) ∧ 0 ≤ (critS l ((sortedL l).take k)).2 ∧ (critS l ((sortedL l).take k)).2 ≤ 10000 * k) (fun k => l.length - k) 0
    ⟨Nat.zero_le _, by simp [critS], fun x hx => by have := (List.mem_replicate.1 hx).2; omega, by show (0 : Int) ≤ 0; omega, by show (0 : Int) ≤ 0; omega⟩ ⟨rfl, rfl, trivial⟩ (.cons .here (.cons .here .nil)) ?_
  rintro k base ⟨hk, hlen, hlo, hg0, hg1⟩
  focus (refine gc_seq ?_; refine gc_seq ?_; refine gc_region ?_; apply gw_d; exact det_m rfl rfl (by conv => (lhs; whnf)); apply gw_d; exact det_m rfl rfl (by conv => (lhs; whnf)); apply gw_d; exact w_len rfl rfl rfl; apply gw_d; exact det_cmp rfl rfl rfl rfl rfl; refine gw_nil ?_; refine gx_next ?_)
  refine gc_if_dec rfl (fun h => ?_) (fun h => ?_)
  · have hlt : k < (sortedL l).length := by omega
    have haft := sorted_after hlt
    have hnew := sorted_new hlt
    obtain ⟨i, hi, hil, _⟩ := sorted_at hlt
    have hsn := critS_snoc (l := l) hlt
    rw [hi, Int.toNat_natCast] at hsn haft
    rw [afterOf_get hil] at haft
    obtain ⟨⟨hmin1, hmin2⟩, haf⟩ := hG.one hil
    have hpi : ∀ p ∈ l[i].after, p.toNat ≠ i := fun p hp hc => by
      have h1 := haft p hp
      have h2 := haf p hp
      have : p = (sortedL l)[k] := by rw [hi]; omega
      exact hnew (this ▸ h1)
    have hzero : (critS l ((sortedL l).take k)).1.getD i 0 = 0 := crit_zero k (by omega) fun q hq h1 h2 => by
      have hr := sorted_mem (l := l) _ (List.getElem_mem hq)
      have := sorted_inj hq hlt (by rw [hi]; omega)
      omega
    obtain ⟨ad, _, hv, _, _, hb, hcell⟩ := hl.at' 5 rfl (by omega)
    injection hv with e1 e2 e3
    subst e1 e3
    obtain ⟨cs, hce, Aa, ca, Au, cu, rfl, _, q1, q2⟩ := hcell i hil
    have hce3 := hce 3 _ rfl
    have hce2 := hce 2 _ rfl
    have ha : Sl rInt w w.heap.size (.slice Aa l[i].after.length ca) l[i].after := q1
    obtain ⟨_, _, hv, hac, ham, hacell⟩ := ha.int
    injection hv with e1 e2 e3
    subst e1 e3
    refine gc_ownbox (by omega) (.there .here) fun g ocs hA hosz hotk => ?_
    subst hA
    have hoc := take_at hotk hlt
    rw [hi] at hoc
    generalize critS l ((sortedL l).take k) = S at hsn hlen hlo hg0 hg1 hzero ⊢
    obtain ⟨sm, gr⟩ := S
    dsimp only at hsn hlen hlo hg0 hg1 hzero ⊢
    focus (refine gc_skip ?_; refine gx_next ?_; refine gc_seq ?_; refine gc_block ?_; refine gc_seq ?_; refine gc_region ?_; apply gw_d; exact det_m rfl rfl (by conv => (lhs; whnf)); apply gw_d; exact det_m rfl rfl (by conv => (lhs; whnf)); apply gw_d; exact w_index rfl rfl rfl rfl (by with_reducible exact rfl) (by omega); apply gw_d; exact w_load_row rfl rfl rfl .here hoc; apply gw_d; exact det_m rfl rfl (by conv => (lhs; whnf)); refine gw_nil ?_; refine gx_next ?_; refine gc_seq ?_; refine gc_region ?_; apply gw_d; exact det_m rfl rfl (by conv => (lhs; whnf)); refine gw_nil ?_; refine gx_next ?_; refine gc_seq ?_; refine gc_seq ?_; refine gc_region ?_; apply gw_d; exact det_m rfl rfl (by conv => (lhs; whnf)); refine gw_nil ?_; refine gx_next ?_; refine gc_block ?_)
    refine gc_loopK (σ := Nat) [32, 33, 34, 35, 36, 37, 38, 39, 42, 43, 44, 45, 46, 47, 48, 49, 50, 51, 52, 53, 54, 10, 40, 41, 11] (fun j => [(11, .int .i64 j), (10, .int .i64 (startOf sm (l[i].after.take j) 0))]) (fun j => j ≤ l[i].after.length) (fun j => l[i].after.length - j) 0 (Nat.zero_le _) ⟨rfl, rfl, trivial⟩ ?_
    rintro j base2 hj
    focus (refine gc_seq ?_; refine gc_seq ?_; refine gc_region ?_; apply gw_d; exact det_m rfl rfl (by conv => (lhs; whnf)); apply gw_d; exact det_m rfl rfl (by conv => (lhs; whnf)); apply gw_d; exact det_m rfl rfl (by conv => (lhs; whnf)); apply gw_d; exact w_index rfl rfl rfl rfl (by with_reducible exact rfl) (by omega); apply gw_d; exact w_field rfl rfl rfl; apply gw_d; exact w_load_fld rfl rfl rfl (by assumption) (by assumption); apply gw_d; exact w_len rfl rfl rfl; apply gw_d; exact det_cmp rfl rfl rfl rfl rfl; refine gw_nil ?_; refine gx_next ?_)
    refine gc_if_dec rfl (fun h2 => ?_) (fun h2 => ?_)
    · have hjl : j < l[i].after.length := by omega
      obtain ⟨ad2, rfl, hb2, hce4, _⟩ := hacell j hjl
      have hpr := haf l[i].after[j] (List.getElem_mem hjl)
      obtain ⟨p, hp⟩ : ∃ p : Nat, l[i].after[j] = (p : Int) := ⟨l[i].after[j].toNat, by omega⟩
      have hss : startOf sm (l[i].after.take (j + 1)) 0 = max (startOf sm (l[i].after.take j) 0) (sm.getD p 0) := by
        unfold startOf
        rw [List.take_succ_eq_append_getElem hjl, List.foldl_append, hp]
        rfl
      rw [hp] at hce4
      have hpc : (sm.map (Value.int .i64)).toArray[p * 1]? = some (.int .i64 (sm.getD p 0)) := row_get (Value.int .i64) 0 (by omega)
      focus (refine gc_skip ?_; refine gx_next ?_; refine gc_seq ?_; refine gc_block ?_; refine gc_region ?_; apply gw_d; exact det_m rfl rfl (by conv => (lhs; whnf)); apply gw_d; exact det_m rfl rfl (by conv => (lhs; whnf)); apply gw_d; exact det_m rfl rfl (by conv => (lhs; whnf)); apply gw_d; exact det_m rfl rfl (by conv => (lhs; whnf)); apply gw_d; exact w_index rfl rfl rfl rfl (by with_reducible exact rfl) (by omega); apply gw_d; exact w_field rfl rfl rfl; apply gw_d; exact w_load_fld rfl rfl rfl (by assumption) (by assumption); apply gw_d; exact det_m rfl rfl (by conv => (lhs; whnf)); apply gw_d; exact w_index rfl rfl rfl rfl (by with_reducible exact rfl) (by omega); apply gw_d; exact w_load_at rfl rfl rfl (by assumption) (by assumption); apply gw_d; exact w_index rfl rfl rfl rfl (by with_reducible exact rfl) (by omega); apply gw_d; exact w_load_row rfl rfl rfl (.there .here) hpc; apply gw_d; exact w_max rfl rfl rfl rfl; apply gw_d; exact det_m rfl rfl (by conv => (lhs; whnf)); refine gw_nil ?_; refine gx_block ?_; refine gx_next ?_; refine gc_region ?_; apply gw_d; exact det_m rfl rfl (by conv => (lhs; whnf)); apply gw_d; exact det_ar rfl rfl rfl rfl rfl (by omega); apply gw_d; exact det_m rfl rfl (by conv => (lhs; whnf)); refine gw_nil ?_)
      exact gx_round (j + 1) hjl (by omega) (by repeat (first | exact Keeps.refl | refine Keeps.upd rfl ?_ | refine Keeps.sets rfl ?_ | refine Keeps.havoc rfl ?_)) ⟨rfl, by rw [hss]; rfl, trivial⟩ (Sub.all _)
    · obtain rfl : j = l[i].after.length := by omega
      rw [List.take_length]
      have hst := sumIn_start (i := i) l[i].after sm (by omega) hpi
      rw [hzero] at hst
      have hlo2 := sumIn_lo (b := 10000 * k) (by omega) i l[i].after sm hlo
      have hbd : 0 ≤ startOf sm l[i].after 0 ∧ startOf sm l[i].after 0 ≤ 10000 * k := by
        have := hlo2.get (by omega) i
        rw [hst, getD_set_self (by omega)] at this
        exact this
      have hone : sumOne l sm i = sm.set i (startOf sm l[i].after 0 + l[i].minutes) := by
        unfold sumOne
        rw [afterOf_get hil, minOf_get hil]
        dsimp only
        rw [hst, getD_set_self (by omega), List.set_set]
      have hlo3 := sumOne_lo (l := l) (s := sm) (b := 10000 * k) (by omega) hlo i (by rw [minOf_get hil]; omega)
      have hlen3 := sumOne_len l sm i
      focus (refine gc_exit ?_; refine gx_then_exit ?_; refine gx_then_exit ?_; refine gx_block_exit ?_; refine gx_next ?_; refine gc_seq ?_; refine gc_region ?_; apply gw_d; exact det_m rfl rfl (by conv => (lhs; whnf)); apply gw_d; exact det_m rfl rfl (by conv => (lhs; whnf)); apply gw_d; exact det_m rfl rfl (by conv => (lhs; whnf)); apply gw_d; exact det_m rfl rfl (by conv => (lhs; whnf)); apply gw_d; exact det_m rfl rfl (by conv => (lhs; whnf)); apply gw_d; exact w_index rfl rfl rfl rfl (by with_reducible exact rfl) (by omega); apply gw_d; exact w_field rfl rfl rfl; apply gw_d; exact w_load_fld rfl rfl rfl (by assumption) (by assumption); apply gw_d; exact det_ar rfl rfl rfl rfl rfl (by omega); apply gw_d; exact w_index rfl rfl rfl rfl (by with_reducible exact rfl) (by omega))
      refine w_store_row (n := 1) (v := .int .i64 (startOf sm l[i].after 0 + l[i].minutes)) rfl rfl rfl rfl rfl (.there .here) (by simp; omega) (row_set (Value.int .i64) (by omega) _) ?_
      rw [← hone]
      have hpj : ((sumOne l sm i).map (Value.int .i64)).toArray[i * 1]? = some (.int .i64 ((sumOne l sm i).getD i 0)) := row_get (Value.int .i64) 0 (by omega)
      have hbd3 := hlo3.get (by omega) i
      focus (refine gw_nil ?_; refine gx_next ?_; refine gc_region ?_; apply gw_d; exact det_m rfl rfl (by conv => (lhs; whnf)); apply gw_d; exact det_m rfl rfl (by conv => (lhs; whnf)); apply gw_d; exact det_m rfl rfl (by conv => (lhs; whnf)); apply gw_d; exact w_index rfl rfl rfl rfl (by with_reducible exact rfl) (by omega); apply gw_d; exact w_load_row rfl rfl rfl .here hpj; apply gw_d; exact w_max rfl rfl rfl rfl; apply gw_d; exact det_m rfl rfl (by conv => (lhs; whnf)); refine gw_nil ?_; refine gx_block ?_; refine gx_next ?_; refine gc_region ?_; apply gw_d; exact det_m rfl rfl (by conv => (lhs; whnf)); apply gw_d; exact det_ar rfl rfl rfl rfl rfl (by omega); apply gw_d; exact det_m rfl rfl (by conv => (lhs; whnf)); refine gw_nil ?_)
      refine gx_roundE (k + 1) ⟨by omega, by rw [hsn]; dsimp only; omega, by rw [hsn]; intro x hx; have := hlo3 x hx; omega, by rw [hsn]; dsimp only; omega, by rw [hsn]; dsimp only; omega⟩ (by omega) (by repeat (first | exact Keeps.refl | refine Keeps.upd rfl ?_ | refine Keeps.sets rfl ?_ | refine Keeps.havoc rfl ?_)) ⟨rfl, by rw [hsn]; rfl, trivial⟩ ?_
      rw [hsn]
      refine Ent.trans (Ent.trans (Sub.ent (.cons (.there .here) (.cons .here .nil))) (box_own hosz hotk)) (Sub.ent (.cons (.there .here) (.cons .here .nil)))
  · obtain rfl : k = l.length := by omega
    rw [List.take_of_length_le (by omega)]
    focus (refine gc_exit ?_; refine gx_then_exit ?_; refine gx_then_exit ?_; refine gx_block_exit ?_; refine gx_next ?_; refine gc_seq ?_; refine gc_region ?_; apply gw_d; exact det_m rfl rfl (by conv => (lhs; whnf)); apply gw_d; exact det_m rfl rfl (by conv => (lhs; whnf)); apply gw_d; exact det_m rfl rfl (by conv => (lhs; whnf)); refine gw_nil ?_; refine gx_next ?_; refine gc_ret ?_)
    refine gx_ret2 (u := .int _ _) (v := .int _ _) rfl rfl rfl (fun _ _ => ?_)
    rfl
end Go.Proofs.YteiboodeepjanaaGreat
