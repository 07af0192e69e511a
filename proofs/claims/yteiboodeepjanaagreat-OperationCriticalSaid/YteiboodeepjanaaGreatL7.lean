/- The law OperationCritical: the walk. -/
import Derived.Test.YteiboodeepjanaaGreatQ1
import Derived.Test.YteiboodeepjanaaGreatFwN
namespace Go.Proofs.YteiboodeepjanaaGreat
open Go.RowKit
set_option maxRecDepth 100000
set_option maxHeartbeats 4000000

def sumM (l : List Opn) (o : List Int) : Int := o.foldl (fun s i => s + minOf l i.toNat) 0
theorem sumM_snoc {l : List Opn} {o : List Int} {k : Nat} (hk : k < o.length) : sumM l (o.take (k + 1)) = sumM l (o.take k) + minOf l o[k].toNat := by
  unfold sumM
  rw [List.take_succ_eq_append_getElem hk, List.foldl_append]
  rfl
theorem sumOne_lo2 {l : List Opn} {s : List Int} {b : Int} (hb : 0 ≤ b) (h : Lo s b) (i : Nat) (hm : 0 ≤ minOf l i) : Lo (sumOne l s i) (b + minOf l i) := by
  have h1 := sumIn_lo hb i (afterOf l i) s h
  have h2 := h1.get hb i
  have h3 : Lo (sumIn i s (afterOf l i)) (b + minOf l i) := fun x hx => by have := h1 x hx; omega
  exact h3.set i (by omega)

theorem lawCritical_ok (w : World) (v : Value) (l : List Opn) (hl : Sl rOp w w.heap.size v l) : Ok Tryz.prog 7 [v].toArray w fun r _ => r = .bool true := by
  obtain ⟨A0, c0, rfl, hc, hm⟩ := len_small hl
  by_cases he : listE l (-1) = 0
  · have hG := list_good he
    have h16 := hG.le
    have hsl := hG.full
    have hin : ∀ x ∈ sortedL l, inI64 x := fun x hx => by have := sorted_mem (l := l) x hx; unfold inI64; omega
    have hix : areIx (sortedL l) l.length = true := by
      unfold areIx
      rw [List.all_eq_true]
      intro x hx
      have := sorted_mem (l := l) x hx
      simp [this.1, this.2]
    refine ok_enter Tryz.func7 rfl Tryz.ntmps7 rfl ?_
    focus (refine gc_seq ?_; refine gc_region ?_; apply gw_d; exact det_m rfl rfl (by conv => (lhs; whnf)); refine gw_nil ?_; refine gx_next ?_; refine gc_seq ?_; refine gc_seq ?_; refine gc_region ?_; apply gw_d; exact det_m rfl rfl (by conv => (lhs; whnf)); apply gw_d; exact w_call rfl rfl (fun w s => few_ok w _ l (hl.later s)) rfl; apply gw_d; exact det_not_ rfl rfl rfl; refine gw_nil ?_; refine gx_next ?_)
    refine gc_if rfl (fun _ => ?_) (fun _ => ?_)
    · focus (refine gc_seq ?_; refine gc_region ?_; apply gw_d; exact w_call rfl rfl (fun w s => awake_ok w) rfl; apply gw_d; exact det_m rfl rfl (by conv => (lhs; whnf)); refine gw_nil ?_; refine gx_next ?_; refine gc_ret ?_; refine gx_then_ret ?_)
      refine gx_ret1 (v := .bool _) rfl rfl (fun _ _ => ?_)
      rfl
    focus (refine gc_skip ?_; refine gx_next ?_; refine gc_seq ?_; refine gc_region ?_; apply gw_d; exact det_m rfl rfl (by conv => (lhs; whnf)))
    refine gw_callm rfl (fun w s => Order_good w _ l (hl.later s) he) rfl (fun x => ?_)
    obtain ⟨A, c⟩ := x
    focus (apply gw_d; exact det_m rfl rfl (by conv => (lhs; whnf)); apply gw_d; exact det_extract rfl rfl rfl (by conv => (lhs; whnf)); apply gw_d; exact det_extract rfl rfl rfl (by conv => (lhs; whnf)); apply gw_d; exact det_m rfl rfl (by conv => (lhs; whnf)); apply gw_d; exact det_m rfl rfl (by conv => (lhs; whnf)); refine gw_nil ?_; refine gx_next ?_; refine gc_seq ?_; refine gc_region ?_; apply gw_d; exact det_m rfl rfl (by conv => (lhs; whnf)); apply gw_d; exact w_call rfl rfl (fun w s => Critical_good w _ l (hl.later s) he) rfl; apply gw_d; exact det_m rfl rfl (by conv => (lhs; whnf)); apply gw_d; exact det_extract rfl rfl rfl (by conv => (lhs; whnf)); apply gw_d; exact det_extract rfl rfl rfl (by conv => (lhs; whnf)); apply gw_d; exact det_m rfl rfl (by conv => (lhs; whnf)); apply gw_d; exact det_m rfl rfl (by conv => (lhs; whnf)); refine gw_nil ?_; refine gx_next ?_; refine gc_seq ?_; refine gc_seq ?_; refine gc_region ?_; apply gw_d; exact det_m rfl rfl (by conv => (lhs; whnf)); apply gw_d; exact det_cmp rfl rfl rfl rfl rfl; refine gw_nil ?_; refine gx_next ?_)
    refine gc_if_dec rfl (fun h => absurd rfl h) (fun _ => ?_)
    have hC : ∀ (L : List Res) (w' : World), St w (Own A l.length c 3 1 ((sortedL l).map (Value.int .i64)) :: L) w' → Ok Tryz.prog 26 [.slice A l.length c, .int .i64 l.length].toArray w' fun r _ => r = .bool true := fun L w' s => by
      have h := withinL_ok w' _ (sortedL l) l.length (Sl.ownI s .here hsl.symm hin)
      rw [hix] at h
      exact h
    focus (refine gc_skip ?_; refine gx_next ?_; refine gc_seq ?_; refine gc_seq ?_; refine gc_region ?_; apply gw_d; exact det_m rfl rfl (by conv => (lhs; whnf)); apply gw_d; exact w_len rfl rfl rfl; apply gw_d; exact det_m rfl rfl (by conv => (lhs; whnf)); apply gw_d; exact w_len rfl rfl rfl; apply gw_d; exact det_cmp rfl rfl rfl rfl rfl; apply gw_d; exact det_m rfl rfl (by conv => (lhs; whnf)))
    refine gw_guard_dec rfl rfl (fun h => absurd rfl h) (fun _ => ?_)
    focus (apply gw_d; exact det_m rfl rfl (by conv => (lhs; whnf)); apply gw_d; exact det_m rfl rfl (by conv => (lhs; whnf)); apply gw_d; exact w_len rfl rfl rfl; apply gw_d; exact w_call rfl rfl (hC _) rfl; apply gw_d; exact det_not_ rfl rfl rfl; apply gw_d; exact det_pick_f (v := .bool _) rfl rfl rfl rfl; refine gw_nil ?_; refine gx_next ?_)
    refine gc_if_false rfl ?_
    focus (refine gc_skip ?_; refine gx_next ?_; refine gc_seq ?_; refine gc_region ?_; apply gw_d; exact det_m rfl rfl (by conv => (lhs; whnf)); apply gw_d; exact w_len rfl rfl rfl)
    refine gw_make1 (n := l.length) rfl rfl rfl rfl rfl (by omega) (by omega) rfl (fun b => ?_)
    rw [show Array.replicate l.length ((Value.int .i64 0).cells.getD 0 undef) = (((critS l ((sortedL l).take 0)).1).map (Value.int .i64)).toArray from row_make (Value.int .i64) l.length 0]
    focus (apply gw_d; exact det_m rfl rfl (by conv => (lhs; whnf)); refine gw_nil ?_; refine gx_next ?_; refine gc_seq ?_; refine gc_region ?_; apply gw_d; exact det_m rfl rfl (by conv => (lhs; whnf)); apply gw_d; exact det_m rfl rfl (by conv => (lhs; whnf)); refine gw_nil ?_; refine gx_next ?_; refine gc_seq ?_; refine gc_seq ?_; refine gc_region ?_; apply gw_d; exact det_m rfl rfl (by conv => (lhs; whnf)); refine gw_nil ?_; refine gx_next ?_; refine gc_block ?_)
    refine gc_loop (σ := Nat) [55, 56, 57, 58, 61, 62, 63, 64, 11, 12, 65, 66, 67, 68, 69, 70, 71, 72, 75, 76, 77, 78, 79, 80, 81, 82, 13, 83, 84, 85, 86, 87, 88, 89, 90, 91, 92, 93, 94, 95, 96, 97, 98, 2, 99, 100, 101, 102, 103, 104, 105, 106, 107, 108, 109, 110, 73, 74, 111, 112, 113, 114, 115, 116, 117, 118, 119, 120, 121, 122, 123, 124, 125, 126, 127, 128, 129, 130, 131, 132, 133, 134, 135, 136, 8, 9, 59, 60, 10] (fun k => [(10, .int .i64 k), (8, .int .i64 (critS l ((sortedL l).take k)).2), (9, .int .i64 (sumM l ((sortedL l).take k)))]) (fun k => [Box b 3 (((critS l ((sortedL l).take k)).1).map (Value.int .i64)).toArray, Own A l.length c 3 1 ((sortedL l).map (Value.int .i64))])
      (fun k => k ≤ l.length ∧ (critS l ((sortedL l).take k)).1.length = l.length ∧ Lo (critS l ((sortedL l).take k)).1 (sumM l ((sortedL l).take k)) ∧ (0 ≤ (critS l ((sortedL l).take k)).2 ∧ (critS l ((sortedL l).take k)).2 ≤ sumM l ((sortedL l).take k)) ∧ (0 ≤ sumM l ((sortedL l).take k) ∧ sumM l ((sortedL l).take k) ≤ 10000 * k)) (fun k => l.length - k) 0
      ⟨Nat.zero_le _, by simp [critS], fun x hx => by have := (List.mem_replicate.1 hx).2; subst this; exact ⟨Int.le_refl _, Int.le_refl _⟩, ⟨Int.le_refl _, Int.le_refl _⟩, Int.le_refl _, Int.le_refl _⟩ ⟨rfl, rfl, rfl, trivial⟩ (.cons .here (.cons .here .nil)) ?_
    rintro k base ⟨hk, hlen, hlo, hg, hsm⟩
    focus (refine gc_seq ?_; refine gc_seq ?_; refine gc_region ?_; apply gw_d; exact det_m rfl rfl (by conv => (lhs; whnf)); apply gw_d; exact det_m rfl rfl (by conv => (lhs; whnf)); apply gw_d; exact w_len rfl rfl rfl; apply gw_d; exact det_cmp rfl rfl rfl rfl rfl; refine gw_nil ?_; refine gx_next ?_)
    refine gc_if_dec rfl (fun h => ?_) (fun h => ?_)
    · have hlt : k < (sortedL l).length := by omega
      have haft := sorted_after hlt
      obtain ⟨i, hi, hil, _⟩ := sorted_at hlt
      have hsn := critS_snoc (l := l) hlt
      have hss := sumM_snoc (l := l) hlt
      rw [hi, Int.toNat_natCast] at hsn hss haft
      rw [minOf_get hil] at hss
      rw [afterOf_get hil] at haft
      obtain ⟨⟨hmin1, hmin2⟩, haf⟩ := hG.one hil
      obtain ⟨ad, _, hv, _, _, hb, hcell⟩ := hl.at' 5 rfl (by omega)
      injection hv with e1 e2 e3
      subst e1 e3
      obtain ⟨cs, hce, Aa, ca, Au, cu, rfl, _, q1, q2⟩ := hcell i hil
      have hce3 := hce 3 _ rfl
      have hce2 := hce 2 _ rfl
      have ha : Sl rInt w w.heap.size (.slice Aa l[i].after.length ca) l[i].after := q1
      obtain ⟨_, _, hv, hac, ham, hacell⟩ := ha.int
      injection hv with e1 e2 e3
      subst e1 e3
      refine gc_ownbox (by omega) (.there .here) fun g ocs hA hosz hotk => ?_
      subst hA
      have hoc := take_at hotk hlt
      rw [hi] at hoc
      have hkc : k ≤ c := by have := hosz.1; omega
      have hHas : ∀ (x : Int) (R : Res) (L : List Res) (w' : World), x ∈ (sortedL l).take k → St w (R :: Box g 3 ocs :: L) w' → Ok Tryz.prog 27 [.slice (some ⟨g, 0, none⟩) k c, .int .i64 x].toArray w' fun r _ => r = .bool true := fun x R L w' hx s => by
        have := has_ok w' _ _ x ((Sl.boxO s (.there .here) hotk hsl.symm hosz.1 hosz.2.1 hin).take (m := k) (by omega))
        rw [hasB_iff.2 hx] at this
        exact this
      generalize critS l ((sortedL l).take k) = S at hsn hlen hlo hg ⊢
      generalize sumM l ((sortedL l).take k) = sm0 at hss hlo hg hsm ⊢
      obtain ⟨sm, gr⟩ := S
      dsimp only at hsn hlen hlo hg ⊢
      focus (refine gc_skip ?_; refine gx_next ?_; refine gc_seq ?_; refine gc_block ?_; refine gc_seq ?_; refine gc_region ?_; apply gw_d; exact det_m rfl rfl (by conv => (lhs; whnf)); apply gw_d; exact det_m rfl rfl (by conv => (lhs; whnf)); apply gw_d; exact w_index rfl rfl rfl rfl (by with_reducible exact rfl) (by omega); apply gw_d; exact w_load_row rfl rfl rfl .here hoc; apply gw_d; exact det_m rfl rfl (by conv => (lhs; whnf)); refine gw_nil ?_; refine gx_next ?_; refine gc_seq ?_; refine gc_seq ?_; refine gc_region ?_; apply gw_d; exact det_m rfl rfl (by conv => (lhs; whnf)); refine gw_nil ?_; refine gx_next ?_; refine gc_block ?_)
      refine gc_loop (σ := Nat) [65, 66, 67, 68, 69, 70, 71, 72, 75, 76, 77, 78, 79, 80, 81, 82, 13, 83, 84, 85, 86, 87, 88, 89, 90, 91, 92, 93, 94, 95, 96, 97, 98, 2, 99, 100, 101, 102, 103, 104, 105, 106, 107, 108, 109, 110, 73, 74, 12] (fun j => [(12, .int .i64 j)]) (fun j => [Box b 3 ((sumIn i sm (l[i].after.take j)).map (Value.int .i64)).toArray, Box g 3 ocs]) (fun j => j ≤ l[i].after.length) (fun j => l[i].after.length - j) 0 (Nat.zero_le _) ⟨rfl, trivial⟩ (.cons (.there .here) (.cons .here .nil)) ?_
      rintro j base2 hj
      have hl2 := sumIn_len i (l[i].after.take j) sm
      have hlo2 := sumIn_lo (b := sm0) (by omega) i (l[i].after.take j) sm hlo
      focus (refine gc_seq ?_; refine gc_seq ?_; refine gc_region ?_; apply gw_d; exact det_m rfl rfl (by conv => (lhs; whnf)); apply gw_d; exact det_m rfl rfl (by conv => (lhs; whnf)); apply gw_d; exact det_m rfl rfl (by conv => (lhs; whnf)); apply gw_d; exact w_index rfl rfl rfl rfl (by with_reducible exact rfl) (by omega); apply gw_d; exact w_field rfl rfl rfl; apply gw_d; exact w_load_fld rfl rfl rfl (by assumption) (by assumption); apply gw_d; exact w_len rfl rfl rfl; apply gw_d; exact det_cmp rfl rfl rfl rfl rfl; refine gw_nil ?_; refine gx_next ?_)
      refine gc_if_dec rfl (fun h2 => ?_) (fun h2 => ?_)
      · have hjl : j < l[i].after.length := by omega
        obtain ⟨ad2, rfl, hb2, hce4, _⟩ := hacell j hjl
        have hpr := haf l[i].after[j] (List.getElem_mem hjl)
        have hpm := haft l[i].after[j] (List.getElem_mem hjl)
        obtain ⟨p, hp⟩ : ∃ p : Nat, l[i].after[j] = (p : Int) := ⟨l[i].after[j].toNat, by omega⟩
        have hsn2 := sumIn_snoc (i := i) (s := sm) hjl
        rw [hp] at hce4 hsn2 hpm
        generalize sumIn i sm (l[i].after.take j) = s2 at hsn2 hl2 hlo2 ⊢
        unfold sumStep at hsn2
        rw [Int.toNat_natCast] at hsn2
        have hpc : (s2.map (Value.int .i64)).toArray[p * 1]? = some (.int .i64 (s2.getD p 0)) := row_get (Value.int .i64) 0 (by omega)
        have hpi : (s2.map (Value.int .i64)).toArray[i * 1]? = some (.int .i64 (s2.getD i 0)) := row_get (Value.int .i64) 0 (by omega)
        have hHp := fun R L w' => hHas p R L w' hpm
        focus (refine gc_skip ?_; refine gx_next ?_; refine gc_seq ?_; refine gc_block ?_; refine gc_seq ?_; refine gc_region ?_; apply gw_d; exact det_m rfl rfl (by conv => (lhs; whnf)); apply gw_d; exact det_m rfl rfl (by conv => (lhs; whnf)); apply gw_d; exact w_index rfl rfl rfl rfl (by with_reducible exact rfl) (by omega); apply gw_d; exact w_field rfl rfl rfl; apply gw_d; exact w_load_fld rfl rfl rfl (by assumption) (by assumption); apply gw_d; exact det_m rfl rfl (by conv => (lhs; whnf)); apply gw_d; exact w_index rfl rfl rfl rfl (by with_reducible exact rfl) (by omega); apply gw_d; exact w_load_at rfl rfl rfl (by assumption) (by assumption); apply gw_d; exact det_m rfl rfl (by conv => (lhs; whnf)); refine gw_nil ?_; refine gx_next ?_; refine gc_seq ?_; refine gc_seq ?_; refine gc_region ?_; apply gw_d; exact det_m rfl rfl (by conv => (lhs; whnf)); apply gw_d; exact det_cmp rfl rfl rfl rfl rfl; apply gw_d; exact det_m rfl rfl (by conv => (lhs; whnf)); apply gw_d; exact det_m rfl rfl (by conv => (lhs; whnf)); apply gw_d; exact det_m rfl rfl (by conv => (lhs; whnf)); apply gw_d; exact w_len rfl rfl rfl; apply gw_d; exact det_cmp rfl rfl rfl rfl rfl; apply gw_d; exact det_pick_f (v := .bool _) rfl rfl rfl rfl; apply gw_d; exact det_m rfl rfl (by conv => (lhs; whnf)); refine gw_guard_dec rfl rfl (fun _ => ?_) (fun _ => ?_); apply gw_d; exact det_not rfl; apply gw_d; exact det_not rfl; apply gw_d; exact det_not rfl; apply gw_d; exact det_not rfl; apply gw_d; exact det_not rfl; apply gw_d; exact det_not rfl; apply gw_d; exact det_pick_t (v := .bool _) rfl rfl rfl rfl; refine gw_nil ?_; refine gx_next ?_; rotate_left; apply gw_d; exact det_m rfl rfl (by conv => (lhs; whnf)); apply gw_d; exact det_m rfl rfl (by conv => (lhs; whnf)); apply gw_d; exact w_cut_hi rfl rfl rfl rfl (by with_reducible exact rfl) (by omega); apply gw_d; exact det_m rfl rfl (by conv => (lhs; whnf)); apply gw_d; exact w_call rfl rfl (hHp _ _) rfl; apply gw_d; exact det_not_ rfl rfl rfl; apply gw_d; exact det_pick_f (v := .bool _) rfl rfl rfl rfl; refine gw_nil ?_; refine gx_next ?_; rotate_left)
        all_goals first | (exfalso; omega) | skip
        refine gc_if_false rfl ?_
        focus (refine gc_skip ?_; refine gx_next ?_)
        refine gc_draw 11 (by kernel_rfl) (by kernel_rfl) ?_
        focus (apply gd_d; exact det_m rfl rfl (by conv => (lhs; whnf)); apply gd_d; exact det_m rfl rfl (by conv => (lhs; whnf)); apply gd_d; exact det_m rfl rfl (by conv => (lhs; whnf)); apply gd_d; exact det_m rfl rfl (by conv => (lhs; whnf)); apply gd_d; exact w_index rfl rfl rfl rfl (by with_reducible exact rfl) (by omega); apply gd_d; exact w_load_row rfl rfl rfl .here hpi; apply gd_d; exact det_m rfl rfl (by conv => (lhs; whnf)); apply gd_d; exact det_m rfl rfl (by conv => (lhs; whnf)); apply gd_d; exact w_index rfl rfl rfl rfl (by with_reducible exact rfl) (by omega); apply gd_d; exact w_load_row rfl rfl rfl .here hpc; apply gd_d; exact w_max rfl rfl rfl rfl; refine gd_nil ?_; apply gw_d; exact w_index rfl rfl rfl rfl (by with_reducible exact rfl) (by omega))
        refine w_store_row (n := 1) (v := .int .i64 (max (s2.getD i 0) (s2.getD p 0))) rfl rfl rfl rfl rfl .here (by simp; omega) (row_set (Value.int .i64) (by omega) _) ?_
        focus (refine gw_nil ?_; refine gx_block ?_; refine gx_next ?_; refine gc_region ?_; apply gw_d; exact det_m rfl rfl (by conv => (lhs; whnf)); apply gw_d; exact det_ar rfl rfl rfl rfl rfl (by omega); apply gw_d; exact det_m rfl rfl (by conv => (lhs; whnf)); refine gw_nil ?_)
        refine gx_round (j + 1) hjl (by omega) (by repeat (first | exact Keeps.refl | refine Keeps.upd rfl ?_ | refine Keeps.sets rfl ?_ | refine Keeps.havoc rfl ?_)) ⟨rfl, trivial⟩ ?_
        rw [hsn2]
        exact .cons .here (.cons .here .nil)
      · obtain rfl : j = l[i].after.length := by omega
        rw [List.take_length] at hl2 hlo2 ⊢
        have hone : sumOne l sm i = (sumIn i sm l[i].after).set i ((sumIn i sm l[i].after).getD i 0 + l[i].minutes) := by unfold sumOne; rw [afterOf_get hil, minOf_get hil]
        have hlo3 := sumOne_lo2 (l := l) (s := sm) (b := sm0) (by omega) hlo i (by rw [minOf_get hil]; omega)
        rw [minOf_get hil] at hlo3
        have hlen3 := sumOne_len l sm i
        generalize sumIn i sm l[i].after = s2 at hl2 hlo2 hone ⊢
        have hpi : (s2.map (Value.int .i64)).toArray[i * 1]? = some (.int .i64 (s2.getD i 0)) := row_get (Value.int .i64) 0 (by omega)
        have hbd := hlo2.get (by omega) i
        focus (refine gc_exit ?_; refine gx_then_exit ?_; refine gx_then_exit ?_; refine gx_block_exit ?_; refine gx_next ?_; refine gc_seq ?_)
        refine gc_draw 12 (by kernel_rfl) (by kernel_rfl) ?_
        focus (apply gd_d; exact det_m rfl rfl (by conv => (lhs; whnf)); apply gd_d; exact det_m rfl rfl (by conv => (lhs; whnf)); apply gd_d; exact det_m rfl rfl (by conv => (lhs; whnf)); apply gd_d; exact det_m rfl rfl (by conv => (lhs; whnf)); apply gd_d; exact w_index rfl rfl rfl rfl (by with_reducible exact rfl) (by omega); apply gd_d; exact w_load_row rfl rfl rfl .here hpi; apply gd_d; exact det_m rfl rfl (by conv => (lhs; whnf)); apply gd_d; exact det_m rfl rfl (by conv => (lhs; whnf)); apply gd_d; exact w_index rfl rfl rfl rfl (by with_reducible exact rfl) (by omega); apply gd_d; exact w_field rfl rfl rfl; apply gd_d; exact w_load_fld rfl rfl rfl (by assumption) (by assumption); apply gd_d; exact det_ar rfl rfl rfl rfl rfl (by omega); refine gd_nil ?_; apply gw_d; exact w_index rfl rfl rfl rfl (by with_reducible exact rfl) (by omega))
        refine w_store_row (n := 1) (v := .int .i64 (s2.getD i 0 + l[i].minutes)) rfl rfl rfl rfl rfl .here (by simp; omega) (row_set (Value.int .i64) (by omega) _) ?_
        rw [← hone]
        have hpj : ((sumOne l sm i).map (Value.int .i64)).toArray[i * 1]? = some (.int .i64 ((sumOne l sm i).getD i 0)) := row_get (Value.int .i64) 0 (by omega)
        have hbd3 := hlo3.get (by omega) i
        focus (refine gw_nil ?_; refine gx_next ?_)
        refine gc_draw2 14 (by kernel_rfl) (by kernel_rfl) ?_
        focus (apply gd_d; exact det_m rfl rfl (by conv => (lhs; whnf)); apply gd_d; exact det_m rfl rfl (by conv => (lhs; whnf)); apply gd_d; exact det_m rfl rfl (by conv => (lhs; whnf)); apply gd_d; exact w_index rfl rfl rfl rfl (by with_reducible exact rfl) (by omega); apply gd_d; exact w_load_row rfl rfl rfl .here hpj; apply gd_d; exact w_max rfl rfl rfl rfl; apply gd_d; exact det_m rfl rfl (by conv => (lhs; whnf)); apply gd_d; exact det_m rfl rfl (by conv => (lhs; whnf)); apply gd_d; exact det_m rfl rfl (by conv => (lhs; whnf)); apply gd_d; exact w_index rfl rfl rfl rfl (by with_reducible exact rfl) (by omega); apply gd_d; exact w_field rfl rfl rfl; apply gd_d; exact w_load_fld rfl rfl rfl (by assumption) (by assumption); apply gd_d; exact det_ar rfl rfl rfl rfl rfl (by omega); apply gd_d; exact det_m rfl rfl (by conv => (lhs; whnf)); refine gd_nil ?_; apply gw_d; exact det_m rfl rfl (by conv => (lhs; whnf)); refine gw_nil ?_; refine gx_block ?_; refine gx_next ?_; refine gc_region ?_; apply gw_d; exact det_m rfl rfl (by conv => (lhs; whnf)); apply gw_d; exact det_ar rfl rfl rfl rfl rfl (by omega); apply gw_d; exact det_m rfl rfl (by conv => (lhs; whnf)); refine gw_nil ?_)
        refine gx_roundE (k + 1) ⟨by omega, by rw [hsn]; dsimp only; omega, by rw [hsn, hss]; exact hlo3, by rw [hsn, hss]; dsimp only; omega, by rw [hss]; omega⟩ (by omega) (by repeat (first | exact Keeps.refl | refine Keeps.upd rfl ?_ | refine Keeps.sets rfl ?_ | refine Keeps.havoc rfl ?_)) ⟨rfl, by rw [hsn]; rfl, by rw [hss]; rfl, trivial⟩ ?_
        rw [hsn]
        refine Ent.trans (Ent.trans (Sub.ent (.cons (.there .here) (.cons .here .nil))) (box_own hosz hotk)) (Sub.ent (.cons (.there .here) (.cons .here .nil)))
    · obtain rfl : k = l.length := by omega
      rw [List.take_of_length_le (by omega)] at hg ⊢
      focus (refine gc_exit ?_; refine gx_then_exit ?_; refine gx_then_exit ?_; refine gx_block_exit ?_; refine gx_next ?_; refine gc_seq ?_; refine gc_region ?_; apply gw_d; exact det_m rfl rfl (by conv => (lhs; whnf)); apply gw_d; exact det_cmp rfl rfl rfl rfl rfl; apply gw_d; exact det_m rfl rfl (by conv => (lhs; whnf)); apply gw_d; exact det_m rfl rfl (by conv => (lhs; whnf)); apply gw_d; exact det_m rfl rfl (by conv => (lhs; whnf)); apply gw_d; exact det_cmp rfl rfl rfl rfl rfl; apply gw_d; exact det_pick_t (v := .bool _) rfl rfl rfl rfl; apply gw_d; exact det_m rfl rfl (by conv => (lhs; whnf)); refine gw_guard_dec rfl rfl (fun _ => ?_) (fun _ => ?_); apply gw_d; exact det_m rfl rfl (by conv => (lhs; whnf)); apply gw_d; exact det_m rfl rfl (by conv => (lhs; whnf)); apply gw_d; exact det_cmp rfl rfl rfl rfl rfl; apply gw_d; exact det_pick_t (v := .bool _) rfl rfl rfl rfl; apply gw_d; exact det_m rfl rfl (by conv => (lhs; whnf)); refine gw_guard_dec rfl rfl (fun _ => ?_) (fun _ => ?_); apply gw_d; exact w_call rfl rfl (fun w s => awake_ok w) rfl; apply gw_d; exact det_pick_t (v := .bool _) rfl rfl rfl rfl; apply gw_d; exact det_m rfl rfl (by conv => (lhs; whnf)); refine gw_nil ?_; refine gx_next ?_; refine gc_ret ?_; rotate_left; apply gw_d; exact det_not rfl; apply gw_d; exact det_pick_f (v := .bool _) rfl rfl rfl rfl; apply gw_d; exact det_m rfl rfl (by conv => (lhs; whnf)); refine gw_nil ?_; refine gx_next ?_; refine gc_ret ?_; rotate_left; apply gw_d; exact det_not rfl; apply gw_d; exact det_not rfl; apply gw_d; exact det_not rfl; apply gw_d; exact det_pick_f (v := .bool _) rfl rfl rfl rfl; apply gw_d; exact det_m rfl rfl (by conv => (lhs; whnf)); apply gw_d; exact det_not rfl; apply gw_d; exact det_pick_f (v := .bool _) rfl rfl rfl rfl; apply gw_d; exact det_m rfl rfl (by conv => (lhs; whnf)); refine gw_nil ?_; refine gx_next ?_; refine gc_ret ?_; rotate_left)
      all_goals first | (exfalso; omega) | (refine gx_ret1 (v := .bool _) rfl rfl (fun _ _ => ?_); rfl)
  · refine ok_enter Tryz.func7 rfl Tryz.ntmps7 rfl ?_
    focus (refine gc_seq ?_; refine gc_region ?_; apply gw_d; exact det_m rfl rfl (by conv => (lhs; whnf)); refine gw_nil ?_; refine gx_next ?_; refine gc_seq ?_; refine gc_seq ?_; refine gc_region ?_; apply gw_d; exact det_m rfl rfl (by conv => (lhs; whnf)); apply gw_d; exact w_call rfl rfl (fun w s => few_ok w _ l (hl.later s)) rfl; apply gw_d; exact det_not_ rfl rfl rfl; refine gw_nil ?_; refine gx_next ?_)
    refine gc_if rfl (fun _ => ?_) (fun _ => ?_)
    · focus (refine gc_seq ?_; refine gc_region ?_; apply gw_d; exact w_call rfl rfl (fun w s => awake_ok w) rfl; apply gw_d; exact det_m rfl rfl (by conv => (lhs; whnf)); refine gw_nil ?_; refine gx_next ?_; refine gc_ret ?_; refine gx_then_ret ?_)
      refine gx_ret1 (v := .bool _) rfl rfl (fun _ _ => ?_)
      rfl
    focus (refine gc_skip ?_; refine gx_next ?_; refine gc_seq ?_; refine gc_region ?_; apply gw_d; exact det_m rfl rfl (by conv => (lhs; whnf)); apply gw_d; exact w_call rfl rfl (fun w s => Order_bad w _ l (hl.later s) he) rfl; apply gw_d; exact det_m rfl rfl (by conv => (lhs; whnf)); apply gw_d; exact det_extract rfl rfl rfl (by conv => (lhs; whnf)); apply gw_d; exact det_extract rfl rfl rfl (by conv => (lhs; whnf)); apply gw_d; exact det_m rfl rfl (by conv => (lhs; whnf)); apply gw_d; exact det_m rfl rfl (by conv => (lhs; whnf)); refine gw_nil ?_; refine gx_next ?_; refine gc_seq ?_; refine gc_region ?_; apply gw_d; exact det_m rfl rfl (by conv => (lhs; whnf)); apply gw_d; exact w_call rfl rfl (fun w s => Critical_bad w _ l (hl.later s) he) rfl; apply gw_d; exact det_m rfl rfl (by conv => (lhs; whnf)); apply gw_d; exact det_extract rfl rfl rfl (by conv => (lhs; whnf)); apply gw_d; exact det_extract rfl rfl rfl (by conv => (lhs; whnf)); apply gw_d; exact det_m rfl rfl (by conv => (lhs; whnf)); apply gw_d; exact det_m rfl rfl (by conv => (lhs; whnf)); refine gw_nil ?_; refine gx_next ?_; refine gc_seq ?_; refine gc_seq ?_; refine gc_region ?_; apply gw_d; exact det_m rfl rfl (by conv => (lhs; whnf)); apply gw_d; exact det_cmp rfl rfl rfl rfl rfl; refine gw_nil ?_; refine gx_next ?_)
    refine gc_if_dec rfl (fun _ => ?_) (fun h => absurd he h)
    focus (refine gc_seq ?_; refine gc_region ?_; apply gw_d; exact det_m rfl rfl (by conv => (lhs; whnf)); apply gw_d; exact det_m rfl rfl (by conv => (lhs; whnf)); apply gw_d; exact det_cmp rfl rfl rfl rfl rfl; apply gw_d; exact det_m rfl rfl (by conv => (lhs; whnf)); refine gw_guard_dec rfl rfl (fun _ => ?_) (fun _ => ?_); apply gw_d; exact det_m rfl rfl (by conv => (lhs; whnf)); apply gw_d; exact det_cmp rfl rfl rfl rfl rfl; apply gw_d; exact det_pick_t (v := .bool _) rfl rfl rfl rfl; apply gw_d; exact det_m rfl rfl (by conv => (lhs; whnf)); apply gw_d; exact w_call rfl rfl (fun w s => awake_ok w) rfl; apply gw_d; exact det_pick_t (v := .bool _) rfl rfl rfl rfl; apply gw_d; exact det_m rfl rfl (by conv => (lhs; whnf)); refine gw_nil ?_; refine gx_next ?_; refine gc_ret ?_; refine gx_then_ret ?_; rotate_left; apply gw_d; exact det_not rfl; apply gw_d; exact det_not rfl; apply gw_d; exact det_pick_f (v := .bool _) rfl rfl rfl rfl; apply gw_d; exact det_m rfl rfl (by conv => (lhs; whnf)); apply gw_d; exact det_not rfl; apply gw_d; exact det_pick_f (v := .bool _) rfl rfl rfl rfl; apply gw_d; exact det_m rfl rfl (by conv => (lhs; whnf)); refine gw_nil ?_; refine gx_next ?_; refine gc_ret ?_; refine gx_then_ret ?_; rotate_left)
    all_goals first | (exfalso; omega) | (refine gx_ret1 (v := .bool _) rfl rfl (fun _ _ => ?_); rfl)
end Go.Proofs.YteiboodeepjanaaGreat
