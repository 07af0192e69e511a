/- The law OperationOrder: the walk. -/
import Derived.Test.YteiboodeepjanaaGreatC28
namespace Go.Proofs.YteiboodeepjanaaGreat
open Go.RowKit
set_option maxRecDepth 100000
set_option maxHeartbeats 4000000

theorem lawOrder_ok (w : World) (v : Value) (l : List Opn) (hl : Sl rOp w w.heap.size v l) : Ok Tryz.prog 6 [v].toArray w fun r _ => r = .bool true := by
  obtain ⟨A0, c0, rfl, hc, hm⟩ := len_small hl
  by_cases he : listE l (-1) = 0
  · have hG := list_good he
    have h16 := hG.le
    have hsl := hG.full
    have hin : ∀ x ∈ sortedL l, inI64 x := fun x hx => by have := sorted_mem (l := l) x hx; unfold inI64; omega
    have hix : areIx (sortedL l) l.length = true := by
      unfold areIx
      rw [List.all_eq_true]
      intro x hx
      have := sorted_mem (l := l) x hx
      simp [this.1, this.2]
    refine ok_enter Tryz.func6 rfl Tryz.ntmps6 rfl ?_
    focus (refine gc_seq ?_; refine gc_region ?_; apply gw_d; exact det_m rfl rfl (by conv => (lhs; whnf)); refine gw_nil ?_; refine gx_next ?_; refine gc_seq ?_; refine gc_seq ?_; refine gc_region ?_; apply gw_d; exact det_m rfl rfl (by conv => (lhs; whnf)); apply gw_d; exact w_call rfl rfl (fun w s => few_ok w _ l (hl.later s)) rfl; apply gw_d; exact det_not_ rfl rfl rfl; refine gw_nil ?_; refine gx_next ?_)
    refine gc_if rfl (fun _ => ?_) (fun _ => ?_)
    · focus (refine gc_seq ?_; refine gc_region ?_; apply gw_d; exact w_call rfl rfl (fun w s => awake_ok w) rfl; apply gw_d; exact det_m rfl rfl (by conv => (lhs; whnf)); refine gw_nil ?_; refine gx_next ?_; refine gc_ret ?_; refine gx_then_ret ?_)
      refine gx_ret1 (v := .bool _) rfl rfl (fun _ _ => ?_)
      rfl
    focus (refine gc_skip ?_; refine gx_next ?_; refine gc_seq ?_; refine gc_region ?_; apply gw_d; exact det_m rfl rfl (by conv => (lhs; whnf)))
    refine gw_callm rfl (fun w s => Order_good w _ l (hl.later s) he) rfl (fun x => ?_)
    obtain ⟨A, c⟩ := x
    focus (apply gw_d; exact det_m rfl rfl (by conv => (lhs; whnf)); apply gw_d; exact det_extract rfl rfl rfl (by conv => (lhs; whnf)); apply gw_d; exact det_extract rfl rfl rfl (by conv => (lhs; whnf)); apply gw_d; exact det_m rfl rfl (by conv => (lhs; whnf)); apply gw_d; exact det_m rfl rfl (by conv => (lhs; whnf)); refine gw_nil ?_; refine gx_next ?_; refine gc_seq ?_; refine gc_seq ?_; refine gc_region ?_; apply gw_d; exact det_m rfl rfl (by conv => (lhs; whnf)); apply gw_d; exact det_cmp rfl rfl rfl rfl rfl; refine gw_nil ?_; refine gx_next ?_)
    refine gc_if_dec rfl (fun h => absurd rfl h) (fun _ => ?_)
    have hC : ∀ (L : List Res) (w' : World), St w (Own A l.length c 3 1 ((sortedL l).map (Value.int .i64)) :: L) w' → Ok Tryz.prog 26 [.slice A l.length c, .int .i64 l.length].toArray w' fun r _ => r = .bool true := fun L w' s => by
      have h := withinL_ok w' _ (sortedL l) l.length (Sl.ownI s .here hsl.symm hin)
      rw [hix] at h
      exact h
    focus (refine gc_skip ?_; refine gx_next ?_; refine gc_seq ?_; refine gc_seq ?_; refine gc_region ?_; apply gw_d; exact det_m rfl rfl (by conv => (lhs; whnf)); apply gw_d; exact w_len rfl rfl rfl; apply gw_d; exact det_m rfl rfl (by conv => (lhs; whnf)); apply gw_d; exact w_len rfl rfl rfl; apply gw_d; exact det_cmp rfl rfl rfl rfl rfl; apply gw_d; exact det_m rfl rfl (by conv => (lhs; whnf)))
    refine gw_guard_dec rfl rfl (fun h => absurd rfl h) (fun _ => ?_)
    focus (apply gw_d; exact det_m rfl rfl (by conv => (lhs; whnf)); apply gw_d; exact det_m rfl rfl (by conv => (lhs; whnf)); apply gw_d; exact w_len rfl rfl rfl; apply gw_d; exact w_call rfl rfl (hC _) rfl; apply gw_d; exact det_not_ rfl rfl rfl; apply gw_d; exact det_pick_f (v := .bool _) rfl rfl rfl rfl; refine gw_nil ?_; refine gx_next ?_)
    refine gc_if_false rfl ?_
    focus (refine gc_skip ?_; refine gx_next ?_; refine gc_seq ?_; refine gc_seq ?_; refine gc_region ?_; apply gw_d; exact det_m rfl rfl (by conv => (lhs; whnf)); refine gw_nil ?_; refine gx_next ?_; refine gc_block ?_)
    refine gc_loopK (σ := Nat) [38, 39, 40, 41, 6, 44, 45, 46, 47, 48, 49, 52, 53, 54, 55, 56, 57, 7, 8, 58, 59, 60, 61, 62, 63, 64, 65, 68, 69, 70, 71, 72, 73, 74, 75, 76, 77, 78, 79, 80, 81, 82, 66, 67, 83, 84, 85, 86, 87, 88, 89, 90, 2, 50, 51, 42, 43, 5] (fun k => [(5, .int .i64 k)]) (fun k => k ≤ l.length) (fun k => l.length - k) 0 (Nat.zero_le _) ⟨rfl, trivial⟩ ?_
    rintro k base hk
    focus (refine gc_seq ?_; refine gc_seq ?_; refine gc_region ?_; apply gw_d; exact det_m rfl rfl (by conv => (lhs; whnf)); apply gw_d; exact det_m rfl rfl (by conv => (lhs; whnf)); apply gw_d; exact w_len rfl rfl rfl; apply gw_d; exact det_cmp rfl rfl rfl rfl rfl; refine gw_nil ?_; refine gx_next ?_)
    refine gc_if_dec rfl (fun h => ?_) (fun h => ?_)
    · have hlt : k < (sortedL l).length := by omega
      refine gc_ownbox (by omega) .here fun g ocs hA hosz hotk => ?_
      subst hA
      obtain ⟨i, hi, hil, hrdy, hmin⟩ := sorted_at hlt
      have hoc := take_at hotk hlt
      rw [hi] at hoc
      have hHas : ∀ (x : Int) (L : List Res) (w' : World), St w (Box g 3 ocs :: L) w' → Ok Tryz.prog 27 [.slice (some ⟨g, 0, none⟩) k c, .int .i64 x].toArray w' fun r _ => r = .bool (hasB ((sortedL l).take k) x) := fun x L w' s =>
        has_ok w' _ _ x ((Sl.boxO s .here hotk hsl.symm hosz.1 hosz.2.1 hin).take (by omega))
      have hkc : k ≤ c := by have := hosz.1; omega
      focus (refine gc_skip ?_; refine gx_next ?_; refine gc_seq ?_; refine gc_block ?_; refine gc_seq ?_; refine gc_region ?_; apply gw_d; exact det_m rfl rfl (by conv => (lhs; whnf)); refine gw_nil ?_; refine gx_next ?_; refine gc_block ?_)
      refine gc_loopK (σ := Nat) [44, 45, 46, 47, 48, 49, 52, 53, 54, 55, 56, 57, 7, 8, 58, 59, 60, 61, 62, 63, 64, 65, 68, 69, 70, 71, 72, 73, 74, 75, 76, 77, 78, 79, 80, 81, 82, 66, 67, 83, 84, 85, 86, 87, 88, 89, 90, 2, 50, 51, 6] (fun m => [(6, .int .i64 m)]) (fun m => m ≤ i + 1) (fun m => i + 1 - m) 0 (Nat.zero_le _) ⟨rfl, trivial⟩ ?_
      rintro m base2 hmi
      focus (refine gc_seq ?_; refine gc_seq ?_; refine gc_region ?_; apply gw_d; exact det_m rfl rfl (by conv => (lhs; whnf)); apply gw_d; exact det_m rfl rfl (by conv => (lhs; whnf)); apply gw_d; exact det_m rfl rfl (by conv => (lhs; whnf)); apply gw_d; exact w_index rfl rfl rfl rfl (by with_reducible exact rfl) (by omega); apply gw_d; exact w_load_row rfl rfl rfl .here hoc; apply gw_d; exact det_cmp rfl rfl rfl rfl rfl; refine gw_nil ?_; refine gx_next ?_)
      refine gc_if_dec rfl (fun h2 => ?_) (fun h2 => ?_)
      · have hml : m < l.length := by omega
        obtain ⟨ad, _, hv, _, _, hb, hcell⟩ := hl.at' 5 rfl (by omega)
        injection hv with e1 e2 e3
        subst e1 e3
        obtain ⟨cs, hce, Aa, ca, Au, cu, rfl, _, q1, q2⟩ := hcell m hml
        have hce3 := hce 3 _ rfl
        have ha : Sl rInt w w.heap.size (.slice Aa l[m].after.length ca) l[m].after := q1
        obtain ⟨_, _, hv, hac, ham, hacell⟩ := ha.int
        injection hv with e1 e2 e3
        subst e1 e3
        have hready : readyB l ((sortedL l).take k) m = (!hasB ((sortedL l).take k) (m : Int) && l[m].after.all (hasB ((sortedL l).take k))) := by unfold readyB; rw [afterOf_get hml]
        focus (refine gc_skip ?_; refine gx_next ?_; refine gc_seq ?_; refine gc_block ?_; refine gc_seq ?_; refine gc_region ?_; apply gw_d; exact det_m rfl rfl (by conv => (lhs; whnf)); apply gw_d; exact det_m rfl rfl (by conv => (lhs; whnf)); apply gw_d; exact w_cut_hi rfl rfl rfl rfl (by with_reducible exact rfl) (by omega); apply gw_d; exact det_m rfl rfl (by conv => (lhs; whnf)); apply gw_d; exact w_call rfl rfl (hHas _ _) rfl; apply gw_d; exact det_not_ rfl rfl rfl; apply gw_d; exact det_m rfl rfl (by conv => (lhs; whnf)); refine gw_nil ?_; refine gx_next ?_; refine gc_seq ?_; refine gc_seq ?_; refine gc_region ?_; apply gw_d; exact det_m rfl rfl (by conv => (lhs; whnf)); refine gw_nil ?_; refine gx_next ?_; refine gc_block ?_)
        refine gc_loopK (σ := Nat) [58, 59, 60, 61, 62, 63, 64, 65, 68, 69, 70, 71, 72, 73, 74, 75, 76, 77, 78, 79, 80, 81, 82, 7, 66, 67, 8] (fun j => [(8, .int .i64 j), (7, .bool (!hasB ((sortedL l).take k) (m : Int) && (l[m].after.take j).all (hasB ((sortedL l).take k))))]) (fun j => j ≤ l[m].after.length) (fun j => l[m].after.length - j) 0 (Nat.zero_le _) ⟨rfl, by simp only [List.take_zero, List.all_nil, Bool.and_true]; rfl, trivial⟩ ?_
        rintro j base3 hj
        focus (refine gc_seq ?_; refine gc_seq ?_; refine gc_region ?_; apply gw_d; exact det_m rfl rfl (by conv => (lhs; whnf)); apply gw_d; exact det_m rfl rfl (by conv => (lhs; whnf)); apply gw_d; exact det_m rfl rfl (by conv => (lhs; whnf)); apply gw_d; exact w_index rfl rfl rfl rfl (by with_reducible exact rfl) (by omega); apply gw_d; exact w_field rfl rfl rfl; apply gw_d; exact w_load_fld rfl rfl rfl (by assumption) (by assumption); apply gw_d; exact w_len rfl rfl rfl; apply gw_d; exact det_cmp rfl rfl rfl rfl rfl; refine gw_nil ?_; refine gx_next ?_)
        refine gc_if_dec rfl (fun h3 => ?_) (fun h3 => ?_)
        · have hjl : j < l[m].after.length := by omega
          obtain ⟨ad2, rfl, hb2, hce2, _⟩ := hacell j hjl
          have hsn : (l[m].after.take (j + 1)).all (hasB ((sortedL l).take k)) = ((l[m].after.take j).all (hasB ((sortedL l).take k)) && hasB ((sortedL l).take k) l[m].after[j]) := by rw [List.take_succ_eq_append_getElem hjl, List.all_append]; simp
          focus (refine gc_skip ?_; refine gx_next ?_; refine gc_seq ?_; refine gc_block ?_)
          refine gc_draw 15 (by kernel_rfl) (by kernel_rfl) ?_
          focus (apply gd_d; exact det_m rfl rfl (by conv => (lhs; whnf)); apply gd_d; exact det_m rfl rfl (by conv => (lhs; whnf)); refine gd_guard rfl rfl (fun _ => ?_) (fun _ => ?_); apply gd_d; exact det_m rfl rfl (by conv => (lhs; whnf)); apply gd_d; exact det_m rfl rfl (by conv => (lhs; whnf)); apply gd_d; exact w_cut_hi rfl rfl rfl rfl (by with_reducible exact rfl) (by omega); apply gd_d; exact det_m rfl rfl (by conv => (lhs; whnf)); apply gd_d; exact det_m rfl rfl (by conv => (lhs; whnf)); apply gd_d; exact w_index rfl rfl rfl rfl (by with_reducible exact rfl) (by omega); apply gd_d; exact w_field rfl rfl rfl; apply gd_d; exact w_load_fld rfl rfl rfl (by assumption) (by assumption); apply gd_d; exact det_m rfl rfl (by conv => (lhs; whnf)); apply gd_d; exact w_index rfl rfl rfl rfl (by with_reducible exact rfl) (by omega); apply gd_d; exact w_load_at rfl rfl rfl (by assumption) (by assumption); apply gd_d; exact w_call rfl rfl (hHas _ _) rfl; apply gd_d; exact det_pick_t (v := .bool _) rfl rfl rfl rfl; refine gd_nil ?_; apply gw_d; exact det_m rfl rfl (by conv => (lhs; whnf)); refine gw_nil ?_; refine gx_block ?_; refine gx_next ?_; refine gc_region ?_; apply gw_d; exact det_m rfl rfl (by conv => (lhs; whnf)); apply gw_d; exact det_ar rfl rfl rfl rfl rfl (by omega); apply gw_d; exact det_m rfl rfl (by conv => (lhs; whnf)); refine gw_nil ?_; rotate_left; apply gd_d; exact det_not rfl; apply gd_d; exact det_not rfl; apply gd_d; exact det_not rfl; apply gd_d; exact det_not rfl; apply gd_d; exact det_not rfl; apply gd_d; exact det_not rfl; apply gd_d; exact det_not rfl; apply gd_d; exact det_not rfl; apply gd_d; exact det_not rfl; apply gd_d; exact det_not rfl; apply gd_d; exact det_not rfl; apply gd_d; exact det_not rfl; apply gd_d; exact det_pick_f (v := .bool _) rfl rfl rfl rfl; refine gd_nil ?_; apply gw_d; exact det_m rfl rfl (by conv => (lhs; whnf)); refine gw_nil ?_; refine gx_block ?_; refine gx_next ?_; refine gc_region ?_; apply gw_d; exact det_m rfl rfl (by conv => (lhs; whnf)); apply gw_d; exact det_ar rfl rfl rfl rfl rfl (by omega); apply gw_d; exact det_m rfl rfl (by conv => (lhs; whnf)); refine gw_nil ?_; rotate_left)
          · rename_i hx
            exact gx_round (j + 1) hjl (by omega) (by repeat (first | exact Keeps.refl | refine Keeps.upd rfl ?_ | refine Keeps.sets rfl ?_ | refine Keeps.havoc rfl ?_)) ⟨rfl, by rw [hsn, ← Bool.and_assoc, hx, Bool.true_and]; rfl, trivial⟩ (Sub.all _)
          · rename_i hx
            exact gx_round (j + 1) hjl (by omega) (by repeat (first | exact Keeps.refl | refine Keeps.upd rfl ?_ | refine Keeps.sets rfl ?_ | refine Keeps.havoc rfl ?_)) ⟨rfl, by rw [hsn, ← Bool.and_assoc, hx, Bool.false_and]; rfl, trivial⟩ (Sub.all _)
        · obtain rfl : j = l[m].after.length := by omega
          rw [List.take_length, ← hready]
          focus (refine gc_exit ?_; refine gx_then_exit ?_; refine gx_then_exit ?_; refine gx_block_exit ?_; refine gx_next ?_; refine gc_seq ?_; refine gc_region ?_; apply gw_d; exact det_m rfl rfl (by conv => (lhs; whnf)); apply gw_d; exact det_m rfl rfl (by conv => (lhs; whnf)); apply gw_d; exact det_m rfl rfl (by conv => (lhs; whnf)); apply gw_d; exact det_m rfl rfl (by conv => (lhs; whnf)); apply gw_d; exact w_index rfl rfl rfl rfl (by with_reducible exact rfl) (by omega); apply gw_d; exact w_load_row rfl rfl rfl .here hoc; apply gw_d; exact det_cmp rfl rfl rfl rfl rfl; apply gw_d; exact det_bne rfl rfl rfl rfl rfl; refine gw_nil ?_; refine gx_next ?_)
          refine gc_if rfl (fun h4 => ?_) (fun h4 => ?_)
          · exfalso
            by_cases hmi2 : m = i
            · subst hmi2
              rw [hrdy] at h4
              simp at h4
            · rw [hmin m (by omega)] at h4
              have : ¬ (m : Int) = (i : Int) := by omega
              simp [this] at h4
          · focus (refine gc_skip ?_; refine gx_block ?_; refine gx_next ?_; refine gc_region ?_; apply gw_d; exact det_m rfl rfl (by conv => (lhs; whnf)); apply gw_d; exact det_ar rfl rfl rfl rfl rfl (by omega); apply gw_d; exact det_m rfl rfl (by conv => (lhs; whnf)); refine gw_nil ?_)
            exact gx_round (m + 1) (by omega) (by omega) (by repeat (first | exact Keeps.refl | refine Keeps.upd rfl ?_ | refine Keeps.sets rfl ?_ | refine Keeps.havoc rfl ?_)) ⟨rfl, trivial⟩ (Sub.all _)
      · focus (refine gc_exit ?_; refine gx_then_exit ?_; refine gx_then_exit ?_; refine gx_block_exit ?_; refine gx_block ?_; refine gx_next ?_; refine gc_region ?_; apply gw_d; exact det_m rfl rfl (by conv => (lhs; whnf)); apply gw_d; exact det_ar rfl rfl rfl rfl rfl (by omega); apply gw_d; exact det_m rfl rfl (by conv => (lhs; whnf)); refine gw_nil ?_)
        exact gx_roundE (k + 1) (by omega) (by omega) (by repeat (first | exact Keeps.refl | refine Keeps.upd rfl ?_ | refine Keeps.sets rfl ?_ | refine Keeps.havoc rfl ?_)) ⟨rfl, trivial⟩ (box_own hosz hotk)
    · focus (refine gc_exit ?_; refine gx_then_exit ?_; refine gx_then_exit ?_; refine gx_block_exit ?_; refine gx_next ?_; refine gc_seq ?_; refine gc_region ?_; apply gw_d; exact w_call rfl rfl (fun w s => awake_ok w) rfl; apply gw_d; exact det_m rfl rfl (by conv => (lhs; whnf)); refine gw_nil ?_; refine gx_next ?_; refine gc_ret ?_)
      refine gx_ret1 (v := .bool _) rfl rfl (fun _ _ => ?_)
      rfl
  · refine ok_enter Tryz.func6 rfl Tryz.ntmps6 rfl ?_
    focus (refine gc_seq ?_; refine gc_region ?_; apply gw_d; exact det_m rfl rfl (by conv => (lhs; whnf)); refine gw_nil ?_; refine gx_next ?_; refine gc_seq ?_; refine gc_seq ?_; refine gc_region ?_; apply gw_d; exact det_m rfl rfl (by conv => (lhs; whnf)); apply gw_d; exact w_call rfl rfl (fun w s => few_ok w _ l (hl.later s)) rfl; apply gw_d; exact det_not_ rfl rfl rfl; refine gw_nil ?_; refine gx_next ?_)
    refine gc_if rfl (fun _ => ?_) (fun _ => ?_)
    · focus (refine gc_seq ?_; refine gc_region ?_; apply gw_d; exact w_call rfl rfl (fun w s => awake_ok w) rfl; apply gw_d; exact det_m rfl rfl (by conv => (lhs; whnf)); refine gw_nil ?_; refine gx_next ?_; refine gc_ret ?_; refine gx_then_ret ?_)
      refine gx_ret1 (v := .bool _) rfl rfl (fun _ _ => ?_)
      rfl
    focus (refine gc_skip ?_; refine gx_next ?_; refine gc_seq ?_; refine gc_region ?_; apply gw_d; exact det_m rfl rfl (by conv => (lhs; whnf)); apply gw_d; exact w_call rfl rfl (fun w s => Order_bad w _ l (hl.later s) he) rfl; apply gw_d; exact det_m rfl rfl (by conv => (lhs; whnf)); apply gw_d; exact det_extract rfl rfl rfl (by conv => (lhs; whnf)); apply gw_d; exact det_extract rfl rfl rfl (by conv => (lhs; whnf)); apply gw_d; exact det_m rfl rfl (by conv => (lhs; whnf)); apply gw_d; exact det_m rfl rfl (by conv => (lhs; whnf)); refine gw_nil ?_; refine gx_next ?_; refine gc_seq ?_; refine gc_seq ?_; refine gc_region ?_; apply gw_d; exact det_m rfl rfl (by conv => (lhs; whnf)); apply gw_d; exact det_cmp rfl rfl rfl rfl rfl; refine gw_nil ?_; refine gx_next ?_)
    refine gc_if_dec rfl (fun _ => ?_) (fun h => absurd he h)
    focus (refine gc_seq ?_; refine gc_region ?_; apply gw_d; exact det_m rfl rfl (by conv => (lhs; whnf)); apply gw_d; exact w_len rfl rfl rfl; apply gw_d; exact det_cmp rfl rfl rfl rfl rfl; apply gw_d; exact det_m rfl rfl (by conv => (lhs; whnf)); apply gw_d; exact w_call rfl rfl (fun w s => awake_ok w) rfl; apply gw_d; exact det_pick_t (v := .bool _) rfl rfl rfl rfl; apply gw_d; exact det_m rfl rfl (by conv => (lhs; whnf)); refine gw_nil ?_; refine gx_next ?_; refine gc_ret ?_; refine gx_then_ret ?_)
    refine gx_ret1 (v := .bool _) rfl rfl (fun _ _ => ?_)
    rfl
end Go.Proofs.YteiboodeepjanaaGreat
