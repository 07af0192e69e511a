/- The law WageShares: the walk. -/
import Derived.Test.YtbglhkngdagmeaaGreatDoorW11
namespace Go.Proofs.YtbglhkngdagmeaaGreatDoor
open Go.RowKit
set_option maxRecDepth 100000
set_option maxHeartbeats 4000000

theorem wrap64_id {i : Int} (h : inI64 i) : IntKind.i64.wrap i = i := by unfold inI64 at h; rw [IntKind.wrap_i64]; omega
theorem wf32 {n : Int} (h : (Lit.int .u32 n).wf = true) : 0 ≤ n ∧ n ≤ 4294967295 := by
  unfold Lit.wf at h
  simp only [Bool.and_eq_true, decide_eq_true_eq] at h
  exact h
theorem wf8 {n : Int} (h : (Lit.int .u8 n).wf = true) : 0 ≤ n ∧ n ≤ 255 := by
  unfold Lit.wf at h
  simp only [Bool.and_eq_true, decide_eq_true_eq] at h
  exact h
theorem shL_get {a : Int} {n k : Nat} (hk : k < n) : (shL a n).getD k 0 = shF a n k := by simp [shL, hk]
/-- The sum of the first k parts. -/
def shS (a : Int) (n k : Nat) : Int := (k : Int) * (a / n) + min (k : Int) (a % n)
theorem shS_next (a : Int) {n : Nat} (hn : 0 < n) (h0 : 0 ≤ a) (k : Nat) : shS a n (k + 1) = shS a n k + shF a n k := by
  unfold shS shF
  have h1 : ((k + 1 : Nat) : Int) * (a / n) = (k : Int) * (a / n) + a / n := by
    rw [Int.natCast_add, Int.add_mul]
    simp
  have h2 : 0 ≤ a % (n : Int) := Int.emod_nonneg _ (by omega)
  rw [h1]
  split <;> omega
theorem shS_full (a : Int) {n : Nat} (hn : 0 < n) : shS a n n = a := by
  unfold shS
  have h1 := Int.mul_ediv_add_emod a n
  have h2 : a % (n : Int) < n := Int.emod_lt_of_pos _ (by omega)
  rw [Int.min_eq_right (by omega)]
  exact h1
theorem shS_range (a : Int) {n k : Nat} (hn : 0 < n) (h0 : 0 ≤ a) (hk : k ≤ n) : 0 ≤ shS a n k ∧ shS a n k ≤ a := by
  have h2 : 0 ≤ a % (n : Int) := Int.emod_nonneg _ (by omega)
  have h3 : 0 ≤ a / (n : Int) := Int.ediv_nonneg h0 (by omega)
  have h4 : (k : Int) * (a / n) ≤ (n : Int) * (a / n) := Int.mul_le_mul_of_nonneg_right (by omega) h3
  have h5 : 0 ≤ (k : Int) * (a / n) := Int.mul_nonneg (by omega) h3
  have h6 := Int.mul_ediv_add_emod a n
  unfold shS
  omega
theorem shS_zero (a : Int) {n : Nat} (hn : 0 < n) : shS a n 0 = 0 := by
  have h2 : 0 ≤ a % (n : Int) := Int.emod_nonneg _ (by omega)
  unfold shS
  rw [Int.min_eq_left (by simpa using h2)]
  simp
theorem lawWageShares_ok (w : World) (hL : Lay w) (a p : Int) (wa : (Lit.int .u32 a).wf = true) (wp : (Lit.int .u8 p).wf = true) : Ok Tryz.prog 8 [.int .u32 a, .int .u8 p].toArray w fun r _ => r = .bool true := by
  have hA : ∀ (L : List Res) (w' : World), St w L w' → Ok Tryz.prog 21 [].toArray w' fun r _ => r = .bool true := fun L w' s => awake57_ok w' (hL.later s)
  have ha := wf32 wa
  have hp := wf8 wp
  obtain ⟨n, hn⟩ : ∃ n : Nat, 1 + p % 40 = (n : Int) := ⟨(1 + p % 40).toNat, by omega⟩
  have hn1 : 1 ≤ n := by omega
  have hn40 : n ≤ 40 := by omega
  have he : shE a n = 0 := by
    unfold shE
    rw [if_neg]
    rw [money_iff.2 (by omega)]
    simp
    omega
  have hsl := shL_len a n
  refine ok_enter Tryz.func8 rfl Tryz.ntmps8 rfl ?_
  focus (refine gc_seq ?_; refine gc_region ?_; apply gw_d; exact det_m rfl rfl (by conv => (lhs; whnf)); refine gw_nil ?_; refine gx_next ?_; refine gc_seq ?_; refine gc_region ?_; apply gw_d; exact det_m rfl rfl (by conv => (lhs; whnf)); apply gw_d; exact det_conv (r := p) rfl rfl rfl (wrap64_id (by unfold inI64; omega)); apply gw_d; exact det_rem rfl rfl rfl rfl (by omega) (by omega); apply gw_d; exact det_ar rfl rfl rfl rfl rfl (by omega); apply gw_d; exact det_m rfl rfl (by conv => (lhs; whnf)); refine gw_nil ?_; refine gx_next ?_; refine gc_seq ?_; refine gc_region ?_; apply gw_d; exact det_m rfl rfl (by conv => (lhs; whnf)); apply gw_d; exact det_conv (r := a) rfl rfl rfl (wrap64_id (by unfold inI64; omega)); apply gw_d; exact det_m rfl rfl (by conv => (lhs; whnf)))
  rw [hn]
  refine gw_callm rfl (fun w s => wShare_good w a n he) rfl (fun b => ?_)
  focus (apply gw_d; exact det_m rfl rfl (by conv => (lhs; whnf)); apply gw_d; exact det_extract rfl rfl rfl (by conv => (lhs; whnf)); apply gw_d; exact det_extract rfl rfl rfl (by conv => (lhs; whnf)); apply gw_d; exact det_m rfl rfl (by conv => (lhs; whnf)); apply gw_d; exact det_m rfl rfl (by conv => (lhs; whnf)); refine gw_nil ?_; refine gx_next ?_; refine gc_seq ?_; refine gc_seq ?_; refine gc_region ?_; apply gw_d; exact det_m rfl rfl (by conv => (lhs; whnf)); apply gw_d; exact det_cmp rfl rfl rfl rfl rfl; apply gw_d; exact det_m rfl rfl (by conv => (lhs; whnf)); apply gw_d; exact det_m rfl rfl (by conv => (lhs; whnf)); apply gw_d; exact w_len rfl rfl rfl; apply gw_d; exact det_m rfl rfl (by conv => (lhs; whnf)); apply gw_d; exact det_cmp rfl rfl rfl rfl rfl; apply gw_d; exact det_pick_f (v := .bool _) rfl rfl rfl rfl; refine gw_nil ?_; refine gx_next ?_; refine gc_if_dec rfl (fun _ => ?_) (fun _ => ?_); refine gc_seq ?_; refine gc_region ?_; apply gw_d; exact det_m rfl rfl (by conv => (lhs; whnf)); refine gw_nil ?_; refine gx_next ?_; refine gc_ret ?_; refine gx_then_ret ?_; rotate_left; refine gc_skip ?_; refine gx_next ?_; refine gc_seq ?_; refine gc_region ?_; apply gw_d; exact det_m rfl rfl (by conv => (lhs; whnf)); refine gw_nil ?_; refine gx_next ?_; refine gc_seq ?_; refine gc_seq ?_; refine gc_region ?_; apply gw_d; exact det_m rfl rfl (by conv => (lhs; whnf)); refine gw_nil ?_; refine gx_next ?_; refine gc_block ?_; rotate_left)
  all_goals first | (exfalso; omega) | skip
  have h00 : (((shL a n).map (Value.int .i64)).toArray)[0 * 1]? = some (.int .i64 (shF a n 0)) := by rw [row_get (Value.int .i64) 0 (by omega), shL_get (by omega)]
  refine gc_loopK (σ := Nat) [29, 30, 31, 34, 35, 36, 37, 38, 39, 8, 40, 41, 42, 43, 44, 45, 46, 47, 48, 49, 50, 51, 52, 53, 54, 55, 56, 57, 58, 59, 60, 61, 62, 63, 64, 65, 66, 67, 68, 69, 70, 71, 72, 73, 74, 75, 76, 77, 78, 79, 80, 81, 4, 32, 33, 9] (fun k => [(9, .int .i64 k), (8, .int .i64 (shS a n k))]) (fun k => k ≤ n) (fun k => n - k) 0 (Nat.zero_le _) ⟨rfl, by rw [shS_zero a (by omega)]; rfl, trivial⟩ ?_
  rintro k base hk
  focus (refine gc_seq ?_; refine gc_seq ?_; refine gc_region ?_; apply gw_d; exact det_m rfl rfl (by conv => (lhs; whnf)); apply gw_d; exact det_m rfl rfl (by conv => (lhs; whnf)); apply gw_d; exact det_cmp rfl rfl rfl rfl rfl; refine gw_nil ?_; refine gx_next ?_)
  refine gc_if_dec rfl (fun h => ?_) (fun h => ?_)
  · have hkn : k < n := by omega
    have hk0 : (((shL a n).map (Value.int .i64)).toArray)[k * 1]? = some (.int .i64 (shF a n k)) := by rw [row_get (Value.int .i64) 0 (by omega), shL_get hkn]
    have hk1 : (((shL a n).map (Value.int .i64)).toArray)[(k - 1) * 1]? = some (.int .i64 (shF a n (k - 1))) := by rw [row_get (Value.int .i64) 0 (by omega), shL_get (by omega)]
    have hnx := shS_next a (n := n) (by omega) ha.1 k
    have hr1 := shS_range a (n := n) (k := k + 1) (by omega) ha.1 hkn
    have hr0 := shS_range a (n := n) (k := k) (by omega) ha.1 hk
    have hf := shF_range (n := n) (i := k) ha.1 (by omega)
    have hf0 := shF_range (n := n) (i := 0) ha.1 (by omega)
    have q1 : shF a n k ≤ shF a n 0 ∧ shF a n 0 - 1 ≤ shF a n k := by unfold shF; split <;> split <;> omega
    have q2 : shF a n k ≤ shF a n (k - 1) := by unfold shF; split <;> split <;> omega
    rw [hnx] at hr1
    focus (refine gc_skip ?_; refine gx_next ?_; refine gc_seq ?_; refine gc_block ?_; refine gc_seq ?_; refine gc_region ?_; apply gw_d; exact det_m rfl rfl (by conv => (lhs; whnf)); apply gw_d; exact det_m rfl rfl (by conv => (lhs; whnf)); apply gw_d; exact det_m rfl rfl (by conv => (lhs; whnf)); apply gw_d; exact w_index rfl rfl rfl rfl (by with_reducible exact rfl) (by omega); apply gw_d; exact w_load_row rfl rfl rfl .here hk0; apply gw_d; exact det_ar rfl rfl rfl rfl rfl (by omega); apply gw_d; exact det_m rfl rfl (by conv => (lhs; whnf)); refine gw_nil ?_; refine gx_next ?_; refine gc_seq ?_)
    refine gc_draw 42 (by kernel_rfl) (by kernel_rfl) ?_
    focus (apply gd_d; exact det_m rfl rfl (by conv => (lhs; whnf)); apply gd_d; exact det_m rfl rfl (by conv => (lhs; whnf)); apply gd_d; exact w_index rfl rfl rfl rfl (by with_reducible exact rfl) (by omega); apply gd_d; exact w_load_row rfl rfl rfl .here hk0; apply gd_d; exact det_cmp rfl rfl rfl rfl rfl; apply gd_d; exact det_m rfl rfl (by conv => (lhs; whnf)); refine gd_guard_dec rfl rfl (fun _ => ?_) (fun _ => ?_); apply gd_d; exact det_not rfl; apply gd_d; exact det_not rfl; apply gd_d; exact det_not rfl; apply gd_d; exact det_not rfl; apply gd_d; exact det_not rfl; apply gd_d; exact det_not rfl; apply gd_d; exact det_not rfl; apply gd_d; exact det_not rfl; apply gd_d; exact det_pick_t (v := .bool _) rfl rfl rfl rfl; apply gd_d; exact det_m rfl rfl (by conv => (lhs; whnf)); apply gd_d; exact det_not rfl; apply gd_d; exact det_not rfl; apply gd_d; exact det_not rfl; apply gd_d; exact det_not rfl; apply gd_d; exact det_not rfl; apply gd_d; exact det_not rfl; apply gd_d; exact det_not rfl; apply gd_d; exact det_not rfl; apply gd_d; exact det_not rfl; apply gd_d; exact det_pick_t (v := .bool _) rfl rfl rfl rfl; apply gd_d; exact det_m rfl rfl (by conv => (lhs; whnf)); apply gd_d; exact det_not rfl; apply gd_d; exact det_not rfl; apply gd_d; exact det_not rfl; apply gd_d; exact det_not rfl; apply gd_d; exact det_not rfl; apply gd_d; exact det_not rfl; apply gd_d; exact det_not rfl; apply gd_d; exact det_not rfl; apply gd_d; exact det_not rfl; apply gd_d; exact det_not rfl; apply gd_d; exact det_not rfl; apply gd_d; exact det_not rfl; apply gd_d; exact det_not rfl; apply gd_d; exact det_not rfl; apply gd_d; exact det_pick_t (v := .bool _) rfl rfl rfl rfl; refine gd_nil ?_; refine gw_nil ?_; refine gx_next ?_; refine gc_if_true rfl ?_; refine gc_seq ?_; refine gc_region ?_; apply gw_d; exact det_m rfl rfl (by conv => (lhs; whnf)); refine gw_nil ?_; refine gx_next ?_; refine gc_ret ?_; refine gx_block_ret ?_; refine gx_then_ret ?_; refine gx_then_ret ?_; refine gx_block_ret ?_; refine gx_then_ret ?_; rotate_left; apply gd_d; exact det_m rfl rfl (by conv => (lhs; whnf)); apply gd_d; exact det_m rfl rfl (by conv => (lhs; whnf)); apply gd_d; exact w_index rfl rfl rfl rfl (by with_reducible exact rfl) (by omega); apply gd_d; exact w_load_row rfl rfl rfl .here hk0; apply gd_d; exact det_m rfl rfl (by conv => (lhs; whnf)); apply gd_d; exact w_index (m := 0) rfl rfl rfl rfl rfl (by omega); apply gd_d; exact w_load_row rfl rfl rfl .here h00; apply gd_d; exact det_cmp rfl rfl rfl rfl rfl; apply gd_d; exact det_pick_f (v := .bool _) rfl rfl rfl rfl; apply gd_d; exact det_m rfl rfl (by conv => (lhs; whnf)); refine gd_guard_dec rfl rfl (fun _ => ?_) (fun _ => ?_); apply gd_d; exact det_not rfl; apply gd_d; exact det_not rfl; apply gd_d; exact det_not rfl; apply gd_d; exact det_not rfl; apply gd_d; exact det_not rfl; apply gd_d; exact det_not rfl; apply gd_d; exact det_not rfl; apply gd_d; exact det_not rfl; apply gd_d; exact det_not rfl; apply gd_d; exact det_pick_t (v := .bool _) rfl rfl rfl rfl; apply gd_d; exact det_m rfl rfl (by conv => (lhs; whnf)); apply gd_d; exact det_not rfl; apply gd_d; exact det_not rfl; apply gd_d; exact det_not rfl; apply gd_d; exact det_not rfl; apply gd_d; exact det_not rfl; apply gd_d; exact det_not rfl; apply gd_d; exact det_not rfl; apply gd_d; exact det_not rfl; apply gd_d; exact det_not rfl; apply gd_d; exact det_not rfl; apply gd_d; exact det_not rfl; apply gd_d; exact det_not rfl; apply gd_d; exact det_not rfl; apply gd_d; exact det_not rfl; apply gd_d; exact det_pick_t (v := .bool _) rfl rfl rfl rfl; refine gd_nil ?_; refine gw_nil ?_; refine gx_next ?_; refine gc_if_true rfl ?_; refine gc_seq ?_; refine gc_region ?_; apply gw_d; exact det_m rfl rfl (by conv => (lhs; whnf)); refine gw_nil ?_; refine gx_next ?_; refine gc_ret ?_; refine gx_block_ret ?_; refine gx_then_ret ?_; refine gx_then_ret ?_; refine gx_block_ret ?_; refine gx_then_ret ?_; rotate_left; apply gd_d; exact det_m rfl rfl (by conv => (lhs; whnf)); apply gd_d; exact det_m rfl rfl (by conv => (lhs; whnf)); apply gd_d; exact w_index rfl rfl rfl rfl (by with_reducible exact rfl) (by omega); apply gd_d; exact w_load_row rfl rfl rfl .here hk0; apply gd_d; exact det_m rfl rfl (by conv => (lhs; whnf)); apply gd_d; exact w_index (m := 0) rfl rfl rfl rfl rfl (by omega); apply gd_d; exact w_load_row rfl rfl rfl .here h00; apply gd_d; exact det_ar rfl rfl rfl rfl rfl (by omega); apply gd_d; exact det_cmp rfl rfl rfl rfl rfl; apply gd_d; exact det_pick_f (v := .bool _) rfl rfl rfl rfl; apply gd_d; exact det_m rfl rfl (by conv => (lhs; whnf)); refine gd_guard_dec rfl rfl (fun _ => ?_) (fun _ => ?_); apply gd_d; exact det_not rfl; apply gd_d; exact det_not rfl; apply gd_d; exact det_not rfl; apply gd_d; exact det_not rfl; apply gd_d; exact det_not rfl; apply gd_d; exact det_not rfl; apply gd_d; exact det_not rfl; apply gd_d; exact det_not rfl; apply gd_d; exact det_not rfl; apply gd_d; exact det_not rfl; apply gd_d; exact det_not rfl; apply gd_d; exact det_not rfl; apply gd_d; exact det_not rfl; apply gd_d; exact det_not rfl; apply gd_d; exact det_pick_t (v := .bool _) rfl rfl rfl rfl; refine gd_nil ?_; refine gw_nil ?_; refine gx_next ?_; refine gc_if_true rfl ?_; refine gc_seq ?_; refine gc_region ?_; apply gw_d; exact det_m rfl rfl (by conv => (lhs; whnf)); refine gw_nil ?_; refine gx_next ?_; refine gc_ret ?_; refine gx_block_ret ?_; refine gx_then_ret ?_; refine gx_then_ret ?_; refine gx_block_ret ?_; refine gx_then_ret ?_; rotate_left; apply gd_d; exact det_m rfl rfl (by conv => (lhs; whnf)); apply gd_d; exact det_cmp rfl rfl rfl rfl rfl; apply gd_d; exact det_m rfl rfl (by conv => (lhs; whnf)); refine gd_guard_dec rfl rfl (fun _ => ?_) (fun _ => ?_); apply gd_d; exact det_m rfl rfl (by conv => (lhs; whnf)); apply gd_d; exact det_m rfl rfl (by conv => (lhs; whnf)); apply gd_d; exact w_index rfl rfl rfl rfl (by with_reducible exact rfl) (by omega); apply gd_d; exact w_load_row rfl rfl rfl .here hk0; apply gd_d; exact det_m rfl rfl (by conv => (lhs; whnf)); apply gd_d; exact det_m rfl rfl (by conv => (lhs; whnf)); apply gd_d; exact det_ar rfl rfl rfl rfl rfl (by omega); apply gd_d; exact w_index (m := k - 1) rfl rfl rfl rfl (by omega) (by omega); apply gd_d; exact w_load_row rfl rfl rfl .here hk1; apply gd_d; exact det_cmp rfl rfl rfl rfl rfl; apply gd_d; exact det_pick_t (v := .bool _) rfl rfl rfl rfl; apply gd_d; exact det_pick_f (v := .bool _) rfl rfl rfl rfl; refine gd_nil ?_; refine gw_nil ?_; refine gx_next ?_; refine gc_if_dec rfl (fun _ => ?_) (fun _ => ?_); refine gc_seq ?_; refine gc_region ?_; apply gw_d; exact det_m rfl rfl (by conv => (lhs; whnf)); refine gw_nil ?_; refine gx_next ?_; refine gc_ret ?_; refine gx_block_ret ?_; refine gx_then_ret ?_; refine gx_then_ret ?_; refine gx_block_ret ?_; refine gx_then_ret ?_; rotate_left; refine gc_skip ?_; refine gx_block ?_; refine gx_next ?_; refine gc_region ?_; apply gw_d; exact det_m rfl rfl (by conv => (lhs; whnf)); apply gw_d; exact det_ar rfl rfl rfl rfl rfl (by omega); apply gw_d; exact det_m rfl rfl (by conv => (lhs; whnf)); refine gw_nil ?_; rotate_left; apply gd_d; exact det_not rfl; apply gd_d; exact det_not rfl; apply gd_d; exact det_not rfl; apply gd_d; exact det_not rfl; apply gd_d; exact det_not rfl; apply gd_d; exact det_not rfl; apply gd_d; exact det_not rfl; apply gd_d; exact det_not rfl; apply gd_d; exact det_not rfl; apply gd_d; exact det_not rfl; apply gd_d; exact det_pick_f (v := .bool _) rfl rfl rfl rfl; apply gd_d; exact det_pick_f (v := .bool _) rfl rfl rfl rfl; refine gd_nil ?_; refine gw_nil ?_; refine gx_next ?_; refine gc_if_false rfl ?_; refine gc_skip ?_; refine gx_block ?_; refine gx_next ?_; refine gc_region ?_; apply gw_d; exact det_m rfl rfl (by conv => (lhs; whnf)); apply gw_d; exact det_ar rfl rfl rfl rfl rfl (by omega); apply gw_d; exact det_m rfl rfl (by conv => (lhs; whnf)); refine gw_nil ?_; rotate_left)
    all_goals first | (exfalso; omega) | skip
    all_goals exact gx_round (k + 1) hkn (by omega) (by repeat (first | exact Keeps.refl | refine Keeps.upd rfl ?_ | refine Keeps.sets rfl ?_ | refine Keeps.havoc rfl ?_)) ⟨rfl, by rw [hnx]; rfl, trivial⟩ (Sub.all _)
  · obtain rfl : k = n := by omega
    rw [shS_full a (by omega)]
    focus (refine gc_exit ?_; refine gx_then_exit ?_; refine gx_then_exit ?_; refine gx_block_exit ?_; refine gx_next ?_; refine gc_seq ?_; refine gc_region ?_; apply gw_d; exact det_m rfl rfl (by conv => (lhs; whnf)); apply gw_d; exact det_m rfl rfl (by conv => (lhs; whnf)); apply gw_d; exact det_conv (r := a) rfl rfl rfl (wrap64_id (by unfold inI64; omega)); apply gw_d; exact det_cmp rfl rfl rfl rfl rfl; apply gw_d; exact det_m rfl rfl (by conv => (lhs; whnf)); refine gw_guard_dec rfl rfl (fun _ => ?_) (fun _ => ?_); apply gw_d; exact w_call rfl rfl (hA _) rfl; apply gw_d; exact det_pick_t (v := .bool _) rfl rfl rfl rfl; apply gw_d; exact det_m rfl rfl (by conv => (lhs; whnf)); refine gw_nil ?_; refine gx_next ?_; refine gc_ret ?_; rotate_left; apply gw_d; exact det_not rfl; apply gw_d; exact det_pick_f (v := .bool _) rfl rfl rfl rfl; apply gw_d; exact det_m rfl rfl (by conv => (lhs; whnf)); refine gw_nil ?_; refine gx_next ?_; refine gc_ret ?_; rotate_left)
    all_goals first | (exfalso; omega) | skip
    all_goals (refine gx_ret1 (v := .bool _) rfl rfl (fun _ _ => ?_); rfl)
end Go.Proofs.YtbglhkngdagmeaaGreatDoor
