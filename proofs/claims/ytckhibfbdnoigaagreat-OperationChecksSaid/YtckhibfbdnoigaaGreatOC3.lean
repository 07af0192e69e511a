/- Texts in one file: RA RB N1 N2 N5 N6 N7 N8 N3 N4 C6 C1 C7. -/
import Derived.Test.YtckhibfbdnoigaaGreatOC2
import Derived.Test.YtckhibfbdnoigaaGreatOC1
import Derived.Laws.Strings
/- Contracts: the chapters' own geometry (references 10 and 11). -/
namespace Go.Proofs.YtckhibfbdnoigaaGreat
open Go.RowKit
set_option maxRecDepth 100000

theorem r_far_ok (w : World) (x : Int) : Ok Tryz.prog 191 [.int .i64 x].toArray w fun r _ => r = .bool (decide (x > 1048576) || decide (x < -1048576)) := by
  refine ok_enter Tryz.func191 rfl Tryz.ntmps191 rfl ?_
  focus (refine gc_seq ?_; refine gc_region ?_; refine gM rfl rfl (by conv => (lhs; whnf)) ?_; refine gN ?_; refine gM rfl rfl (by conv => (lhs; whnf)) ?_; refine gC rfl rfl rfl rfl rfl ?_; refine gM rfl rfl (by conv => (lhs; whnf)) ?_; refine gw_guard_dec rfl rfl (fun _ => ?_) (fun _ => ?_); refine gU rfl ?_; refine gU rfl ?_; apply gw_d; exact det_pick_t (v := .bool _) rfl rfl rfl rfl; refine gM rfl rfl (by conv => (lhs; whnf)) ?_; refine gO ?_; refine gc_ret ?_; rotate_left; refine gM rfl rfl (by conv => (lhs; whnf)) ?_; refine gC rfl rfl rfl rfl rfl ?_; apply gw_d; exact det_pick_f (v := .bool _) rfl rfl rfl rfl; refine gM rfl rfl (by conv => (lhs; whnf)) ?_; refine gO ?_; refine gc_ret ?_; rotate_left)
  all_goals (refine gx_ret1 (v := .bool _) rfl rfl (fun _ _ => ?_); simp [*])

theorem far_out (x y : Int) : ((decide (x > 1048576) || decide (x < -1048576)) || (decide (y > 1048576) || decide (y < -1048576))) = outB x y := by
  unfold outB
  rw [Bool.eq_iff_iff]
  simp only [Bool.or_eq_true, decide_eq_true_eq]
  omega

set_option maxHeartbeats 1000000 in
theorem r_Far_ok (w : World) (v : Value) (l : List (Int × Int)) (hl : Sl rSpot w w.heap.size v l) : Ok Tryz.prog 165 [v].toArray w fun r _ => r = .bool (l.any outP) := by
  obtain ⟨A, c, rfl, hc, hm, hcell⟩ := hl.spot
  refine ok_enter Tryz.func165 rfl Tryz.ntmps165 rfl ?_
  focus (refine gc_seq ?_; refine gc_region ?_; refine gM rfl rfl (by conv => (lhs; whnf)) ?_; refine gO ?_; refine gc_seq ?_; refine gc_seq ?_; refine gc_region ?_; refine gM rfl rfl (by conv => (lhs; whnf)) ?_; refine gO ?_; refine gc_block ?_)
  refine gc_loop (σ := Nat) [4, 5, 6, 7, 10, 11, 12, 13, 14, 15, 16, 17, 18, 19, 20, 21, 22, 23, 2, 8, 9, 3] (fun k => [(3, .int .i64 k)]) (fun _ => []) (fun k => k ≤ l.length ∧ (l.take k).any outP = false) (fun k => l.length - k) 0 ⟨Nat.zero_le _, rfl⟩ ⟨rfl, trivial⟩ .nil ?_
  rintro k base ⟨hk, hI⟩
  focus (refine gc_seq ?_; refine gc_seq ?_; refine gc_region ?_; refine gM rfl rfl (by conv => (lhs; whnf)) ?_; refine gM rfl rfl (by conv => (lhs; whnf)) ?_; refine gL rfl rfl rfl ?_; refine gC rfl rfl rfl rfl rfl ?_; refine gO ?_)
  refine gc_if_dec rfl (fun h => ?_) (fun h => ?_)
  · obtain ⟨ad, rfl, hb, hce, hi⟩ := hcell k (by omega)
    have hlt : k < l.length := by omega
    have hyes : outP l[k] = true → l.any outP = true := fun h => List.any_eq_true.2 ⟨_, List.getElem_mem hlt, h⟩
    focus (refine gc_skip ?_; refine gx_next ?_; refine gc_seq ?_; refine gc_block ?_; refine gc_seq ?_; refine gc_region ?_; refine gM rfl rfl (by conv => (lhs; whnf)) ?_; refine gM rfl rfl (by conv => (lhs; whnf)) ?_; apply gw_d; exact w_index rfl rfl rfl rfl (by with_reducible exact rfl) (by omega); refine gF rfl rfl rfl ?_; apply gw_d; exact w_load_fld rfl rfl rfl hb (hce 0 _ rfl); apply gw_d; exact w_call rfl rfl (fun w _ => r_far_ok w _) rfl; refine gM rfl rfl (by conv => (lhs; whnf)) ?_; refine gw_guard rfl rfl (fun _ => ?_) (fun _ => ?_); refine gU rfl ?_; refine gU rfl ?_; refine gU rfl ?_; refine gU rfl ?_; refine gU rfl ?_; refine gU rfl ?_; apply gw_d; exact det_pick_t (v := .bool _) rfl rfl rfl rfl; refine gO ?_; refine gc_if_true rfl ?_; refine gc_seq ?_; refine gc_region ?_; refine gM rfl rfl (by conv => (lhs; whnf)) ?_; refine gO ?_; refine gc_ret ?_; refine gx_block_ret ?_; refine gx_then_ret ?_; refine gx_then_ret ?_; refine gx_block_ret ?_; refine gx_then_ret ?_; rotate_left; refine gM rfl rfl (by conv => (lhs; whnf)) ?_; refine gM rfl rfl (by conv => (lhs; whnf)) ?_; apply gw_d; exact w_index rfl rfl rfl rfl (by with_reducible exact rfl) (by omega); refine gF rfl rfl rfl ?_; apply gw_d; exact w_load_fld rfl rfl rfl hb (hce 1 _ rfl); apply gw_d; exact w_call rfl rfl (fun w _ => r_far_ok w _) rfl; apply gw_d; exact det_pick_f (v := .bool _) rfl rfl rfl rfl; refine gO ?_; refine gc_if rfl (fun _ => ?_) (fun _ => ?_); refine gc_seq ?_; refine gc_region ?_; refine gM rfl rfl (by conv => (lhs; whnf)) ?_; refine gO ?_; refine gc_ret ?_; refine gx_block_ret ?_; refine gx_then_ret ?_; refine gx_then_ret ?_; refine gx_block_ret ?_; refine gx_then_ret ?_; rotate_left; refine gc_skip ?_; refine gx_block ?_; refine gx_next ?_; refine gc_region ?_; refine gM rfl rfl (by conv => (lhs; whnf)) ?_; apply gw_d; exact det_ar rfl rfl rfl rfl rfl (by omega); refine gM rfl rfl (by conv => (lhs; whnf)) ?_; refine gw_nil ?_; rotate_left)
    all_goals first
      | (refine gx_ret1 (v := .bool _) rfl rfl (fun _ _ => ?_)
         rw [hyes (show outB _ _ = true from by rw [← far_out]; simp [*])])
      | exact gx_round (k + 1) ⟨by omega, any_snoc hlt hI (show outB _ _ = false from by rw [← far_out]; simp [*])⟩ (by omega) (by repeat (first | exact Keeps.refl | refine Keeps.upd rfl ?_ | refine Keeps.sets rfl ?_ | refine Keeps.havoc rfl ?_)) ⟨rfl, trivial⟩ .nil
  · focus (refine gc_exit ?_; refine gx_then_exit ?_; refine gx_then_exit ?_; refine gx_block_exit ?_; refine gx_next ?_; refine gc_seq ?_; refine gc_region ?_; refine gM rfl rfl (by conv => (lhs; whnf)) ?_; refine gO ?_; refine gc_ret ?_)
    refine gx_ret1 (v := .bool _) rfl rfl (fun _ _ => ?_)
    rw [List.take_of_length_le (by omega)] at hI
    rw [hI]

set_option maxHeartbeats 1000000 in
theorem r_polyline_ok (w : World) (v : Value) (l : List (Int × Int)) (hl : Sl rSpot w w.heap.size v l) : Ok Tryz.prog 137 [v].toArray w fun r _ => r = .int .i64 (plineE l) := by
  by_cases hlen : 2 ≤ l.length
  · obtain ⟨ad, c, rfl, hc, hm, hb, hcell⟩ := hl.spot' (by omega)
    refine ok_enter Tryz.func137 rfl Tryz.ntmps137 rfl ?_
    focus (refine gc_seq ?_; refine gc_region ?_; refine gM rfl rfl (by conv => (lhs; whnf)) ?_; refine gO ?_; refine gc_seq ?_; refine gc_seq ?_; refine gc_region ?_; refine gM rfl rfl (by conv => (lhs; whnf)) ?_; refine gL rfl rfl rfl ?_; refine gC rfl rfl rfl rfl rfl ?_; refine gO ?_; refine gc_if_dec rfl (fun _ => ?_) (fun _ => ?_); refine gc_seq ?_; refine gc_region ?_; refine gM rfl rfl (by conv => (lhs; whnf)) ?_; refine gO ?_; refine gc_ret ?_; refine gx_then_ret ?_; rotate_left; refine gc_skip ?_; refine gx_next ?_; refine gc_seq ?_; refine gc_seq ?_; refine gc_region ?_; refine gM rfl rfl (by conv => (lhs; whnf)) ?_; refine gL rfl rfl rfl ?_; refine gC rfl rfl rfl rfl rfl ?_; refine gO ?_; refine gc_if_dec rfl (fun _ => ?_) (fun _ => ?_); refine gc_seq ?_; refine gc_region ?_; refine gM rfl rfl (by conv => (lhs; whnf)) ?_; refine gO ?_; refine gc_ret ?_; refine gx_then_ret ?_; rotate_left; refine gc_skip ?_; refine gx_next ?_; refine gc_seq ?_; refine gc_seq ?_; refine gc_region ?_; refine gM rfl rfl (by conv => (lhs; whnf)) ?_; apply gw_d; exact w_call rfl rfl (fun w s => r_Far_ok w _ l (hl.later s)) rfl; refine gO ?_; refine gc_if rfl (fun _ => ?_) (fun _ => ?_); refine gc_seq ?_; refine gc_region ?_; refine gM rfl rfl (by conv => (lhs; whnf)) ?_; refine gO ?_; refine gc_ret ?_; refine gx_then_ret ?_; rotate_left; refine gc_skip ?_; refine gx_next ?_; refine gc_seq ?_; refine gc_seq ?_; refine gc_region ?_; refine gM rfl rfl (by conv => (lhs; whnf)) ?_; refine gO ?_; refine gc_block ?_; rotate_left)
    · refine gx_ret1 (v := .int _ _) rfl rfl (fun _ _ => ?_)
      have : 40 < l.length := by omega
      simp [plineE, this]
    · omega
    · refine gx_ret1 (v := .int _ _) rfl rfl (fun _ _ => ?_)
      have h1 : ¬ 40 < l.length := by omega
      have h2 : ¬ l.length < 2 := by omega
      simp only [plineE, h1, h2, if_false]
      rw [if_pos ‹_›]
    · refine gc_loop (σ := Nat) [12, 13, 14, 15, 18, 19, 20, 21, 22, 23, 24, 25, 26, 27, 2, 16, 17, 3] (fun k => [(3, .int .i64 (k + 1 : Nat))]) (fun _ => []) (fun k => k ≤ l.length - 1 ∧ stillB l k = false) (fun k => l.length - k) 0 ⟨Nat.zero_le _, rfl⟩ ⟨rfl, trivial⟩ .nil ?_
      rintro k base ⟨hk, hI⟩
      focus (refine gc_seq ?_; refine gc_seq ?_; refine gc_region ?_; refine gM rfl rfl (by conv => (lhs; whnf)) ?_; refine gM rfl rfl (by conv => (lhs; whnf)) ?_; refine gL rfl rfl rfl ?_; refine gC rfl rfl rfl rfl rfl ?_; refine gO ?_)
      refine gc_if_dec rfl (fun h => ?_) (fun h => ?_)
      · have hce0 := hcell k (by omega)
        have hce1 := hcell (k + 1) (by omega)
        focus (refine gc_skip ?_; refine gx_next ?_; refine gc_seq ?_; refine gc_block ?_; refine gc_seq ?_)
        refine gc_draw 10 (by kernel_rfl) (by kernel_rfl) ?_
        focus (apply gd_d; exact det_m rfl rfl (by conv => (lhs; whnf)); apply gd_d; exact det_m rfl rfl (by conv => (lhs; whnf)); apply gd_d; exact w_index (m := k + 1) rfl rfl rfl rfl rfl (by omega); apply gd_d; exact w_load_elem rfl rfl rfl (by assumption) (by assumption) (by rfl); apply gd_d; exact det_m rfl rfl (by conv => (lhs; whnf)); apply gd_d; exact det_m rfl rfl (by conv => (lhs; whnf)); apply gd_d; exact det_ar rfl rfl rfl rfl rfl (by omega); apply gd_d; exact w_index (m := k) rfl rfl rfl rfl (by omega) (by omega); apply gd_d; exact w_load_elem rfl rfl rfl (by assumption) (by assumption) (by rfl); apply gd_d; exact w_eq2 rfl rfl rfl rfl; refine gd_nil ?_; refine gO ?_; refine gc_if_dec rfl (fun _ => ?_) (fun _ => ?_); refine gc_seq ?_; refine gc_region ?_; refine gM rfl rfl (by conv => (lhs; whnf)) ?_; refine gO ?_; refine gc_ret ?_; refine gx_block_ret ?_; refine gx_then_ret ?_; refine gx_then_ret ?_; refine gx_block_ret ?_; refine gx_then_ret ?_; rotate_left; refine gc_skip ?_; refine gx_block ?_; refine gx_next ?_; refine gc_region ?_; refine gM rfl rfl (by conv => (lhs; whnf)) ?_; apply gw_d; exact det_ar rfl rfl rfl rfl rfl (by omega); refine gM rfl rfl (by conv => (lhs; whnf)) ?_; refine gw_nil ?_; rotate_left)
        · refine gx_ret1 (v := .int _ _) rfl rfl (fun _ _ => ?_)
          have h1 : ¬ 40 < l.length := by omega
          have h2 : ¬ l.length < 2 := by omega
          simp only [plineE, h1, h2, if_false]
          rw [if_neg (by simpa using ‹l.any outP = false›), if_pos (still_yes (k := k) (by omega) (Eq.symm ‹_›))]
        · exact gx_round (k + 1) ⟨by omega, still_snoc hI (fun h => absurd h.symm ‹_›)⟩ (by omega) (by repeat (first | exact Keeps.refl | refine Keeps.upd rfl ?_ | refine Keeps.sets rfl ?_ | refine Keeps.havoc rfl ?_)) ⟨rfl, trivial⟩ .nil
      · focus (refine gc_exit ?_; refine gx_then_exit ?_; refine gx_then_exit ?_; refine gx_block_exit ?_; refine gx_next ?_; refine gc_seq ?_; refine gc_region ?_; refine gM rfl rfl (by conv => (lhs; whnf)) ?_; refine gO ?_; refine gc_ret ?_)
        refine gx_ret1 (v := .int _ _) rfl rfl (fun _ _ => ?_)
        have h1 : ¬ 40 < l.length := by omega
        have h2 : ¬ l.length < 2 := by omega
        obtain rfl : k = l.length - 1 := by omega
        simp only [plineE, h1, h2, if_false]
        rw [if_neg (by simpa using ‹l.any outP = false›), if_neg (by simpa using hI)]
  · obtain ⟨A, c, rfl, hc, hm⟩ := len_small hl
    refine ok_enter Tryz.func137 rfl Tryz.ntmps137 rfl ?_
    focus (refine gc_seq ?_; refine gc_region ?_; refine gM rfl rfl (by conv => (lhs; whnf)) ?_; refine gO ?_; refine gc_seq ?_; refine gc_seq ?_; refine gc_region ?_; refine gM rfl rfl (by conv => (lhs; whnf)) ?_; refine gL rfl rfl rfl ?_; refine gC rfl rfl rfl rfl rfl ?_; refine gO ?_)
    refine gc_if_dec rfl (fun h => by omega) (fun h => ?_)
    focus (refine gc_skip ?_; refine gx_next ?_; refine gc_seq ?_; refine gc_seq ?_; refine gc_region ?_; refine gM rfl rfl (by conv => (lhs; whnf)) ?_; refine gL rfl rfl rfl ?_; refine gC rfl rfl rfl rfl rfl ?_; refine gO ?_)
    refine gc_if_dec rfl (fun h => ?_) (fun h => by omega)
    focus (refine gc_seq ?_; refine gc_region ?_; refine gM rfl rfl (by conv => (lhs; whnf)) ?_; refine gO ?_; refine gc_ret ?_; refine gx_then_ret ?_)
    refine gx_ret1 (v := .int _ _) rfl rfl (fun _ _ => ?_)
    have h1 : ¬ 40 < l.length := by omega
    have h2 : l.length < 2 := by omega
    simp [plineE, h1, h2]

set_option maxHeartbeats 1000000 in
theorem r_cross_ok (w : World) (ax ay bx by_ cx cy : Int) (h1 : Bd ax) (h2 : Bd ay) (h3 : Bd bx) (h4 : Bd by_) (h5 : Bd cx) (h6 : Bd cy) :
    Ok Tryz.prog 206 [.agg #[.int .i64 ax, .int .i64 ay], .agg #[.int .i64 bx, .int .i64 by_], .agg #[.int .i64 cx, .int .i64 cy]].toArray w fun r _ => r = .int .i64 (crossI ax ay bx by_ cx cy) := by
  unfold Bd at *
  have m1 := mul_bd (x := bx - ax) (y := cy - ay) (B := 2097152) (C := 2097152) (by omega) (by omega) (by omega) (by omega)
  have m2 := mul_bd (x := by_ - ay) (y := cx - ax) (B := 2097152) (C := 2097152) (by omega) (by omega) (by omega) (by omega)
  refine ok_enter Tryz.func206 rfl Tryz.ntmps206 rfl ?_
  focus (refine gc_seq ?_; refine gc_region ?_; refine gw_boxd (v := .agg _) rfl rfl (fun _ => ?_); refine gw_boxd (v := .agg _) rfl rfl (fun _ => ?_); refine gw_boxd (v := .agg _) rfl rfl (fun _ => ?_); refine gM rfl rfl (by conv => (lhs; whnf)) ?_; refine gN ?_; refine gF rfl rfl rfl ?_; apply gw_d; exact w_load_box rfl rfl rfl (.there .here) rfl; refine gF rfl rfl rfl ?_; apply gw_d; exact w_load_box rfl rfl rfl (.there (.there .here)) rfl; apply gw_d; exact det_ar rfl rfl rfl rfl rfl (by omega); refine gF rfl rfl rfl ?_; apply gw_d; exact w_load_box rfl rfl rfl .here rfl; refine gF rfl rfl rfl ?_; apply gw_d; exact w_load_box rfl rfl rfl (.there (.there .here)) rfl; apply gw_d; exact det_ar rfl rfl rfl rfl rfl (by omega); apply gw_d; exact det_ar rfl rfl rfl rfl rfl (by omega); refine gF rfl rfl rfl ?_; apply gw_d; exact w_load_box rfl rfl rfl (.there .here) rfl; refine gF rfl rfl rfl ?_; apply gw_d; exact w_load_box rfl rfl rfl (.there (.there .here)) rfl; apply gw_d; exact det_ar rfl rfl rfl rfl rfl (by omega); refine gF rfl rfl rfl ?_; apply gw_d; exact w_load_box rfl rfl rfl .here rfl; refine gF rfl rfl rfl ?_; apply gw_d; exact w_load_box rfl rfl rfl (.there (.there .here)) rfl; apply gw_d; exact det_ar rfl rfl rfl rfl rfl (by omega); apply gw_d; exact det_ar rfl rfl rfl rfl rfl (by omega); apply gw_d; exact det_ar rfl rfl rfl rfl rfl (by omega); refine gM rfl rfl (by conv => (lhs; whnf)) ?_; refine gO ?_; refine gc_ret ?_)
  refine gx_ret1 (v := .int _ _) rfl rfl (fun _ _ => ?_)
  simp only [crossI]

theorem r_sign_ok (w : World) (x : Int) : Ok Tryz.prog 207 [.int .i64 x].toArray w fun r _ => r = .int .i64 (signI x 0) := by
  refine ok_enter Tryz.func207 rfl Tryz.ntmps207 rfl ?_
  focus (refine gc_seq ?_; refine gc_region ?_; refine gM rfl rfl (by conv => (lhs; whnf)) ?_; refine gO ?_; refine gc_seq ?_; refine gc_block ?_; refine gc_seq ?_; refine gc_region ?_; refine gM rfl rfl (by conv => (lhs; whnf)) ?_; refine gC rfl rfl rfl rfl rfl ?_; refine gM rfl rfl (by conv => (lhs; whnf)) ?_; refine gO ?_; refine gc_if_dec rfl (fun _ => ?_) (fun _ => ?_); refine gc_seq ?_; refine gc_region ?_; refine gM rfl rfl (by conv => (lhs; whnf)) ?_; refine gO ?_; refine gc_ret ?_; refine gx_block_ret ?_; refine gx_then_ret ?_; rotate_left; refine gc_seq ?_; refine gc_region ?_; refine gM rfl rfl (by conv => (lhs; whnf)) ?_; refine gC rfl rfl rfl rfl rfl ?_; refine gM rfl rfl (by conv => (lhs; whnf)) ?_; refine gO ?_; refine gc_if_dec rfl (fun _ => ?_) (fun _ => ?_); refine gc_seq ?_; refine gc_region ?_; refine gM rfl rfl (by conv => (lhs; whnf)) ?_; refine gO ?_; refine gc_ret ?_; refine gx_block_ret ?_; refine gx_then_ret ?_; rotate_left; refine gc_skip ?_; refine gx_block ?_; refine gx_next ?_; refine gc_seq ?_; refine gc_region ?_; refine gM rfl rfl (by conv => (lhs; whnf)) ?_; refine gO ?_; refine gc_ret ?_; rotate_left)
  all_goals
    refine gx_ret1 (v := .int _ _) rfl rfl (fun _ _ => ?_)
    congr 1
    unfold signI
    repeat' split
    all_goals first | rfl | (exfalso; omega)

set_option maxHeartbeats 1000000 in
theorem r_on_ok (w : World) (ax ay bx by_ cx cy : Int) (h1 : Bd ax) (h2 : Bd ay) (h3 : Bd bx) (h4 : Bd by_) (h5 : Bd cx) (h6 : Bd cy) :
    Ok Tryz.prog 192 [.agg #[.int .i64 ax, .int .i64 ay], .agg #[.int .i64 bx, .int .i64 by_], .agg #[.int .i64 cx, .int .i64 cy]].toArray w fun r _ => r = .bool (onB ax ay bx by_ cx cy) := by
  refine ok_enter Tryz.func192 rfl Tryz.ntmps192 rfl ?_
  focus (refine gc_seq ?_; refine gc_region ?_; refine gw_boxd (v := .agg _) rfl rfl (fun _ => ?_); refine gw_boxd (v := .agg _) rfl rfl (fun _ => ?_); refine gw_boxd (v := .agg _) rfl rfl (fun _ => ?_); refine gM rfl rfl (by conv => (lhs; whnf)) ?_; refine gN ?_; apply gw_d; exact w_load_boxN rfl rfl rfl (.there (.there .here)) rfl; apply gw_d; exact w_load_boxN rfl rfl rfl (.there .here) rfl; apply gw_d; exact w_load_boxN rfl rfl rfl .here rfl; apply gw_d; exact w_call rfl rfl (fun w _ => r_cross_ok w _ _ _ _ _ _ h1 h2 h3 h4 h5 h6) rfl; refine gC rfl rfl rfl rfl rfl ?_; refine gM rfl rfl (by conv => (lhs; whnf)) ?_; refine gw_guard_dec rfl rfl (fun _ => ?_) (fun _ => ?_); refine gF rfl rfl rfl ?_; apply gw_d; exact w_load_box rfl rfl rfl (.there (.there .here)) rfl; refine gF rfl rfl rfl ?_; apply gw_d; exact w_load_box rfl rfl rfl (.there .here) rfl; apply gw_d; exact w_min rfl rfl rfl rfl; refine gF rfl rfl rfl ?_; apply gw_d; exact w_load_box rfl rfl rfl .here rfl; refine gC rfl rfl rfl rfl rfl ?_; apply gw_d; exact det_pick_t (v := .bool _) rfl rfl rfl rfl; refine gM rfl rfl (by conv => (lhs; whnf)) ?_; refine gw_guard_dec rfl rfl (fun _ => ?_) (fun _ => ?_); refine gF rfl rfl rfl ?_; apply gw_d; exact w_load_box rfl rfl rfl .here rfl; refine gF rfl rfl rfl ?_; apply gw_d; exact w_load_box rfl rfl rfl (.there (.there .here)) rfl; refine gF rfl rfl rfl ?_; apply gw_d; exact w_load_box rfl rfl rfl (.there .here) rfl; apply gw_d; exact w_max rfl rfl rfl rfl; refine gC rfl rfl rfl rfl rfl ?_; apply gw_d; exact det_pick_t (v := .bool _) rfl rfl rfl rfl; refine gM rfl rfl (by conv => (lhs; whnf)) ?_; refine gw_guard_dec rfl rfl (fun _ => ?_) (fun _ => ?_); refine gF rfl rfl rfl ?_; apply gw_d; exact w_load_box rfl rfl rfl (.there (.there .here)) rfl; refine gF rfl rfl rfl ?_; apply gw_d; exact w_load_box rfl rfl rfl (.there .here) rfl; apply gw_d; exact w_min rfl rfl rfl rfl; refine gF rfl rfl rfl ?_; apply gw_d; exact w_load_box rfl rfl rfl .here rfl; refine gC rfl rfl rfl rfl rfl ?_; apply gw_d; exact det_pick_t (v := .bool _) rfl rfl rfl rfl; refine gM rfl rfl (by conv => (lhs; whnf)) ?_; refine gw_guard_dec rfl rfl (fun _ => ?_) (fun _ => ?_); refine gF rfl rfl rfl ?_; apply gw_d; exact w_load_box rfl rfl rfl .here rfl; refine gF rfl rfl rfl ?_; apply gw_d; exact w_load_box rfl rfl rfl (.there (.there .here)) rfl; refine gF rfl rfl rfl ?_; apply gw_d; exact w_load_box rfl rfl rfl (.there .here) rfl; apply gw_d; exact w_max rfl rfl rfl rfl; refine gC rfl rfl rfl rfl rfl ?_; apply gw_d; exact det_pick_t (v := .bool _) rfl rfl rfl rfl; refine gM rfl rfl (by conv => (lhs; whnf)) ?_; refine gO ?_; refine gc_ret ?_; rotate_left; refine gU rfl ?_; refine gU rfl ?_; refine gU rfl ?_; refine gU rfl ?_; refine gU rfl ?_; refine gU rfl ?_; refine gU rfl ?_; refine gU rfl ?_; apply gw_d; exact det_pick_f (v := .bool _) rfl rfl rfl rfl; refine gM rfl rfl (by conv => (lhs; whnf)) ?_; refine gO ?_; refine gc_ret ?_; rotate_left; refine gU rfl ?_; refine gU rfl ?_; refine gU rfl ?_; refine gU rfl ?_; refine gU rfl ?_; refine gU rfl ?_; refine gU rfl ?_; refine gU rfl ?_; apply gw_d; exact det_pick_f (v := .bool _) rfl rfl rfl rfl; refine gM rfl rfl (by conv => (lhs; whnf)) ?_; refine gU rfl ?_; refine gU rfl ?_; refine gU rfl ?_; refine gU rfl ?_; refine gU rfl ?_; refine gU rfl ?_; refine gU rfl ?_; refine gU rfl ?_; apply gw_d; exact det_pick_f (v := .bool _) rfl rfl rfl rfl; refine gM rfl rfl (by conv => (lhs; whnf)) ?_; refine gO ?_; refine gc_ret ?_; rotate_left; refine gU rfl ?_; refine gU rfl ?_; refine gU rfl ?_; refine gU rfl ?_; refine gU rfl ?_; refine gU rfl ?_; refine gU rfl ?_; refine gU rfl ?_; apply gw_d; exact det_pick_f (v := .bool _) rfl rfl rfl rfl; refine gM rfl rfl (by conv => (lhs; whnf)) ?_; refine gU rfl ?_; refine gU rfl ?_; refine gU rfl ?_; refine gU rfl ?_; refine gU rfl ?_; refine gU rfl ?_; refine gU rfl ?_; refine gU rfl ?_; apply gw_d; exact det_pick_f (v := .bool _) rfl rfl rfl rfl; refine gM rfl rfl (by conv => (lhs; whnf)) ?_; refine gU rfl ?_; refine gU rfl ?_; refine gU rfl ?_; refine gU rfl ?_; refine gU rfl ?_; refine gU rfl ?_; refine gU rfl ?_; refine gU rfl ?_; apply gw_d; exact det_pick_f (v := .bool _) rfl rfl rfl rfl; refine gM rfl rfl (by conv => (lhs; whnf)) ?_; refine gO ?_; refine gc_ret ?_; rotate_left; refine gU rfl ?_; refine gU rfl ?_; refine gU rfl ?_; refine gU rfl ?_; refine gU rfl ?_; refine gU rfl ?_; refine gU rfl ?_; refine gU rfl ?_; apply gw_d; exact det_pick_f (v := .bool _) rfl rfl rfl rfl; refine gM rfl rfl (by conv => (lhs; whnf)) ?_; refine gU rfl ?_; refine gU rfl ?_; refine gU rfl ?_; refine gU rfl ?_; refine gU rfl ?_; refine gU rfl ?_; refine gU rfl ?_; refine gU rfl ?_; apply gw_d; exact det_pick_f (v := .bool _) rfl rfl rfl rfl; refine gM rfl rfl (by conv => (lhs; whnf)) ?_; refine gU rfl ?_; refine gU rfl ?_; refine gU rfl ?_; refine gU rfl ?_; refine gU rfl ?_; refine gU rfl ?_; refine gU rfl ?_; refine gU rfl ?_; apply gw_d; exact det_pick_f (v := .bool _) rfl rfl rfl rfl; refine gM rfl rfl (by conv => (lhs; whnf)) ?_; refine gU rfl ?_; refine gU rfl ?_; refine gU rfl ?_; refine gU rfl ?_; refine gU rfl ?_; refine gU rfl ?_; refine gU rfl ?_; refine gU rfl ?_; apply gw_d; exact det_pick_f (v := .bool _) rfl rfl rfl rfl; refine gM rfl rfl (by conv => (lhs; whnf)) ?_; refine gO ?_; refine gc_ret ?_; rotate_left)
  all_goals (refine gx_ret1 (v := .bool _) rfl rfl (fun _ _ => ?_); simp [onB, *])

set_option maxHeartbeats 1000000 in
theorem r_meet_ok (w : World) (ax ay bx by_ cx cy dx dy : Int) (h1 : Bd ax) (h2 : Bd ay) (h3 : Bd bx) (h4 : Bd by_) (h5 : Bd cx) (h6 : Bd cy) (h7 : Bd dx) (h8 : Bd dy) :
    Ok Tryz.prog 193 [.agg #[.int .i64 ax, .int .i64 ay], .agg #[.int .i64 bx, .int .i64 by_], .agg #[.int .i64 cx, .int .i64 cy], .agg #[.int .i64 dx, .int .i64 dy]].toArray w fun r _ => r = .bool (meetB ax ay bx by_ cx cy dx dy) := by
  have s1 := sign_bd (crossI ax ay bx by_ cx cy) 0
  have s2 := sign_bd (crossI ax ay bx by_ dx dy) 0
  have m := mul_bd (B := 1) (C := 1) s1.1 s1.2 s2.1 s2.2
  have s3 := sign_bd (crossI cx cy dx dy ax ay) 0
  have s4 := sign_bd (crossI cx cy dx dy bx by_) 0
  have m2 := mul_bd (B := 1) (C := 1) s3.1 s3.2 s4.1 s4.2
  refine ok_enter Tryz.func193 rfl Tryz.ntmps193 rfl ?_
  focus (refine gc_seq ?_; refine gc_region ?_; refine gw_boxd (v := .agg _) rfl rfl (fun _ => ?_); refine gw_boxd (v := .agg _) rfl rfl (fun _ => ?_); refine gw_boxd (v := .agg _) rfl rfl (fun _ => ?_); refine gw_boxd (v := .agg _) rfl rfl (fun _ => ?_); refine gM rfl rfl (by conv => (lhs; whnf)) ?_; refine gO ?_; refine gc_seq ?_; refine gc_seq ?_; refine gc_region ?_; apply gw_d; exact w_load_boxN rfl rfl rfl (.there (.there (.there .here))) rfl; apply gw_d; exact w_load_boxN rfl rfl rfl (.there (.there .here)) rfl; apply gw_d; exact w_load_boxN rfl rfl rfl (.there .here) rfl; apply gw_d; exact w_call rfl rfl (fun w _ => r_on_ok w _ _ _ _ _ _ (by assumption) (by assumption) (by assumption) (by assumption) (by assumption) (by assumption)) rfl; refine gM rfl rfl (by conv => (lhs; whnf)) ?_; refine gw_guard rfl rfl (fun _ => ?_) (fun _ => ?_); refine gU rfl ?_; refine gU rfl ?_; refine gU rfl ?_; refine gU rfl ?_; apply gw_d; exact det_pick_t (v := .bool _) rfl rfl rfl rfl; refine gM rfl rfl (by conv => (lhs; whnf)) ?_; refine gU rfl ?_; refine gU rfl ?_; refine gU rfl ?_; refine gU rfl ?_; apply gw_d; exact det_pick_t (v := .bool _) rfl rfl rfl rfl; refine gM rfl rfl (by conv => (lhs; whnf)) ?_; refine gU rfl ?_; refine gU rfl ?_; refine gU rfl ?_; refine gU rfl ?_; apply gw_d; exact det_pick_t (v := .bool _) rfl rfl rfl rfl; refine gO ?_; refine gc_if_true rfl ?_; refine gc_seq ?_; refine gc_region ?_; refine gM rfl rfl (by conv => (lhs; whnf)) ?_; refine gO ?_; refine gc_ret ?_; refine gx_then_ret ?_; rotate_left; apply gw_d; exact w_load_boxN rfl rfl rfl (.there (.there (.there .here))) rfl; apply gw_d; exact w_load_boxN rfl rfl rfl (.there (.there .here)) rfl; apply gw_d; exact w_load_boxN rfl rfl rfl .here rfl; apply gw_d; exact w_call rfl rfl (fun w _ => r_on_ok w _ _ _ _ _ _ (by assumption) (by assumption) (by assumption) (by assumption) (by assumption) (by assumption)) rfl; apply gw_d; exact det_pick_f (v := .bool _) rfl rfl rfl rfl; refine gM rfl rfl (by conv => (lhs; whnf)) ?_; refine gw_guard rfl rfl (fun _ => ?_) (fun _ => ?_); refine gU rfl ?_; refine gU rfl ?_; refine gU rfl ?_; refine gU rfl ?_; apply gw_d; exact det_pick_t (v := .bool _) rfl rfl rfl rfl; refine gM rfl rfl (by conv => (lhs; whnf)) ?_; refine gU rfl ?_; refine gU rfl ?_; refine gU rfl ?_; refine gU rfl ?_; apply gw_d; exact det_pick_t (v := .bool _) rfl rfl rfl rfl; refine gO ?_; refine gc_if_true rfl ?_; refine gc_seq ?_; refine gc_region ?_; refine gM rfl rfl (by conv => (lhs; whnf)) ?_; refine gO ?_; refine gc_ret ?_; refine gx_then_ret ?_; rotate_left; apply gw_d; exact w_load_boxN rfl rfl rfl (.there .here) rfl; apply gw_d; exact w_load_boxN rfl rfl rfl .here rfl; apply gw_d; exact w_load_boxN rfl rfl rfl (.there (.there (.there .here))) rfl; apply gw_d; exact w_call rfl rfl (fun w _ => r_on_ok w _ _ _ _ _ _ (by assumption) (by assumption) (by assumption) (by assumption) (by assumption) (by assumption)) rfl; apply gw_d; exact det_pick_f (v := .bool _) rfl rfl rfl rfl; refine gM rfl rfl (by conv => (lhs; whnf)) ?_; refine gw_guard rfl rfl (fun _ => ?_) (fun _ => ?_); refine gU rfl ?_; refine gU rfl ?_; refine gU rfl ?_; refine gU rfl ?_; apply gw_d; exact det_pick_t (v := .bool _) rfl rfl rfl rfl; refine gO ?_; refine gc_if_true rfl ?_; refine gc_seq ?_; refine gc_region ?_; refine gM rfl rfl (by conv => (lhs; whnf)) ?_; refine gO ?_; refine gc_ret ?_; refine gx_then_ret ?_; rotate_left; apply gw_d; exact w_load_boxN rfl rfl rfl (.there .here) rfl; apply gw_d; exact w_load_boxN rfl rfl rfl .here rfl; apply gw_d; exact w_load_boxN rfl rfl rfl (.there (.there .here)) rfl; apply gw_d; exact w_call rfl rfl (fun w _ => r_on_ok w _ _ _ _ _ _ (by assumption) (by assumption) (by assumption) (by assumption) (by assumption) (by assumption)) rfl; apply gw_d; exact det_pick_f (v := .bool _) rfl rfl rfl rfl; refine gO ?_; refine gc_if rfl (fun _ => ?_) (fun _ => ?_); refine gc_seq ?_; refine gc_region ?_; refine gM rfl rfl (by conv => (lhs; whnf)) ?_; refine gO ?_; refine gc_ret ?_; refine gx_then_ret ?_; rotate_left; refine gc_skip ?_; refine gx_next ?_; refine gc_seq ?_; rotate_left)
  all_goals first
    | (refine gx_ret1 (v := .bool _) rfl rfl (fun _ _ => ?_); simp [meetB, partB, *]; done)
    | skip
  refine gc_draw 26 (by kernel_rfl) (by kernel_rfl) ?_
  focus (apply gd_d; exact w_load_boxN rfl rfl rfl (.there (.there (.there .here))) rfl; apply gd_d; exact w_load_boxN rfl rfl rfl (.there (.there .here)) rfl; apply gd_d; exact w_load_boxN rfl rfl rfl (.there .here) rfl; apply gd_d; exact w_call rfl rfl (fun w _ => r_cross_ok w _ _ _ _ _ _ (by assumption) (by assumption) (by assumption) (by assumption) (by assumption) (by assumption)) rfl; apply gd_d; exact w_call rfl rfl (fun w _ => r_sign_ok w _) rfl; apply gd_d; exact w_load_boxN rfl rfl rfl (.there (.there (.there .here))) rfl; apply gd_d; exact w_load_boxN rfl rfl rfl (.there (.there .here)) rfl; apply gd_d; exact w_load_boxN rfl rfl rfl .here rfl; apply gd_d; exact w_call rfl rfl (fun w _ => r_cross_ok w _ _ _ _ _ _ (by assumption) (by assumption) (by assumption) (by assumption) (by assumption) (by assumption)) rfl; apply gd_d; exact w_call rfl rfl (fun w _ => r_sign_ok w _) rfl; apply gd_d; exact det_ar rfl rfl rfl rfl rfl (by omega); apply gd_d; exact det_cmp rfl rfl rfl rfl rfl; apply gd_d; exact det_m rfl rfl (by conv => (lhs; whnf)); refine gd_guard_dec rfl rfl (fun _ => ?_) (fun _ => ?_); apply gd_d; exact w_load_boxN rfl rfl rfl (.there .here) rfl; apply gd_d; exact w_load_boxN rfl rfl rfl .here rfl; apply gd_d; exact w_load_boxN rfl rfl rfl (.there (.there (.there .here))) rfl; apply gd_d; exact w_call rfl rfl (fun w _ => r_cross_ok w _ _ _ _ _ _ (by assumption) (by assumption) (by assumption) (by assumption) (by assumption) (by assumption)) rfl; apply gd_d; exact w_call rfl rfl (fun w _ => r_sign_ok w _) rfl; apply gd_d; exact w_load_boxN rfl rfl rfl (.there .here) rfl; apply gd_d; exact w_load_boxN rfl rfl rfl .here rfl; apply gd_d; exact w_load_boxN rfl rfl rfl (.there (.there .here)) rfl; apply gd_d; exact w_call rfl rfl (fun w _ => r_cross_ok w _ _ _ _ _ _ (by assumption) (by assumption) (by assumption) (by assumption) (by assumption) (by assumption)) rfl; apply gd_d; exact w_call rfl rfl (fun w _ => r_sign_ok w _) rfl; apply gd_d; exact det_ar rfl rfl rfl rfl rfl (by omega); apply gd_d; exact det_cmp rfl rfl rfl rfl rfl; apply gd_d; exact det_pick_t (v := .bool _) rfl rfl rfl rfl; refine gd_nil ?_; refine gM rfl rfl (by conv => (lhs; whnf)) ?_; refine gO ?_; refine gc_ret ?_; rotate_left; apply gd_d; exact det_not rfl; apply gd_d; exact det_not rfl; apply gd_d; exact det_not rfl; apply gd_d; exact det_not rfl; apply gd_d; exact det_not rfl; apply gd_d; exact det_not rfl; apply gd_d; exact det_not rfl; apply gd_d; exact det_not rfl; apply gd_d; exact det_not rfl; apply gd_d; exact det_not rfl; apply gd_d; exact det_not rfl; apply gd_d; exact det_not rfl; apply gd_d; exact det_pick_f (v := .bool _) rfl rfl rfl rfl; refine gd_nil ?_; refine gM rfl rfl (by conv => (lhs; whnf)) ?_; refine gO ?_; refine gc_ret ?_; rotate_left)
  all_goals (refine gx_ret1 (v := .bool _) rfl rfl (fun _ _ => ?_); simp [meetB, partB, *])

theorem r_within_ok (w : World) (x y : Int) : Ok Tryz.prog 166 [.agg #[.int .i64 x, .int .i64 y], .int .i64 1048576].toArray w fun r _ => r = .bool (!outB x y) := by
  refine ok_enter Tryz.func166 rfl Tryz.ntmps166 rfl ?_
  focus (refine gc_seq ?_; refine gc_region ?_; refine gw_boxd (v := .agg _) rfl rfl (fun _ => ?_); refine gM rfl rfl (by conv => (lhs; whnf)) ?_; refine gN ?_; refine gF rfl rfl rfl ?_; apply gw_d; exact w_load_box rfl rfl rfl .here rfl; refine gM rfl rfl (by conv => (lhs; whnf)) ?_; apply gw_d; exact det_neg (j := -1048576) rfl rfl rfl rfl; refine gC rfl rfl rfl rfl rfl ?_; refine gM rfl rfl (by conv => (lhs; whnf)) ?_; refine gw_guard_dec rfl rfl (fun _ => ?_) (fun _ => ?_); refine gF rfl rfl rfl ?_; apply gw_d; exact w_load_box rfl rfl rfl .here rfl; refine gM rfl rfl (by conv => (lhs; whnf)) ?_; refine gC rfl rfl rfl rfl rfl ?_; apply gw_d; exact det_pick_t (v := .bool _) rfl rfl rfl rfl; refine gM rfl rfl (by conv => (lhs; whnf)) ?_; refine gw_guard_dec rfl rfl (fun _ => ?_) (fun _ => ?_); refine gF rfl rfl rfl ?_; apply gw_d; exact w_load_box rfl rfl rfl .here rfl; refine gM rfl rfl (by conv => (lhs; whnf)) ?_; apply gw_d; exact det_neg (j := -1048576) rfl rfl rfl rfl; refine gC rfl rfl rfl rfl rfl ?_; apply gw_d; exact det_pick_t (v := .bool _) rfl rfl rfl rfl; refine gM rfl rfl (by conv => (lhs; whnf)) ?_; refine gw_guard_dec rfl rfl (fun _ => ?_) (fun _ => ?_); refine gF rfl rfl rfl ?_; apply gw_d; exact w_load_box rfl rfl rfl .here rfl; refine gM rfl rfl (by conv => (lhs; whnf)) ?_; refine gC rfl rfl rfl rfl rfl ?_; apply gw_d; exact det_pick_t (v := .bool _) rfl rfl rfl rfl; refine gM rfl rfl (by conv => (lhs; whnf)) ?_; refine gO ?_; refine gc_ret ?_; rotate_left; refine gU rfl ?_; refine gU rfl ?_; refine gU rfl ?_; refine gU rfl ?_; apply gw_d; exact det_pick_f (v := .bool _) rfl rfl rfl rfl; refine gM rfl rfl (by conv => (lhs; whnf)) ?_; refine gO ?_; refine gc_ret ?_; rotate_left; refine gU rfl ?_; refine gU rfl ?_; refine gU rfl ?_; refine gU rfl ?_; refine gU rfl ?_; apply gw_d; exact det_pick_f (v := .bool _) rfl rfl rfl rfl; refine gM rfl rfl (by conv => (lhs; whnf)) ?_; refine gU rfl ?_; refine gU rfl ?_; refine gU rfl ?_; refine gU rfl ?_; apply gw_d; exact det_pick_f (v := .bool _) rfl rfl rfl rfl; refine gM rfl rfl (by conv => (lhs; whnf)) ?_; refine gO ?_; refine gc_ret ?_; rotate_left; refine gU rfl ?_; refine gU rfl ?_; refine gU rfl ?_; refine gU rfl ?_; apply gw_d; exact det_pick_f (v := .bool _) rfl rfl rfl rfl; refine gM rfl rfl (by conv => (lhs; whnf)) ?_; refine gU rfl ?_; refine gU rfl ?_; refine gU rfl ?_; refine gU rfl ?_; refine gU rfl ?_; apply gw_d; exact det_pick_f (v := .bool _) rfl rfl rfl rfl; refine gM rfl rfl (by conv => (lhs; whnf)) ?_; refine gU rfl ?_; refine gU rfl ?_; refine gU rfl ?_; refine gU rfl ?_; apply gw_d; exact det_pick_f (v := .bool _) rfl rfl rfl rfl; refine gM rfl rfl (by conv => (lhs; whnf)) ?_; refine gO ?_; refine gc_ret ?_; rotate_left)
  all_goals
    refine gx_ret1 (v := .bool _) rfl rfl (fun _ _ => ?_)
    congr 1
    unfold outB
    rw [Bool.eq_iff_iff]
    simp [*]
    try omega
end Go.Proofs.YtckhibfbdnoigaaGreat

/- Contracts: simple polygons by the chapter's own rule (reference 11). -/
namespace Go.Proofs.YtckhibfbdnoigaaGreat
open Go.RowKit
set_option maxRecDepth 100000

theorem rbad_range {l : List (Int × Int)} {i : Nat} (hi : i < l.length) (h : rBadAt l i = true) : rSimpleB l = false := by
  unfold rSimpleB
  rw [range_any_no hi h]
  rfl

set_option maxHeartbeats 4000000 in
theorem r_simple_ok (w : World) (v : Value) (l : List (Int × Int)) (hl : Sl rSpot w w.heap.size v l) (hlen : 3 ≤ l.length) (h40 : l.length ≤ 40) (hout : l.any outP = false) : Ok Tryz.prog 167 [v].toArray w fun r _ => r = .bool (rSimpleB l) := by
  obtain ⟨ad, c, rfl, hc, hm, hb, hcell⟩ := hl.spot' (by omega)
  refine ok_enter Tryz.func167 rfl Tryz.ntmps167 rfl ?_
  focus (refine gc_seq ?_; refine gc_region ?_; refine gM rfl rfl (by conv => (lhs; whnf)) ?_; refine gN ?_; refine gM rfl rfl (by conv => (lhs; whnf)) ?_; refine gL rfl rfl rfl ?_; refine gM rfl rfl (by conv => (lhs; whnf)) ?_; refine gO ?_; refine gc_seq ?_; refine gc_seq ?_; refine gc_region ?_; refine gM rfl rfl (by conv => (lhs; whnf)) ?_; refine gO ?_; refine gc_block ?_)
  refine gc_loop (σ := Nat) [11, 12, 13, 16, 17, 18, 19, 20, 21, 22, 23, 24, 25, 26, 5, 6, 27, 28, 29, 30, 31, 32, 33, 7, 34, 35, 36, 37, 38, 39, 40, 41, 42, 43, 44, 45, 46, 47, 48, 2, 49, 50, 8, 51, 52, 53, 56, 57, 58, 59, 60, 61, 62, 63, 64, 65, 66, 67, 68, 69, 70, 71, 72, 73, 74, 75, 76, 77, 54, 55, 14, 15, 4] (fun k => [(4, .int .i64 k)]) (fun _ => []) (fun k => k ≤ l.length ∧ (List.range k).any (rBadAt l) = false) (fun k => l.length - k) 0 ⟨Nat.zero_le _, rfl⟩ ⟨rfl, trivial⟩ .nil ?_
  rintro i base ⟨hi, hI⟩
  focus (refine gc_seq ?_; refine gc_seq ?_; refine gc_region ?_; refine gM rfl rfl (by conv => (lhs; whnf)) ?_; refine gM rfl rfl (by conv => (lhs; whnf)) ?_; refine gC rfl rfl rfl rfl rfl ?_; refine gO ?_)
  refine gc_if_dec rfl (fun h => ?_) (fun h => ?_)
  · have hlt : i < l.length := by omega
    have hp1 : (i + 1) % l.length < l.length := Nat.mod_lt _ (by omega)
    have hp2 : (i + 2) % l.length < l.length := Nat.mod_lt _ (by omega)
    have hce0 := hcell i hlt
    have hce1 := hcell _ hp1
    have hce2 := hcell _ hp2
    obtain ⟨b1, b2⟩ := bd_of hout hlt
    obtain ⟨b3, b4⟩ := bd_of hout hp1
    obtain ⟨b5, b6⟩ := bd_of hout hp2
    focus (refine gc_skip ?_; refine gx_next ?_; refine gc_seq ?_; refine gc_block ?_; refine gc_seq ?_)
    refine gc_blockJ (P := Tryz.prog) Nat 14 (fun i => ([[], [], [0, 1], [0, 1, 2], [], [], [5], [], [5, 6, 7], [4, 5, 6, 7, 8], [4, 5, 6, 7, 8, 9], [], [], [0, 1, 2, 3, 11, 12]] : List (List Nat)).getD i []) (fun i' γ => match i' with
      | 0 => .slice (some ad) l.length c
      | 1 => .int .i64 i
      | 2 => .pointer (some (ad.add (i * 2)))
      | 3 => .agg #[.int .i64 (gS l i).1, .int .i64 (gS l i).2]
      | 4 => .slice (some ad) l.length c
      | 5 => .int .i64 i
      | 6 => .int .i64 ((i : Int) + 1)
      | 7 => .int .i64 l.length
      | 8 => .int .i64 (((i + 1) % l.length : Nat) : Int)
      | 9 => .pointer (some (ad.add (((i + 1) % l.length) * 2)))
      | 10 => .agg #[.int .i64 (gS l ((i + 1) % l.length)).1, .int .i64 (gS l ((i + 1) % l.length)).2]
      | 11 => .pointer (some ⟨γ 11, 0, none⟩)
      | 12 => .pointer (some ⟨γ 12, 0, none⟩)
      | _ => undef) (fun ls β w' => (ls 13 = true → ls 11 = true) ∧ St w ((if ls 12 = true then [Box (β 12) 130 #[.int .i64 0, .int .i64 0]] else []) ++ ((if ls 11 = true then [Box (β 11) 130 (if ls 13 = true then #[.int .i64 (gS l i).1, .int .i64 (gS l i).2] else #[.int .i64 0, .int .i64 0])] else []) ++ [])) w') rfl (by kernel_rfl) (fun w' s => ⟨fun h => (by cases h), by simp only [Bool.false_eq_true, if_false, List.append_nil]; exact s⟩) ?_ ?_
    · intro i' o ls β w' hi' hik hls hpl hJ2
      have hS0 : St w [] w' := ⟨hJ2.2.below, trivial⟩
      obtain rfl | rfl | rfl | rfl | rfl | rfl | rfl | rfl | rfl | rfl | rfl | rfl | rfl | rfl : i' = 0 ∨ i' = 1 ∨ i' = 2 ∨ i' = 3 ∨ i' = 4 ∨ i' = 5 ∨ i' = 6 ∨ i' = 7 ∨ i' = 8 ∨ i' = 9 ∨ i' = 10 ∨ i' = 11 ∨ i' = 12 ∨ i' = 13 := by omega
      · cases hi'
        exact detG (det_m (v := .slice (some ad) l.length c) rfl rfl rfl) rfl hS0 (fun w2 hx => ⟨default, rfl, hJ2.1, St.ext hJ2.2 hx⟩)
      · cases hi'
        exact detG (det_m (v := .int .i64 (i : Int)) rfl rfl rfl) rfl hS0 (fun w2 hx => ⟨default, rfl, hJ2.1, St.ext hJ2.2 hx⟩)
      · cases hi'
        exact detG (w_index (m := i) rfl rfl rfl rfl rfl hlt) rfl hS0 (fun w2 hx => ⟨default, rfl, hJ2.1, St.ext hJ2.2 hx⟩)
      · cases hi'
        exact detG (w_load_elem (cs := [.int .i64 (gS l i).1, .int .i64 (gS l i).2]) rfl rfl rfl hb hce0 rfl) rfl hS0 (fun w2 hx => ⟨default, rfl, hJ2.1, St.ext hJ2.2 hx⟩)
      · cases hi'
        exact detG (det_m (v := .slice (some ad) l.length c) rfl rfl rfl) rfl hS0 (fun w2 hx => ⟨default, rfl, hJ2.1, St.ext hJ2.2 hx⟩)
      · cases hi'
        exact detG (det_m (v := .int .i64 (i : Int)) rfl rfl rfl) rfl hS0 (fun w2 hx => ⟨default, rfl, hJ2.1, St.ext hJ2.2 hx⟩)
      · cases hi'
        exact detG (det_ar (r := (i : Int) + 1) rfl rfl rfl rfl rfl (by omega)) rfl hS0 (fun w2 hx => ⟨default, rfl, hJ2.1, St.ext hJ2.2 hx⟩)
      · cases hi'
        exact detG (det_m (v := .int .i64 (l.length : Int)) rfl rfl rfl) rfl hS0 (fun w2 hx => ⟨default, rfl, hJ2.1, St.ext hJ2.2 hx⟩)
      · cases hi'
        exact detG (c := .int .i64 (((i + 1) % l.length : Nat) : Int)) (det_eq (det_rem (i := (i : Int) + 1) (j := (l.length : Int)) rfl rfl rfl rfl (by omega) (by omega)) (congrArg (Value.int .i64) (by simp))) rfl hS0 (fun w2 hx => ⟨default, rfl, hJ2.1, St.ext hJ2.2 hx⟩)
      · cases hi'
        exact detG (w_index (m := (i + 1) % l.length) rfl rfl rfl rfl rfl hp1) rfl hS0 (fun w2 hx => ⟨default, rfl, hJ2.1, St.ext hJ2.2 hx⟩)
      · cases hi'
        exact detG (w_load_elem (cs := [.int .i64 (gS l ((i + 1) % l.length)).1, .int .i64 (gS l ((i + 1) % l.length)).2]) rfl rfl rfl hb hce1 rfl) rfl hS0 (fun w2 hx => ⟨default, rfl, hJ2.1, St.ext hJ2.2 hx⟩)
      · cases hi'
        obtain ⟨hz, hS⟩ := hJ2
        have h13 : ls 13 = false := by
          cases h : ls 13 with
          | false => rfl
          | true => have := hz h; rw [hls] at this; cases this
        rw [hls] at hS
        refine ⟨rfl, (stepG_alloc (z := .agg #[.int .i64 0, .int .i64 0]) hS).mono fun u w2 hu => ?_⟩
        obtain ⟨b, hu, s2⟩ := hu
        refine ⟨b, hu, fun _ => rfl, ?_⟩
        show St w ((if ls 12 = true then [Box (β 12) 130 #[.int .i64 0, .int .i64 0]] else []) ++ ([Box b 130 (if ls 13 = true then #[.int .i64 (gS l i).1, .int .i64 (gS l i).2] else #[.int .i64 0, .int .i64 0])] ++ [])) w2
        rw [h13]
        cases h12 : ls 12 with
        | false => rw [h12] at s2; exact s2
        | true => rw [h12] at s2; exact St.sub (.cons (.there .here) (.cons .here .nil)) s2
      · cases hi'
        obtain ⟨hz, hS⟩ := hJ2
        rw [hls] at hS
        refine ⟨rfl, (stepG_alloc (z := .agg #[.int .i64 0, .int .i64 0]) hS).mono fun u w2 hu => ?_⟩
        obtain ⟨b, hu, s2⟩ := hu
        exact ⟨b, hu, hz, s2⟩
      · cases hi'
        obtain ⟨hz, hS⟩ := hJ2
        have h11 : ls 11 = true := hpl 11 (by decide)
        rw [hls, h11] at hS
        cases h12 : ls 12 with
        | false =>
          rw [h12] at hS
          refine ⟨rfl, (stepG_store (b := β 11) (cs := #[.int .i64 0, .int .i64 0]) (vs := #[.int .i64 (gS l i).1, .int .i64 (gS l i).2]) rfl rfl rfl rfl .here rfl hS).mono fun u w2 hu => ?_⟩
          refine ⟨default, hu.1, fun _ => h11, ?_⟩
          show St w ((if ls 12 = true then [Box (β 12) 130 #[.int .i64 0, .int .i64 0]] else []) ++ ((if ls 11 = true then [Box (β 11) 130 #[.int .i64 (gS l i).1, .int .i64 (gS l i).2]] else []) ++ [])) w2
          rw [h12, h11]
          exact hu.2
        | true =>
          rw [h12] at hS
          refine ⟨rfl, (stepG_store (b := β 11) (cs := #[.int .i64 0, .int .i64 0]) (vs := #[.int .i64 (gS l i).1, .int .i64 (gS l i).2]) rfl rfl rfl rfl (.there .here) rfl hS).mono fun u w2 hu => ?_⟩
          refine ⟨default, hu.1, fun _ => h11, ?_⟩
          show St w ((if ls 12 = true then [Box (β 12) 130 #[.int .i64 0, .int .i64 0]] else []) ++ ((if ls 11 = true then [Box (β 11) 130 #[.int .i64 (gS l i).1, .int .i64 (gS l i).2]] else []) ++ [])) w2
          rw [h12, h11]
          exact St.sub (.cons (.there .here) (.cons .here .nil)) hu.2
    · intro ls β w' hall2 hJ2
      obtain ⟨_, hS⟩ := hJ2
      rw [hall2 11 (by decide), hall2 12 (by decide), hall2 13 (by decide)] at hS
      have hJ3 : St w [Box (β 12) 130 #[.int .i64 0, .int .i64 0], Box (β 11) 130 #[.int .i64 (gS l i).1, .int .i64 (gS l i).2]] w' := hS
      refine GW.h (P := Tryz.prog) ?_ w' hJ3
      refine w_store_all (b := β 12) (cs := #[.int .i64 0, .int .i64 0]) (vs := #[.int .i64 (gS l ((i + 1) % l.length)).1, .int .i64 (gS l ((i + 1) % l.length)).2]) rfl rfl rfl rfl rfl .here rfl ?_
      focus (refine gN ?_; refine gM rfl rfl (by conv => (lhs; whnf)) ?_; refine gM rfl rfl (by conv => (lhs; whnf)) ?_; apply gw_d; exact det_ar rfl rfl rfl rfl rfl (by omega); refine gM rfl rfl (by conv => (lhs; whnf)) ?_; apply gw_d; exact det_rem rfl rfl rfl rfl (by omega) (by omega); apply gw_d; exact w_index rfl rfl rfl rfl (by with_reducible exact castN _ _) (by omega); apply gw_d; exact w_load_elem rfl rfl rfl (by assumption) (by assumption) (by rfl); refine w_alloc rfl (fun _ => ?_); refine w_store_all rfl rfl rfl rfl rfl .here rfl ?_; refine gO ?_; refine gc_seq ?_; refine gc_seq ?_; refine gc_region ?_; apply gw_d; exact w_load_boxN rfl rfl rfl (.there (.there .here)) rfl; apply gw_d; exact w_load_boxN rfl rfl rfl (.there .here) rfl; apply gw_d; exact w_eq2 rfl rfl rfl rfl; refine gM rfl rfl (by conv => (lhs; whnf)) ?_; refine gw_guard_dec rfl rfl (fun _ => ?_) (fun _ => ?_); refine gU rfl ?_; refine gU rfl ?_; refine gU rfl ?_; refine gU rfl ?_; apply gw_d; exact det_pick_t (v := .bool _) rfl rfl rfl rfl; refine gM rfl rfl (by conv => (lhs; whnf)) ?_; refine gU rfl ?_; refine gU rfl ?_; refine gU rfl ?_; refine gU rfl ?_; apply gw_d; exact det_pick_t (v := .bool _) rfl rfl rfl rfl; refine gO ?_; refine gc_if_true rfl ?_; refine gc_seq ?_; refine gc_region ?_; refine gM rfl rfl (by conv => (lhs; whnf)) ?_; refine gO ?_; refine gc_ret ?_; refine gx_then_ret ?_; refine gx_block_ret ?_; refine gx_then_ret ?_; refine gx_then_ret ?_; refine gx_block_ret ?_; refine gx_then_ret ?_; rotate_left; apply gw_d; exact w_load_boxN rfl rfl rfl (.there (.there .here)) rfl; apply gw_d; exact w_load_boxN rfl rfl rfl (.there .here) rfl; apply gw_d; exact w_load_boxN rfl rfl rfl .here rfl; apply gw_d; exact w_call rfl rfl (fun w _ => r_on_ok w _ _ _ _ _ _ (by assumption) (by assumption) (by assumption) (by assumption) (by assumption) (by assumption)) rfl; apply gw_d; exact det_pick_f (v := .bool _) rfl rfl rfl rfl; refine gM rfl rfl (by conv => (lhs; whnf)) ?_; refine gw_guard rfl rfl (fun _ => ?_) (fun _ => ?_); refine gU rfl ?_; refine gU rfl ?_; refine gU rfl ?_; refine gU rfl ?_; apply gw_d; exact det_pick_t (v := .bool _) rfl rfl rfl rfl; refine gO ?_; refine gc_if_true rfl ?_; refine gc_seq ?_; refine gc_region ?_; refine gM rfl rfl (by conv => (lhs; whnf)) ?_; refine gO ?_; refine gc_ret ?_; refine gx_then_ret ?_; refine gx_block_ret ?_; refine gx_then_ret ?_; refine gx_then_ret ?_; refine gx_block_ret ?_; refine gx_then_ret ?_; rotate_left; apply gw_d; exact w_load_boxN rfl rfl rfl (.there .here) rfl; apply gw_d; exact w_load_boxN rfl rfl rfl .here rfl; apply gw_d; exact w_load_boxN rfl rfl rfl (.there (.there .here)) rfl; apply gw_d; exact w_call rfl rfl (fun w _ => r_on_ok w _ _ _ _ _ _ (by assumption) (by assumption) (by assumption) (by assumption) (by assumption) (by assumption)) rfl; apply gw_d; exact det_pick_f (v := .bool _) rfl rfl rfl rfl; refine gO ?_; refine gc_if rfl (fun _ => ?_) (fun _ => ?_); refine gc_seq ?_; refine gc_region ?_; refine gM rfl rfl (by conv => (lhs; whnf)) ?_; refine gO ?_; refine gc_ret ?_; refine gx_then_ret ?_; refine gx_block_ret ?_; refine gx_then_ret ?_; refine gx_then_ret ?_; refine gx_block_ret ?_; refine gx_then_ret ?_; rotate_left; refine gc_skip ?_; refine gx_next ?_; refine gc_seq ?_; refine gc_region ?_; refine gM rfl rfl (by conv => (lhs; whnf)) ?_; apply gw_d; exact det_ar rfl rfl rfl rfl rfl (by omega); refine gM rfl rfl (by conv => (lhs; whnf)) ?_; refine gO ?_; refine gc_block ?_; rotate_left)
      · refine gx_ret1 (v := .bool _) rfl rfl (fun _ _ => ?_)
        have he : gS l i = gS l ((i + 1) % l.length) := ‹_›
        rw [rbad_range hlt (by simp [rBadAt, he])]
      · refine gx_ret1 (v := .bool _) rfl rfl (fun _ _ => ?_)
        have he : onB (gS l i).1 (gS l i).2 (gS l ((i + 1) % l.length)).1 (gS l ((i + 1) % l.length)).2 (gS l ((i + 2) % l.length)).1 (gS l ((i + 2) % l.length)).2 = true := ‹_›
        rw [rbad_range hlt (by simp [rBadAt, he])]
      · refine gx_ret1 (v := .bool _) rfl rfl (fun _ _ => ?_)
        have he : onB (gS l ((i + 1) % l.length)).1 (gS l ((i + 1) % l.length)).2 (gS l ((i + 2) % l.length)).1 (gS l ((i + 2) % l.length)).2 (gS l i).1 (gS l i).2 = true := ‹_›
        rw [rbad_range hlt (by simp [rBadAt, he])]
      · have e1 : ¬ gS l i = gS l ((i + 1) % l.length) := ‹_›
        have e2 : onB (gS l i).1 (gS l i).2 (gS l ((i + 1) % l.length)).1 (gS l ((i + 1) % l.length)).2 (gS l ((i + 2) % l.length)).1 (gS l ((i + 2) % l.length)).2 = false := ‹_›
        have e3 : onB (gS l ((i + 1) % l.length)).1 (gS l ((i + 1) % l.length)).2 (gS l ((i + 2) % l.length)).1 (gS l ((i + 2) % l.length)).2 (gS l i).1 (gS l i).2 = false := ‹_›
        refine gc_loopK (σ := Nat) [51, 52, 53, 56, 57, 58, 59, 60, 61, 62, 63, 64, 65, 66, 67, 68, 69, 70, 71, 72, 73, 74, 75, 76, 77, 2, 54, 55, 8] (fun k => [(8, .int .i64 k)]) (fun k => i + 2 ≤ k ∧ k ≤ max l.length (i + 2) ∧ meetsB l i k = false) (fun k => l.length - k) (i + 2) ⟨Nat.le_refl _, by omega, meets_start l i⟩ ⟨rfl, trivial⟩ ?_
        rintro k base3 ⟨hk1, hk2, hM⟩
        focus (refine gc_seq ?_; refine gc_seq ?_; refine gc_region ?_; refine gM rfl rfl (by conv => (lhs; whnf)) ?_; refine gM rfl rfl (by conv => (lhs; whnf)) ?_; refine gC rfl rfl rfl rfl rfl ?_; refine gO ?_)
        refine gc_if_dec rfl (fun h3 => ?_) (fun h3 => ?_)
        · have hk : k < l.length := by omega
          have hq1 : (k + 1) % l.length < l.length := Nat.mod_lt _ (by omega)
          have hce3 := hcell k hk
          have hce4 := hcell _ hq1
          obtain ⟨b7, b8⟩ := bd_of hout hk
          obtain ⟨b9, b10⟩ := bd_of hout hq1
          focus (refine gc_skip ?_; refine gx_next ?_; refine gc_seq ?_; refine gc_block ?_; refine gc_seq ?_)
          refine gc_draw 22 (by kernel_rfl) (by kernel_rfl) ?_
          focus (apply gd_d; exact det_m rfl rfl (by conv => (lhs; whnf)); apply gd_d; exact det_ar rfl rfl rfl rfl rfl (by omega); apply gd_d; exact det_m rfl rfl (by conv => (lhs; whnf)); apply gd_d; exact det_rem rfl rfl rfl rfl (by omega) (by omega); apply gd_d; exact det_m rfl rfl (by conv => (lhs; whnf)); apply gd_d; exact det_cmp rfl rfl rfl rfl rfl; apply gd_d; exact det_m rfl rfl (by conv => (lhs; whnf)); refine gd_guard_dec rfl rfl (fun _ => ?_) (fun _ => ?_); apply gd_d; exact w_load_boxN rfl rfl rfl (.there (.there .here)) rfl; apply gd_d; exact w_load_boxN rfl rfl rfl (.there .here) rfl; apply gd_d; exact det_m rfl rfl (by conv => (lhs; whnf)); apply gd_d; exact det_m rfl rfl (by conv => (lhs; whnf)); apply gd_d; exact w_index rfl rfl rfl rfl (by with_reducible exact rfl) (by omega); apply gd_d; exact w_load_elem rfl rfl rfl (by assumption) (by assumption) (by rfl); apply gd_d; exact det_m rfl rfl (by conv => (lhs; whnf)); apply gd_d; exact det_m rfl rfl (by conv => (lhs; whnf)); apply gd_d; exact det_ar rfl rfl rfl rfl rfl (by omega); apply gd_d; exact det_m rfl rfl (by conv => (lhs; whnf)); apply gd_d; exact det_rem rfl rfl rfl rfl (by omega) (by omega); apply gd_d; exact w_index rfl rfl rfl rfl (by with_reducible exact castM _ _) (by omega); apply gd_d; exact w_load_elem rfl rfl rfl (by assumption) (by assumption) (by rfl); apply gd_d; exact w_call rfl rfl (fun w s => r_meet_ok w _ _ _ _ _ _ _ _ b1 b2 b3 b4 b7 b8 b9 b10) rfl; apply gd_d; exact det_pick_t (v := .bool _) rfl rfl rfl rfl; refine gd_nil ?_; refine gO ?_; refine gc_if rfl (fun _ => ?_) (fun _ => ?_); refine gc_seq ?_; refine gc_region ?_; refine gM rfl rfl (by conv => (lhs; whnf)) ?_; refine gO ?_; refine gc_ret ?_; refine gx_block_ret ?_; refine gx_then_ret ?_; refine gx_then_ret ?_; refine gx_block_ret ?_; refine gx_block_ret ?_; refine gx_then_ret ?_; refine gx_then_ret ?_; refine gx_block_ret ?_; refine gx_then_ret ?_; rotate_left; refine gc_skip ?_; refine gx_block ?_; refine gx_next ?_; refine gc_region ?_; refine gM rfl rfl (by conv => (lhs; whnf)) ?_; apply gw_d; exact det_ar rfl rfl rfl rfl rfl (by omega); refine gM rfl rfl (by conv => (lhs; whnf)) ?_; refine gw_nil ?_; rotate_left; apply gd_d; exact det_not rfl; apply gd_d; exact det_not rfl; apply gd_d; exact det_not rfl; apply gd_d; exact det_not rfl; apply gd_d; exact det_not rfl; apply gd_d; exact det_not rfl; apply gd_d; exact det_not rfl; apply gd_d; exact det_not rfl; apply gd_d; exact det_not rfl; apply gd_d; exact det_not rfl; apply gd_d; exact det_not rfl; apply gd_d; exact det_not rfl; apply gd_d; exact det_not rfl; apply gd_d; exact det_not rfl; apply gd_d; exact det_pick_f (v := .bool _) rfl rfl rfl rfl; refine gd_nil ?_; refine gO ?_; refine gc_if_false rfl ?_; refine gc_skip ?_; refine gx_block ?_; refine gx_next ?_; refine gc_region ?_; refine gM rfl rfl (by conv => (lhs; whnf)) ?_; apply gw_d; exact det_ar rfl rfl rfl rfl rfl (by omega); refine gM rfl rfl (by conv => (lhs; whnf)) ?_; refine gw_nil ?_; rotate_left)
          · refine gx_ret1 (v := .bool _) rfl rfl (fun _ _ => ?_)
            have hm1 : meetAt l i k = true := ‹_›
            have hne : (k + 1) % l.length ≠ i := fun h4 => ‹¬ ((k : Int) + 1) % (l.length : Int) = (i : Int)› (by have := congrArg (fun n : Nat => (n : Int)) h4; simpa using this)
            have hm2 : meetsB l i l.length = true := range_any_no hk (by simp [hm1, hk1, hne])
            rw [rbad_range hlt (by simp [rBadAt, hm2])]
          · have hm1 : meetAt l i k = false := ‹_›
            exact gx_round (k + 1) ⟨by omega, by omega, range_any_snoc hM (by simp [hm1])⟩ (by omega) (by repeat (first | exact Keeps.refl | refine Keeps.upd rfl ?_ | refine Keeps.sets rfl ?_ | refine Keeps.havoc rfl ?_)) ⟨rfl, trivial⟩ (Sub.all _)
          · have hne : (k + 1) % l.length = i := by
              have h4 := Classical.not_not.1 ‹¬ ¬ ((k : Int) + 1) % (l.length : Int) = (i : Int)›
              exact Int.ofNat.inj (by simpa using h4)
            exact gx_round (k + 1) ⟨by omega, by omega, range_any_snoc hM (by simp [hne])⟩ (by omega) (by repeat (first | exact Keeps.refl | refine Keeps.upd rfl ?_ | refine Keeps.sets rfl ?_ | refine Keeps.havoc rfl ?_)) ⟨rfl, trivial⟩ (Sub.all _)
        · have he : meetsB l i l.length = false := by
            have : l.length ≤ k := by omega
            by_cases hkl : k = l.length
            · rw [← hkl]; exact hM
            · refine Bool.eq_false_iff.2 fun h => ?_
              unfold meetsB at h
              obtain ⟨m, hm1, hm2⟩ := List.any_eq_true.1 h
              rw [List.mem_range] at hm1
              simp only [Bool.and_eq_true, decide_eq_true_eq] at hm2
              omega
          focus (refine gc_exit ?_; refine gx_then_exit ?_; refine gx_then_exit ?_; refine gx_block_exit ?_; refine gx_block ?_; refine gx_next ?_; refine gc_region ?_; refine gM rfl rfl (by conv => (lhs; whnf)) ?_; apply gw_d; exact det_ar rfl rfl rfl rfl rfl (by omega); refine gM rfl rfl (by conv => (lhs; whnf)) ?_; refine gw_nil ?_)
          exact gx_round (i + 1) ⟨by omega, range_any_snoc hI (by simp only [rBadAt, e1, e2, e3, he, decide_false, Bool.or_false])⟩ (by omega) (by repeat (first | exact Keeps.refl | refine Keeps.upd rfl ?_ | refine Keeps.sets rfl ?_ | refine Keeps.havoc rfl ?_)) ⟨rfl, trivial⟩ .nil
  · focus (refine gc_exit ?_; refine gx_then_exit ?_; refine gx_then_exit ?_; refine gx_block_exit ?_; refine gx_next ?_; refine gc_seq ?_; refine gc_region ?_; refine gM rfl rfl (by conv => (lhs; whnf)) ?_; refine gO ?_; refine gc_ret ?_)
    refine gx_ret1 (v := .bool _) rfl rfl (fun _ _ => ?_)
    obtain rfl : i = l.length := by omega
    simp [rSimpleB, hI]

theorem r_polygon_ok (w : World) (v : Value) (l : List (Int × Int)) (hl : Sl rSpot w w.heap.size v l) : Ok Tryz.prog 138 [v].toArray w fun r _ => r = .int .i64 (polyE l) := by
  obtain ⟨A, c, rfl, hc, hm, hcell⟩ := hl.spot
  refine ok_enter Tryz.func138 rfl Tryz.ntmps138 rfl ?_
  focus (refine gc_seq ?_; refine gc_region ?_; refine gM rfl rfl (by conv => (lhs; whnf)) ?_; refine gO ?_; refine gc_seq ?_; refine gc_seq ?_; refine gc_region ?_; refine gM rfl rfl (by conv => (lhs; whnf)) ?_; refine gL rfl rfl rfl ?_; refine gC rfl rfl rfl rfl rfl ?_; refine gO ?_)
  refine gc_if_dec rfl (fun h => ?_) (fun h40 => ?_)
  · focus (refine gc_seq ?_; refine gc_region ?_; refine gM rfl rfl (by conv => (lhs; whnf)) ?_; refine gO ?_; refine gc_ret ?_; refine gx_then_ret ?_)
    refine gx_ret1 (v := .int _ _) rfl rfl (fun _ _ => ?_)
    have : 40 < l.length := by omega
    simp [polyE, this]
  focus (refine gc_skip ?_; refine gx_next ?_; refine gc_seq ?_; refine gc_seq ?_; refine gc_region ?_; refine gM rfl rfl (by conv => (lhs; whnf)) ?_; refine gL rfl rfl rfl ?_; refine gC rfl rfl rfl rfl rfl ?_; refine gO ?_)
  refine gc_if_dec rfl (fun h => ?_) (fun h3 => ?_)
  · focus (refine gc_seq ?_; refine gc_region ?_; refine gM rfl rfl (by conv => (lhs; whnf)) ?_; refine gO ?_; refine gc_ret ?_; refine gx_then_ret ?_)
    refine gx_ret1 (v := .int _ _) rfl rfl (fun _ _ => ?_)
    have h1 : ¬ 40 < l.length := by omega
    have h2 : l.length < 3 := by omega
    simp [polyE, h1, h2]
  have h1 : ¬ 40 < l.length := by omega
  have h2 : ¬ l.length < 3 := by omega
  focus (refine gc_skip ?_; refine gx_next ?_; refine gc_seq ?_; refine gc_seq ?_; refine gc_region ?_; refine gM rfl rfl (by conv => (lhs; whnf)) ?_; refine gO ?_; refine gc_block ?_)
  refine gc_loop (σ := Nat) [10, 11, 12, 13, 16, 17, 18, 19, 20, 21, 2, 14, 15, 3] (fun k => [(3, .int .i64 k)]) (fun _ => []) (fun k => k ≤ l.length ∧ (l.take k).any outP = false) (fun k => l.length - k) 0 ⟨Nat.zero_le _, rfl⟩ ⟨rfl, trivial⟩ .nil ?_
  rintro k base ⟨hk, hI⟩
  focus (refine gc_seq ?_; refine gc_seq ?_; refine gc_region ?_; refine gM rfl rfl (by conv => (lhs; whnf)) ?_; refine gM rfl rfl (by conv => (lhs; whnf)) ?_; refine gL rfl rfl rfl ?_; refine gC rfl rfl rfl rfl rfl ?_; refine gO ?_)
  refine gc_if_dec rfl (fun h => ?_) (fun h => ?_)
  · obtain ⟨ad, rfl, hb, hce, hi⟩ := hcell k (by omega)
    have hlt : k < l.length := by omega
    focus (refine gc_skip ?_; refine gx_next ?_; refine gc_seq ?_; refine gc_block ?_; refine gc_seq ?_; refine gc_region ?_; refine gM rfl rfl (by conv => (lhs; whnf)) ?_; refine gM rfl rfl (by conv => (lhs; whnf)) ?_; apply gw_d; exact w_index rfl rfl rfl rfl (by with_reducible exact rfl) (by omega); apply gw_d; exact w_load_elem rfl rfl rfl (by assumption) (by assumption) (by rfl); apply gw_d; exact w_call rfl rfl (fun w _ => r_within_ok w _ _) rfl; apply gw_d; exact det_not_ rfl rfl rfl; refine gO ?_; refine gc_if rfl (fun _ => ?_) (fun _ => ?_); refine gc_seq ?_; refine gc_region ?_; refine gM rfl rfl (by conv => (lhs; whnf)) ?_; refine gO ?_; refine gc_ret ?_; refine gx_block_ret ?_; refine gx_then_ret ?_; refine gx_then_ret ?_; refine gx_block_ret ?_; refine gx_then_ret ?_; rotate_left; refine gc_skip ?_; refine gx_block ?_; refine gx_next ?_; refine gc_region ?_; refine gM rfl rfl (by conv => (lhs; whnf)) ?_; apply gw_d; exact det_ar rfl rfl rfl rfl rfl (by omega); refine gM rfl rfl (by conv => (lhs; whnf)) ?_; refine gw_nil ?_; rotate_left)
    · refine gx_ret1 (v := .int _ _) rfl rfl (fun _ _ => ?_)
      have ho : outP l[k] = true := by
        have ho : (!(!outB l[k].1 l[k].2)) = true := ‹_›
        simpa [outP] using ho
      have hy : l.any outP = true := List.any_eq_true.2 ⟨_, List.getElem_mem hlt, ho⟩
      simp [polyE, h1, h2, hy]
    · exact gx_round (k + 1) ⟨by omega, any_snoc hlt hI (by
        have ho : (!(!outB l[k].1 l[k].2)) = false := ‹_›
        simpa [outP] using ho)⟩ (by omega) (by repeat (first | exact Keeps.refl | refine Keeps.upd rfl ?_ | refine Keeps.sets rfl ?_ | refine Keeps.havoc rfl ?_)) ⟨rfl, trivial⟩ .nil
  · rw [List.take_of_length_le (by omega)] at hI
    focus (refine gc_exit ?_; refine gx_then_exit ?_; refine gx_then_exit ?_; refine gx_block_exit ?_; refine gx_next ?_; refine gc_seq ?_; refine gc_seq ?_; refine gc_region ?_; refine gM rfl rfl (by conv => (lhs; whnf)) ?_; apply gw_d; exact w_call rfl rfl (fun w s => r_simple_ok w _ l (hl.later s) (by omega) (by omega) hI) rfl; apply gw_d; exact det_not_ rfl rfl rfl; refine gO ?_; refine gc_if rfl (fun _ => ?_) (fun _ => ?_); refine gc_seq ?_; refine gc_region ?_; refine gM rfl rfl (by conv => (lhs; whnf)) ?_; refine gO ?_; refine gc_ret ?_; refine gx_then_ret ?_; rotate_left; refine gc_skip ?_; refine gx_next ?_; refine gc_seq ?_; refine gc_region ?_; refine gM rfl rfl (by conv => (lhs; whnf)) ?_; refine gO ?_; refine gc_ret ?_; rotate_left)
    · refine gx_ret1 (v := .int _ _) rfl rfl (fun _ _ => ?_)
      have ho : rSimpleB l = false := by simpa using ‹(!rSimpleB l) = true›
      rw [simple_same (by omega)] at ho
      simp [polyE, h1, h2, hI, ho]
    · refine gx_ret1 (v := .int _ _) rfl rfl (fun _ _ => ?_)
      have ho : rSimpleB l = true := by simpa using ‹(!rSimpleB l) = false›
      rw [simple_same (by omega)] at ho
      simp [polyE, h1, h2, hI, ho]
end Go.Proofs.YtckhibfbdnoigaaGreat

/- Square roots, rounded down: plain facts. No program in sight. -/
namespace Go.Proofs.YtckhibfbdnoigaaGreat

def isq : Nat → Nat
  | 0 => 0
  | n + 1 => if (isq n + 1) * (isq n + 1) ≤ n + 1 then isq n + 1 else isq n
theorem isq_spec : ∀ n, isq n * isq n ≤ n ∧ n < (isq n + 1) * (isq n + 1)
  | 0 => by decide
  | n + 1 => by
    obtain ⟨h1, h2⟩ := isq_spec n
    have e0 : isq (n + 1) = if (isq n + 1) * (isq n + 1) ≤ n + 1 then isq n + 1 else isq n := rfl
    rw [e0]
    split
    · rename_i h
      refine ⟨h, ?_⟩
      have : (isq n + 1) * (isq n + 1) ≤ (isq n + 1 + 1) * (isq n + 1) := Nat.mul_le_mul_right _ (by omega)
      have e : (isq n + 1 + 1) * (isq n + 1 + 1) = (isq n + 1 + 1) * (isq n + 1) + (isq n + 1 + 1) := Nat.mul_succ _ _
      omega
    · rename_i h
      exact ⟨by omega, by omega⟩
theorem isq_le {n s : Nat} (h : n < (s + 1) * (s + 1)) : isq n ≤ s := by
  have h1 := (isq_spec n).1
  refine Nat.le_of_not_lt fun hc => ?_
  have := Nat.mul_le_mul (show s + 1 ≤ isq n from hc) (show s + 1 ≤ isq n from hc)
  omega
theorem le_isq {n s : Nat} (h : s * s ≤ n) : s ≤ isq n := by
  have h1 := (isq_spec n).2
  refine Nat.le_of_not_lt fun hc => ?_
  have := Nat.mul_le_mul (show isq n + 1 ≤ s from hc) (show isq n + 1 ≤ s from hc)
  omega
theorem nt_ge {n x s : Nat} (hx : 0 < x) (hs : s * s ≤ n) : s ≤ (x + n / x) / 2 := by
  suffices h : 2 * s ≤ x + n / x by omega
  by_cases h : 2 * s ≤ x
  · exact Nat.le_trans h (Nat.le_add_right _ _)
  · have hd : 2 * s - x ≤ n / x := by
      rw [Nat.le_div_iff_mul_le hx]
      refine Nat.le_trans ?_ hs
      by_cases hxs : x ≤ s
      · obtain ⟨t, rfl⟩ : ∃ t, s = x + t := ⟨s - x, by omega⟩
        rw [show 2 * (x + t) - x = x + 2 * t by omega]
        simp only [Nat.add_mul, Nat.mul_add, Nat.mul_assoc, Nat.mul_comm t x]
        omega
      · obtain ⟨t, rfl⟩ : ∃ t, x = s + t := ⟨x - s, by omega⟩
        obtain ⟨u, rfl⟩ : ∃ u, s = t + u := ⟨s - t, by omega⟩
        rw [show 2 * (t + u) - (t + u + t) = u by omega]
        simp only [Nat.add_mul, Nat.mul_add, Nat.mul_comm u t]
        omega
    omega
theorem nt_lt {n x s : Nat} (hs : n < (s + 1) * (s + 1)) (h : s < x) : (x + n / x) / 2 < x := by
  have h1 : (s + 1) * (s + 1) ≤ x * x := Nat.mul_le_mul h h
  have h2 : n / x < x := (Nat.div_lt_iff_lt_mul (by omega)).2 (by omega)
  omega
theorem nt_step {n x : Nat} (hx : 0 < x) (h : isq n ≤ x) : isq n ≤ (x + n / x) / 2 ∧ (x ≤ (x + n / x) / 2 → x = isq n) := by
  refine ⟨nt_ge hx (isq_spec n).1, fun h1 => ?_⟩
  refine Nat.le_antisymm (Nat.le_of_not_lt fun hc => ?_) h
  have := nt_lt (isq_spec n).2 hc
  omega
end Go.Proofs.YtckhibfbdnoigaaGreat

/- Contracts: lengths in bits; square roots of the program. -/
namespace Go.Proofs.YtckhibfbdnoigaaGreat
open Go.RowKit
set_option maxRecDepth 100000
set_option maxHeartbeats 4000000

def len8tab : ByteArray := ⟨#[0, 1, 2, 2, 3, 3, 3, 3, 4, 4, 4, 4, 4, 4, 4, 4, 5, 5, 5, 5, 5, 5, 5, 5, 5, 5, 5, 5, 5, 5, 5, 5, 6, 6, 6, 6, 6, 6, 6, 6, 6, 6, 6, 6, 6, 6, 6, 6, 6, 6, 6, 6, 6, 6, 6, 6, 6, 6, 6, 6, 6, 6, 6, 6, 7, 7, 7, 7, 7, 7, 7, 7, 7, 7, 7, 7, 7, 7, 7, 7, 7, 7, 7, 7, 7, 7, 7, 7, 7, 7, 7, 7, 7, 7, 7, 7, 7, 7, 7, 7, 7, 7, 7, 7, 7, 7, 7, 7, 7, 7, 7, 7, 7, 7, 7, 7, 7, 7, 7, 7, 7, 7, 7, 7, 7, 7, 7, 7, 8, 8, 8, 8, 8, 8, 8, 8, 8, 8, 8, 8, 8, 8, 8, 8, 8, 8, 8, 8, 8, 8, 8, 8, 8, 8, 8, 8, 8, 8, 8, 8, 8, 8, 8, 8, 8, 8, 8, 8, 8, 8, 8, 8, 8, 8, 8, 8, 8, 8, 8, 8, 8, 8, 8, 8, 8, 8, 8, 8, 8, 8, 8, 8, 8, 8, 8, 8, 8, 8, 8, 8, 8, 8, 8, 8, 8, 8, 8, 8, 8, 8, 8, 8, 8, 8, 8, 8, 8, 8, 8, 8, 8, 8, 8, 8, 8, 8, 8, 8, 8, 8, 8, 8, 8, 8, 8, 8, 8, 8, 8, 8, 8, 8, 8, 8, 8, 8, 8, 8, 8, 8, 8, 8, 8, 8, 8, 8]⟩
def l8 (z : Nat) : Nat := (bAt len8tab z).toNat
def l16 (z : Nat) : Nat := if 256 ≤ z then l8 (z / 256) + 8 else l8 z
def l32 (z : Nat) : Nat := if 65536 ≤ z then l16 (z / 65536) + 16 else l16 z
def l64 (z : Nat) : Nat := if 4294967296 ≤ z then l32 (z / 4294967296) + 32 else l32 z
theorem l8_all : ((List.range 256).all fun z => decide (z < 2 ^ l8 z) && decide (l8 z ≤ 8)) = true := by kernel_rfl
theorem l8_lt {z : Nat} (h : z < 256) : z < 2 ^ l8 z ∧ l8 z ≤ 8 := by
  have := List.all_eq_true.1 l8_all z (List.mem_range.2 h)
  simpa using this
theorem up_lt {z k a b : Nat} (hb : b = 2 ^ a) (h : z / b < 2 ^ k) : z < 2 ^ (k + a) := by
  have hp : 0 < b := by rw [hb]; exact Nat.two_pow_pos a
  rw [Nat.pow_add, ← hb]
  exact (Nat.div_lt_iff_lt_mul hp).1 h
theorem l16_lt {z : Nat} (h : z < 65536) : z < 2 ^ l16 z ∧ l16 z ≤ 16 := by
  unfold l16
  split
  · have := l8_lt (z := z / 256) (by omega)
    exact ⟨up_lt (by decide) this.1, by omega⟩
  · have := l8_lt (z := z) (by omega)
    exact ⟨this.1, by omega⟩
theorem l32_lt {z : Nat} (h : z < 4294967296) : z < 2 ^ l32 z ∧ l32 z ≤ 32 := by
  unfold l32
  split
  · have := l16_lt (z := z / 65536) (by omega)
    exact ⟨up_lt (by decide) this.1, by omega⟩
  · have := l16_lt (z := z) (by omega)
    exact ⟨this.1, by omega⟩
theorem l64_lt {z : Nat} (h : z < 18446744073709551616) : z < 2 ^ l64 z ∧ l64 z ≤ 64 := by
  unfold l64
  split
  · have := l32_lt (z := z / 4294967296) (by omega)
    exact ⟨up_lt (by decide) this.1, by omega⟩
  · have := l32_lt (z := z) (by omega)
    exact ⟨this.1, by omega⟩
theorem l8_val {z : Nat} : (l8 z : Int) = bAt len8tab z := by
  unfold l8
  have := (bAt_range len8tab z).1
  omega
theorem fdiv_nat (z b : Nat) : ((z : Int).fdiv (b : Int)) = ((z / b : Nat) : Int) := by
  rw [Int.fdiv_eq_ediv_of_nonneg _ (by omega)]
  rfl
theorem wrap_u8 {z : Nat} (h : z < 256) : IntKind.u8.wrap (z : Int) = z := by
  have : IntKind.u8.wrap (z : Int) = (z : Int) % 256 := rfl
  rw [this]
  omega
theorem wrap_i8 {z : Nat} : IntKind.i64.wrap (bAt len8tab z) = (l8 z : Int) := by
  have h := bAt_range len8tab z
  rw [← l8_val, IntKind.wrap_i64]
  have := l8_val (z := z)
  omega
theorem l8_le (z : Nat) : l8 z ≤ 255 := by
  have h := bAt_range len8tab z
  have := l8_val (z := z)
  omega
theorem tab_size : len8tab.size = 256 := by kernel_rfl
theorem len64_ok (w : World) (x : Nat) (hx : x < 18446744073709551616) : Ok Tryz.prog 97 [.int .u64 (x : Int)].toArray w fun r _ => r = .int .i64 (l64 x : Int) := by
  have b1 := l8_le x
  have b2 := l8_le (x / 256)
  have b3 := l8_le (x / 65536)
  have b4 := l8_le (x / 65536 / 256)
  have b5 := l8_le (x / 4294967296)
  have b6 := l8_le (x / 4294967296 / 256)
  have b7 := l8_le (x / 4294967296 / 65536)
  have b8 := l8_le (x / 4294967296 / 65536 / 256)
  refine ok_enter Tryz.func97 rfl Tryz.ntmps97 rfl ?_
  focus (refine gc_seq ?_; refine gc_region ?_; refine gM rfl rfl (by conv => (lhs; whnf)) ?_; refine gO ?_; refine gc_seq ?_; refine gc_seq ?_; refine gc_region ?_; refine gM rfl rfl (by conv => (lhs; whnf)) ?_; refine gC rfl rfl rfl rfl rfl ?_; refine gO ?_; refine gc_if_dec rfl (fun _ => ?_) (fun _ => ?_); refine gc_seq ?_; refine gc_region ?_; refine gM rfl rfl (by conv => (lhs; whnf)) ?_; apply gw_d; exact det_shr rfl rfl rfl rfl (by decide) (fdiv_nat _ 4294967296); refine gM rfl rfl (by conv => (lhs; whnf)) ?_; refine gO ?_; refine gc_region ?_; refine gM rfl rfl (by conv => (lhs; whnf)) ?_; refine gO ?_; refine gc_seq ?_; refine gc_seq ?_; refine gc_region ?_; refine gM rfl rfl (by conv => (lhs; whnf)) ?_; refine gC rfl rfl rfl rfl rfl ?_; refine gO ?_; refine gc_if_dec rfl (fun _ => ?_) (fun _ => ?_); refine gc_seq ?_; refine gc_region ?_; refine gM rfl rfl (by conv => (lhs; whnf)) ?_; apply gw_d; exact det_shr rfl rfl rfl rfl (by decide) (fdiv_nat _ 65536); refine gM rfl rfl (by conv => (lhs; whnf)) ?_; refine gO ?_; refine gc_region ?_; refine gM rfl rfl (by conv => (lhs; whnf)) ?_; apply gw_d; exact det_ar rfl rfl rfl rfl rfl (by omega); refine gM rfl rfl (by conv => (lhs; whnf)) ?_; refine gO ?_; refine gc_seq ?_; refine gc_seq ?_; refine gc_region ?_; refine gM rfl rfl (by conv => (lhs; whnf)) ?_; refine gC rfl rfl rfl rfl rfl ?_; refine gO ?_; refine gc_if_dec rfl (fun _ => ?_) (fun _ => ?_); refine gc_seq ?_; refine gc_region ?_; refine gM rfl rfl (by conv => (lhs; whnf)) ?_; apply gw_d; exact det_shr rfl rfl rfl rfl (by decide) (fdiv_nat _ 256); refine gM rfl rfl (by conv => (lhs; whnf)) ?_; refine gO ?_; refine gc_region ?_; refine gM rfl rfl (by conv => (lhs; whnf)) ?_; apply gw_d; exact det_ar rfl rfl rfl rfl rfl (by omega); refine gM rfl rfl (by conv => (lhs; whnf)) ?_; refine gN ?_; refine gM rfl rfl (by conv => (lhs; whnf)) ?_; refine gM rfl rfl (by conv => (lhs; whnf)) ?_; apply gw_d; exact det_conv rfl rfl rfl (wrap_u8 (by omega)); apply gw_d; exact w_sidx (s := len8tab) rfl rfl rfl rfl rfl (by rw [tab_size]; omega); apply gw_d; exact det_conv rfl rfl rfl wrap_i8; apply gw_d; exact det_ar rfl rfl rfl rfl rfl (by omega); refine gM rfl rfl (by conv => (lhs; whnf)) ?_; refine gO ?_; refine gc_ret ?_; rotate_left; refine gc_skip ?_; refine gx_next ?_; refine gc_seq ?_; refine gc_region ?_; refine gM rfl rfl (by conv => (lhs; whnf)) ?_; refine gM rfl rfl (by conv => (lhs; whnf)) ?_; apply gw_d; exact det_conv rfl rfl rfl (wrap_u8 (by omega)); apply gw_d; exact w_sidx (s := len8tab) rfl rfl rfl rfl rfl (by rw [tab_size]; omega); apply gw_d; exact det_conv rfl rfl rfl wrap_i8; apply gw_d; exact det_ar rfl rfl rfl rfl rfl (by omega); refine gM rfl rfl (by conv => (lhs; whnf)) ?_; refine gO ?_; refine gc_ret ?_; rotate_left; refine gc_skip ?_; refine gx_next ?_; refine gc_seq ?_; refine gc_seq ?_; refine gc_region ?_; refine gM rfl rfl (by conv => (lhs; whnf)) ?_; refine gC rfl rfl rfl rfl rfl ?_; refine gO ?_; refine gc_if_dec rfl (fun _ => ?_) (fun _ => ?_); refine gc_seq ?_; refine gc_region ?_; refine gM rfl rfl (by conv => (lhs; whnf)) ?_; apply gw_d; exact det_shr rfl rfl rfl rfl (by decide) (fdiv_nat _ 256); refine gM rfl rfl (by conv => (lhs; whnf)) ?_; refine gO ?_; refine gc_region ?_; refine gM rfl rfl (by conv => (lhs; whnf)) ?_; apply gw_d; exact det_ar rfl rfl rfl rfl rfl (by omega); refine gM rfl rfl (by conv => (lhs; whnf)) ?_; refine gN ?_; refine gM rfl rfl (by conv => (lhs; whnf)) ?_; refine gM rfl rfl (by conv => (lhs; whnf)) ?_; apply gw_d; exact det_conv rfl rfl rfl (wrap_u8 (by omega)); apply gw_d; exact w_sidx (s := len8tab) rfl rfl rfl rfl rfl (by rw [tab_size]; omega); apply gw_d; exact det_conv rfl rfl rfl wrap_i8; apply gw_d; exact det_ar rfl rfl rfl rfl rfl (by omega); refine gM rfl rfl (by conv => (lhs; whnf)) ?_; refine gO ?_; refine gc_ret ?_; rotate_left; refine gc_skip ?_; refine gx_next ?_; refine gc_seq ?_; refine gc_region ?_; refine gM rfl rfl (by conv => (lhs; whnf)) ?_; refine gM rfl rfl (by conv => (lhs; whnf)) ?_; apply gw_d; exact det_conv rfl rfl rfl (wrap_u8 (by omega)); apply gw_d; exact w_sidx (s := len8tab) rfl rfl rfl rfl rfl (by rw [tab_size]; omega); apply gw_d; exact det_conv rfl rfl rfl wrap_i8; apply gw_d; exact det_ar rfl rfl rfl rfl rfl (by omega); refine gM rfl rfl (by conv => (lhs; whnf)) ?_; refine gO ?_; refine gc_ret ?_; rotate_left; refine gc_skip ?_; refine gx_next ?_; refine gc_seq ?_; refine gc_seq ?_; refine gc_region ?_; refine gM rfl rfl (by conv => (lhs; whnf)) ?_; refine gC rfl rfl rfl rfl rfl ?_; refine gO ?_; refine gc_if_dec rfl (fun _ => ?_) (fun _ => ?_); refine gc_seq ?_; refine gc_region ?_; refine gM rfl rfl (by conv => (lhs; whnf)) ?_; apply gw_d; exact det_shr rfl rfl rfl rfl (by decide) (fdiv_nat _ 65536); refine gM rfl rfl (by conv => (lhs; whnf)) ?_; refine gO ?_; refine gc_region ?_; refine gM rfl rfl (by conv => (lhs; whnf)) ?_; apply gw_d; exact det_ar rfl rfl rfl rfl rfl (by omega); refine gM rfl rfl (by conv => (lhs; whnf)) ?_; refine gO ?_; refine gc_seq ?_; refine gc_seq ?_; refine gc_region ?_; refine gM rfl rfl (by conv => (lhs; whnf)) ?_; refine gC rfl rfl rfl rfl rfl ?_; refine gO ?_; refine gc_if_dec rfl (fun _ => ?_) (fun _ => ?_); refine gc_seq ?_; refine gc_region ?_; refine gM rfl rfl (by conv => (lhs; whnf)) ?_; apply gw_d; exact det_shr rfl rfl rfl rfl (by decide) (fdiv_nat _ 256); refine gM rfl rfl (by conv => (lhs; whnf)) ?_; refine gO ?_; refine gc_region ?_; refine gM rfl rfl (by conv => (lhs; whnf)) ?_; apply gw_d; exact det_ar rfl rfl rfl rfl rfl (by omega); refine gM rfl rfl (by conv => (lhs; whnf)) ?_; refine gN ?_; refine gM rfl rfl (by conv => (lhs; whnf)) ?_; refine gM rfl rfl (by conv => (lhs; whnf)) ?_; apply gw_d; exact det_conv rfl rfl rfl (wrap_u8 (by omega)); apply gw_d; exact w_sidx (s := len8tab) rfl rfl rfl rfl rfl (by rw [tab_size]; omega); apply gw_d; exact det_conv rfl rfl rfl wrap_i8; apply gw_d; exact det_ar rfl rfl rfl rfl rfl (by omega); refine gM rfl rfl (by conv => (lhs; whnf)) ?_; refine gO ?_; refine gc_ret ?_; rotate_left; refine gc_skip ?_; refine gx_next ?_; refine gc_seq ?_; refine gc_region ?_; refine gM rfl rfl (by conv => (lhs; whnf)) ?_; refine gM rfl rfl (by conv => (lhs; whnf)) ?_; apply gw_d; exact det_conv rfl rfl rfl (wrap_u8 (by omega)); apply gw_d; exact w_sidx (s := len8tab) rfl rfl rfl rfl rfl (by rw [tab_size]; omega); apply gw_d; exact det_conv rfl rfl rfl wrap_i8; apply gw_d; exact det_ar rfl rfl rfl rfl rfl (by omega); refine gM rfl rfl (by conv => (lhs; whnf)) ?_; refine gO ?_; refine gc_ret ?_; rotate_left; refine gc_skip ?_; refine gx_next ?_; refine gc_seq ?_; refine gc_seq ?_; refine gc_region ?_; refine gM rfl rfl (by conv => (lhs; whnf)) ?_; refine gC rfl rfl rfl rfl rfl ?_; refine gO ?_; refine gc_if_dec rfl (fun _ => ?_) (fun _ => ?_); refine gc_seq ?_; refine gc_region ?_; refine gM rfl rfl (by conv => (lhs; whnf)) ?_; apply gw_d; exact det_shr rfl rfl rfl rfl (by decide) (fdiv_nat _ 256); refine gM rfl rfl (by conv => (lhs; whnf)) ?_; refine gO ?_; refine gc_region ?_; refine gM rfl rfl (by conv => (lhs; whnf)) ?_; apply gw_d; exact det_ar rfl rfl rfl rfl rfl (by omega); refine gM rfl rfl (by conv => (lhs; whnf)) ?_; refine gN ?_; refine gM rfl rfl (by conv => (lhs; whnf)) ?_; refine gM rfl rfl (by conv => (lhs; whnf)) ?_; apply gw_d; exact det_conv rfl rfl rfl (wrap_u8 (by omega)); apply gw_d; exact w_sidx (s := len8tab) rfl rfl rfl rfl rfl (by rw [tab_size]; omega); apply gw_d; exact det_conv rfl rfl rfl wrap_i8; apply gw_d; exact det_ar rfl rfl rfl rfl rfl (by omega); refine gM rfl rfl (by conv => (lhs; whnf)) ?_; refine gO ?_; refine gc_ret ?_; rotate_left; refine gc_skip ?_; refine gx_next ?_; refine gc_seq ?_; refine gc_region ?_; refine gM rfl rfl (by conv => (lhs; whnf)) ?_; refine gM rfl rfl (by conv => (lhs; whnf)) ?_; apply gw_d; exact det_conv rfl rfl rfl (wrap_u8 (by omega)); apply gw_d; exact w_sidx (s := len8tab) rfl rfl rfl rfl rfl (by rw [tab_size]; omega); apply gw_d; exact det_conv rfl rfl rfl wrap_i8; apply gw_d; exact det_ar rfl rfl rfl rfl rfl (by omega); refine gM rfl rfl (by conv => (lhs; whnf)) ?_; refine gO ?_; refine gc_ret ?_; rotate_left)
  (set_option pp.maxSteps 60 in set_option pp.deepTerms false in trace_state)
  all_goals (refine gx_ret1 (v := .int _ _) rfl rfl (fun _ _ => ?_); congr 1; unfold l64 l32 l16; split <;> split <;> split <;> omega)
theorem len_ok (w : World) (x : Nat) (hx : x < 18446744073709551616) : Ok Tryz.prog 70 [.int .u64 (x : Int)].toArray w fun r _ => r = .int .i64 (l64 x : Int) := by
  refine ok_enter Tryz.func70 rfl Tryz.ntmps70 rfl ?_
  focus (refine gc_seq ?_; refine gc_region ?_; refine gM rfl rfl (by conv => (lhs; whnf)) ?_; refine gO ?_; refine gc_seq ?_)
  refine gc_if_false rfl ?_
  focus (refine gc_skip ?_; refine gx_next ?_; refine gc_seq ?_; refine gc_region ?_; refine gM rfl rfl (by conv => (lhs; whnf)) ?_; apply gw_d; exact w_call rfl rfl (fun w _ => len64_ok w x hx) rfl; refine gM rfl rfl (by conv => (lhs; whnf)) ?_; refine gO ?_; refine gc_ret ?_)
  refine gx_ret1 (v := .int _ _) rfl rfl (fun _ _ => ?_)
  rfl
end Go.Proofs.YtckhibfbdnoigaaGreat

/- Numbers of 64 bits without a sign; the product of two of them in two words. -/
namespace Go.Proofs.YtckhibfbdnoigaaGreat
open Go.RowKit
set_option maxRecDepth 100000
set_option maxHeartbeats 4000000

theorem u64w (i : Int) : IntKind.u64.wrap i = i % 18446744073709551616 := rfl
section
variable {P : Program} {ops : Array Oper} {N : Nat} {w0 : World} {L : List Res} {e : Env} {o : Oper} {t : TypeId} {x y : Operand}
theorem det_mulU {i j : Nat} {yt : TypeId} (hop : o.op = .binOp .mul t x y yt) (hw : wantedE N ops e o = true) (hx : ev N e x = .int .u64 (i : Int)) (hy : ev N e y = .int .u64 (j : Int)) : Det P ops N w0 L o e (.int .u64 ((i * j % 18446744073709551616 : Nat) : Int)) :=
  det_eq (det_ar_wrap (r := IntKind.u64.wrap ((i : Int) * (j : Int))) hop hw hx hy rfl) (by rw [u64w, Int.natCast_emod, Int.natCast_mul]; rfl)
theorem det_addU {i j : Nat} {yt : TypeId} (hop : o.op = .binOp .add t x y yt) (hw : wantedE N ops e o = true) (hx : ev N e x = .int .u64 (i : Int)) (hy : ev N e y = .int .u64 (j : Int)) : Det P ops N w0 L o e (.int .u64 (((i + j) % 18446744073709551616 : Nat) : Int)) :=
  det_eq (det_ar_wrap (r := IntKind.u64.wrap ((i : Int) + (j : Int))) hop hw hx hy rfl) (by rw [u64w, Int.natCast_emod, Int.natCast_add]; rfl)
theorem det_subU {i j : Nat} {yt : TypeId} (hj : j ≤ 18446744073709551616) (hop : o.op = .binOp .sub t x y yt) (hw : wantedE N ops e o = true) (hx : ev N e x = .int .u64 (i : Int)) (hy : ev N e y = .int .u64 (j : Int)) : Det P ops N w0 L o e (.int .u64 (((i + (18446744073709551616 - j)) % 18446744073709551616 : Nat) : Int)) :=
  det_eq (det_ar_wrap (r := IntKind.u64.wrap ((i : Int) - (j : Int))) hop hw hx hy rfl) (by
    rw [u64w]
    congr 1
    omega)
theorem run_bits {b : BinOp} {k : IntKind} {i j : Int} {yt : TypeId} {v : Value} {w : World} (hb : b = .and ∨ b = .or) (hop : o.op = .binOp b t x y yt) (hx : ev N e x = .int k i) (hy : ev N e y = .int k j) (hr : (Op.intBits b k i j).run P w = .ok v w) : (execOp (ev N e) o).run P w = .ok (.value v) w := by
  unfold execOp
  rcases hb with rfl | rfl <;> simp [hop, hx, hy, eqGuard, binOp, hr]
theorem det_andM {i : Nat} {yt : TypeId} (hi : i < 18446744073709551616) (hop : o.op = .binOp .and t x y yt) (hw : wantedE N ops e o = true) (hx : ev N e x = .int .u64 (i : Int)) (hy : ev N e y = .int .u64 4294967295) : Det P ops N w0 L o e (.int .u64 ((i % 4294967296 : Nat) : Int)) :=
  det_pure hw fun w => run_bits (.inl rfl) hop hx hy (by
    have h1 : (BitVec.ofInt IntKind.u64.bits (i : Int) &&& BitVec.ofInt IntKind.u64.bits 4294967295).toNat = i % 4294967296 := by
      show (BitVec.ofInt 64 (i : Int) &&& BitVec.ofInt 64 4294967295).toNat = i % 4294967296
      rw [BitVec.toNat_and, BitVec.toNat_ofInt, BitVec.toNat_ofInt]
      have e1 : ((i : Int) % ((2 ^ 64 : Nat) : Int)).toNat = i := by
        have : ((2 ^ 64 : Nat) : Int) = 18446744073709551616 := rfl
        rw [this]
        omega
      have e2 : ((4294967295 : Int) % ((2 ^ 64 : Nat) : Int)).toNat = 2 ^ 32 - 1 := rfl
      rw [e1, e2, Nat.and_two_pow_sub_one_eq_mod]
    simp only [Op.intBits, h1]
    have h2 : IntKind.u64.wrap ((i % 4294967296 : Nat) : Int) = ((i % 4294967296 : Nat) : Int) := by
      rw [u64w]
      omega
    rw [h2]
    rfl)
def orW (i j : Nat) : Nat := (BitVec.ofInt 64 (i : Int) ||| BitVec.ofInt 64 (j : Int)).toNat
theorem orW_lt (i j : Nat) : orW i j < 18446744073709551616 := (BitVec.ofInt 64 (i : Int) ||| BitVec.ofInt 64 (j : Int)).isLt
theorem det_orU {i j : Nat} {yt : TypeId} (hop : o.op = .binOp .or t x y yt) (hw : wantedE N ops e o = true) (hx : ev N e x = .int .u64 (i : Int)) (hy : ev N e y = .int .u64 (j : Int)) : Det P ops N w0 L o e (.int .u64 ((orW i j : Nat) : Int)) :=
  det_pure hw fun w => run_bits (.inr rfl) hop hx hy (by
    have h1 : (BitVec.ofInt IntKind.u64.bits (i : Int) ||| BitVec.ofInt IntKind.u64.bits (j : Int)).toNat = orW i j := rfl
    simp only [Op.intBits, h1]
    have h2 : IntKind.u64.wrap ((orW i j : Nat) : Int) = ((orW i j : Nat) : Int) := by
      have := orW_lt i j
      rw [u64w]
      omega
    rw [h2]
    rfl)
end
theorem mul64_law {x y : Nat} : x * y = (x / 4294967296) * (y / 4294967296) * 18446744073709551616 + (x / 4294967296) * (y % 4294967296) * 4294967296 + (x % 4294967296) * (y / 4294967296) * 4294967296 + (x % 4294967296) * (y % 4294967296) := by
  have hx : x = x / 4294967296 * 4294967296 + x % 4294967296 := by omega
  have hy : y = y / 4294967296 * 4294967296 + y % 4294967296 := by omega
  generalize x / 4294967296 = a at *
  generalize x % 4294967296 = b at *
  generalize y / 4294967296 = c at *
  generalize y % 4294967296 = d at *
  subst hx hy
  simp only [Nat.add_mul, Nat.mul_add]
  have e1 : a * 4294967296 * (c * 4294967296) = a * c * 18446744073709551616 := by
    rw [Nat.mul_mul_mul_comm]
  have e2 : a * 4294967296 * d = a * d * 4294967296 := Nat.mul_right_comm _ _ _
  have e3 : b * (c * 4294967296) = b * c * 4294967296 := (Nat.mul_assoc _ _ _).symm
  omega
theorem mul64_ok (w : World) (x y : Nat) (hx : x ≤ 1099511627776) (hy : y ≤ 1099511627776) : Ok Tryz.prog 163 [.int .u64 (x : Int), .int .u64 (y : Int)].toArray w fun r _ => r = .tuple #[.int .u64 ((x * y / 18446744073709551616 : Nat) : Int), .int .u64 ((x * y % 18446744073709551616 : Nat) : Int)] := by
  have hlaw := mul64_law (x := x) (y := y)
  have a1 : x / 4294967296 ≤ 256 := by omega
  have a2 : y / 4294967296 ≤ 256 := by omega
  have a3 : x % 4294967296 ≤ 4294967295 := by omega
  have a4 : y % 4294967296 ≤ 4294967295 := by omega
  have m1 : (x / 4294967296) * (y / 4294967296) ≤ 256 * 256 := Nat.mul_le_mul a1 a2
  have m2 : (x / 4294967296) * (y % 4294967296) ≤ 256 * 4294967295 := Nat.mul_le_mul a1 a4
  have m3 : (x % 4294967296) * (y / 4294967296) ≤ 4294967295 * 256 := Nat.mul_le_mul a3 a2
  have m4 : (x % 4294967296) * (y % 4294967296) ≤ 4294967295 * 4294967295 := Nat.mul_le_mul a3 a4
  generalize hA : (x / 4294967296) * (y / 4294967296) = A at *
  generalize hB : (x / 4294967296) * (y % 4294967296) = B at *
  generalize hC : (x % 4294967296) * (y / 4294967296) = C at *
  generalize hD : (x % 4294967296) * (y % 4294967296) = D at *
  refine ok_enter Tryz.func163 rfl Tryz.ntmps163 rfl ?_
  focus (refine gc_seq ?_; refine gc_region ?_; refine gM rfl rfl (by conv => (lhs; whnf)) ?_; refine gM rfl rfl (by conv => (lhs; whnf)) ?_; refine gN ?_; refine gM rfl rfl (by conv => (lhs; whnf)) ?_; apply gw_d; exact det_andM (by omega) rfl rfl rfl rfl; refine gM rfl rfl (by conv => (lhs; whnf)) ?_; refine gN ?_; refine gM rfl rfl (by conv => (lhs; whnf)) ?_; apply gw_d; exact det_shr rfl rfl rfl rfl (by decide) (fdiv_nat _ 4294967296); refine gM rfl rfl (by conv => (lhs; whnf)) ?_; refine gN ?_; refine gM rfl rfl (by conv => (lhs; whnf)) ?_; apply gw_d; exact det_andM (by omega) rfl rfl rfl rfl; refine gM rfl rfl (by conv => (lhs; whnf)) ?_; refine gN ?_; refine gM rfl rfl (by conv => (lhs; whnf)) ?_; apply gw_d; exact det_shr rfl rfl rfl rfl (by decide) (fdiv_nat _ 4294967296); refine gM rfl rfl (by conv => (lhs; whnf)) ?_; refine gN ?_; refine gM rfl rfl (by conv => (lhs; whnf)) ?_; refine gM rfl rfl (by conv => (lhs; whnf)) ?_; apply gw_d; exact det_mulU rfl rfl rfl rfl; refine gM rfl rfl (by conv => (lhs; whnf)) ?_; refine gN ?_; refine gM rfl rfl (by conv => (lhs; whnf)) ?_; refine gM rfl rfl (by conv => (lhs; whnf)) ?_; apply gw_d; exact det_mulU rfl rfl rfl rfl; refine gM rfl rfl (by conv => (lhs; whnf)) ?_; apply gw_d; exact det_shr rfl rfl rfl rfl (by decide) (fdiv_nat _ 4294967296); apply gw_d; exact det_addU rfl rfl rfl rfl; refine gM rfl rfl (by conv => (lhs; whnf)) ?_; refine gN ?_; refine gM rfl rfl (by conv => (lhs; whnf)) ?_; apply gw_d; exact det_andM (by omega) rfl rfl rfl rfl; refine gM rfl rfl (by conv => (lhs; whnf)) ?_; refine gN ?_; refine gM rfl rfl (by conv => (lhs; whnf)) ?_; apply gw_d; exact det_shr rfl rfl rfl rfl (by decide) (fdiv_nat _ 4294967296); refine gM rfl rfl (by conv => (lhs; whnf)) ?_; refine gN ?_; refine gM rfl rfl (by conv => (lhs; whnf)) ?_; refine gM rfl rfl (by conv => (lhs; whnf)) ?_; refine gM rfl rfl (by conv => (lhs; whnf)) ?_; apply gw_d; exact det_mulU rfl rfl rfl rfl; apply gw_d; exact det_addU rfl rfl rfl rfl; refine gM rfl rfl (by conv => (lhs; whnf)) ?_; refine gN ?_; refine gM rfl rfl (by conv => (lhs; whnf)) ?_; refine gM rfl rfl (by conv => (lhs; whnf)) ?_; apply gw_d; exact det_mulU rfl rfl rfl rfl; refine gM rfl rfl (by conv => (lhs; whnf)) ?_; apply gw_d; exact det_addU rfl rfl rfl rfl; refine gM rfl rfl (by conv => (lhs; whnf)) ?_; apply gw_d; exact det_shr rfl rfl rfl rfl (by decide) (fdiv_nat _ 4294967296); apply gw_d; exact det_addU rfl rfl rfl rfl; refine gM rfl rfl (by conv => (lhs; whnf)) ?_; refine gN ?_; refine gM rfl rfl (by conv => (lhs; whnf)) ?_; refine gM rfl rfl (by conv => (lhs; whnf)) ?_; apply gw_d; exact det_mulU rfl rfl rfl rfl; refine gM rfl rfl (by conv => (lhs; whnf)) ?_; refine gO ?_; refine gc_ret ?_)
  (set_option pp.maxSteps 60 in set_option pp.deepTerms false in trace_state)
  refine gx_ret2 (u := .int _ _) (v := .int _ _) rfl rfl rfl (fun _ _ => ?_)
  rw [hA, hB, hC, hD]
  have hlo : x * y % 18446744073709551616 = x * y % 18446744073709551616 := rfl
  have hhi : ((A % 18446744073709551616 + (B % 18446744073709551616 + D % 18446744073709551616 / 4294967296) % 18446744073709551616 / 4294967296) % 18446744073709551616 + ((B % 18446744073709551616 + D % 18446744073709551616 / 4294967296) % 18446744073709551616 % 4294967296 + C % 18446744073709551616) % 18446744073709551616 / 4294967296) % 18446744073709551616 = x * y / 18446744073709551616 := by
    rw [hlaw]
    omega
  rw [hhi]
end Go.Proofs.YtckhibfbdnoigaaGreat

/- The quotient of two words by one: it comes back. -/
namespace Go.Proofs.YtckhibfbdnoigaaGreat
open Go.RowKit
set_option maxRecDepth 100000
set_option maxHeartbeats 8000000

section
variable {P : Program} {ops : Array Oper} {N : Nat} {w0 : World} {L : List Res} {e : Env} {o : Oper} {t : TypeId} {x y : Operand}
theorem pow_cast (k : Nat) : (2 : Int) ^ k = ((2 ^ k : Nat) : Int) := by
  rw [Int.natCast_pow]
  rfl
theorem det_quoU {i j : Nat} {yt : TypeId} (hi : i < 18446744073709551616) (hj : 0 < j) (hop : o.op = .binOp .quo t x y yt) (hw : wantedE N ops e o = true) (hx : ev N e x = .int .u64 (i : Int)) (hy : ev N e y = .int .u64 (j : Int)) : Det P ops N w0 L o e (.int .u64 ((i / j : Nat) : Int)) :=
  det_pure hw fun _ => by
    have h0 : ¬ (j : Int) = 0 := by omega
    have h1 : (i : Int).tdiv (j : Int) = ((i / j : Nat) : Int) := by rw [Int.tdiv_eq_ediv_of_nonneg (by omega)]; rfl
    have h2 : i / j ≤ i := Nat.div_le_self _ _
    have h : IntKind.u64.wrap ((i / j : Nat) : Int) = ((i / j : Nat) : Int) := by rw [u64w]; exact Int.emod_eq_of_lt (Int.natCast_nonneg _) (by have : ((i / j : Nat) : Int) ≤ (i : Int) := Int.ofNat_le.2 h2; omega)
    have h0' : ¬ j = 0 := by omega
    unfold execOp
    simp only [hop, hx, hy, eqGuard, binOp, Op.intDiv, h1]
    simp [h0']
    exact h
theorem rhat_lt {u d : Nat} (_hu : u < 18446744073709551616) (hd : 0 < d) : (u + (18446744073709551616 - u / d * d % 18446744073709551616)) % 18446744073709551616 < d := by
  have h1 : u / d * d ≤ u := Nat.div_mul_le_self _ _
  have h2 : u < u / d * d + d := by
    have := Nat.lt_div_mul_add (a := u) hd
    omega
  omega
theorem det_remU {i j : Nat} {yt : TypeId} (hj : 0 < j) (hop : o.op = .binOp .rem t x y yt) (hw : wantedE N ops e o = true) (hx : ev N e x = .int .u64 (i : Int)) (hy : ev N e y = .int .u64 (j : Int)) : Det P ops N w0 L o e (.int .u64 ((i % j : Nat) : Int)) :=
  det_pure hw fun _ => by
    have h1 : (i : Int).tmod (j : Int) = ((i % j : Nat) : Int) := by rw [Int.tmod_eq_emod_of_nonneg (by omega)]; rfl
    have h0' : ¬ j = 0 := by omega
    unfold execOp
    simp only [hop, hx, hy, eqGuard, binOp, Op.intDiv, h1]
    simp [h0']
theorem det_shlU {i s : Nat} {yt : TypeId} (hop : o.op = .binOp .shl t x y yt) (hw : wantedE N ops e o = true) (hx : ev N e x = .int .u64 (i : Int)) (hy : ev N e y = .int .u64 (s : Int)) : Det P ops N w0 L o e (.int .u64 ((i * 2 ^ (min s 64) % 18446744073709551616 : Nat) : Int)) :=
  det_pure hw fun w => by
    have h0 : ¬ (s : Int) < 0 := by omega
    have h1 : IntKind.u64.wrap ((i : Int) * 2 ^ (min s 64)) = ((i * 2 ^ (min s 64) % 18446744073709551616 : Nat) : Int) := by
      rw [u64w, pow_cast, Int.natCast_emod, Int.natCast_mul]
      rfl
    have h2 : IntKind.u64.bits = 64 := rfl
    unfold execOp
    simp only [hop, hx, hy, binOp, Op.shift, eqGuard, if_neg h0, h2, Int.toNat_natCast, h1]
    rfl
theorem det_shrU {i s : Nat} {yt : TypeId} (hop : o.op = .binOp .shr t x y yt) (hw : wantedE N ops e o = true) (hx : ev N e x = .int .u64 (i : Int)) (hy : ev N e y = .int .u64 (s : Int)) : Det P ops N w0 L o e (.int .u64 ((i / 2 ^ (min s 64) : Nat) : Int)) :=
  det_pure hw fun w => by
    have h0 : ¬ (s : Int) < 0 := by omega
    have h1 : ((i : Int).fdiv (2 ^ (min s 64))) = ((i / 2 ^ (min s 64) : Nat) : Int) := by rw [pow_cast]; exact fdiv_nat _ _
    have h2 : IntKind.u64.bits = 64 := rfl
    unfold execOp
    simp only [hop, hx, hy, binOp, Op.shift, eqGuard, if_neg h0, h2, Int.toNat_natCast, h1]
    rfl
end
theorem l8_low_all : ((List.range 256).all fun z => Nat.beq z 0 || decide (2 ^ l8 z ≤ 2 * z)) = true := by kernel_rfl
theorem l8_low {z : Nat} (h : z < 256) (h0 : 0 < z) : 2 ^ l8 z ≤ 2 * z := by
  have := List.all_eq_true.1 l8_low_all z (List.mem_range.2 h)
  rw [Bool.or_eq_true] at this
  rcases this with h1 | h1
  · have := Nat.eq_of_beq_eq_true h1; omega
  · exact of_decide_eq_true h1
theorem up_low {z k a b : Nat} (hb : b = 2 ^ a) (h : 2 ^ k ≤ 2 * (z / b)) : 2 ^ (k + a) ≤ 2 * z := by
  rw [Nat.pow_add, ← hb]
  have h1 := Nat.mul_le_mul_right b h
  have h2 : z / b * b ≤ z := Nat.div_mul_le_self _ _
  have h3 : 2 * (z / b) * b = 2 * (z / b * b) := Nat.mul_assoc _ _ _
  omega
theorem l64_low {z : Nat} (h : z < 18446744073709551616) (h0 : 0 < z) : 2 ^ l64 z ≤ 2 * z := by
  have s16 : ∀ z, z < 65536 → 0 < z → 2 ^ l16 z ≤ 2 * z := fun z h h0 => by
    unfold l16
    split
    · exact up_low (by decide) (l8_low (by omega) (by omega))
    · exact l8_low (by omega) h0
  have s32 : ∀ z, z < 4294967296 → 0 < z → 2 ^ l32 z ≤ 2 * z := fun z h h0 => by
    unfold l32
    split
    · exact up_low (by decide) (s16 _ (by omega) (by omega))
    · exact s16 _ (by omega) h0
  unfold l64
  split
  · exact up_low (by decide) (s32 _ (by omega) (by omega))
  · exact s32 _ (by omega) h0
theorem lz64_ok (w : World) (x : Nat) (hx : x < 18446744073709551616) : Ok Tryz.prog 190 [.int .u64 (x : Int)].toArray w fun r _ => r = .int .i64 ((64 - l64 x : Nat) : Int) := by
  have hl := (l64_lt hx).2
  refine ok_enter Tryz.func190 rfl Tryz.ntmps190 rfl ?_
  focus (refine gc_seq ?_; refine gc_region ?_; refine gM rfl rfl (by conv => (lhs; whnf)) ?_; refine gN ?_; refine gM rfl rfl (by conv => (lhs; whnf)) ?_; apply gw_d; exact w_call rfl rfl (fun w _ => len64_ok w x hx) rfl; apply gw_d; exact det_ar rfl rfl rfl rfl rfl (by omega); refine gM rfl rfl (by conv => (lhs; whnf)) ?_; refine gO ?_; refine gc_ret ?_)
  refine gx_ret1 (v := .int _ _) rfl rfl (fun _ _ => ?_)
  congr 1
  omega
/-- The divisor, moved up. -/
theorem norm_y {y : Nat} (h : y < 18446744073709551616) (h0 : 0 < y) : y * 2 ^ (64 - l64 y) < 18446744073709551616 ∧ 9223372036854775808 ≤ y * 2 ^ (64 - l64 y) := by
  obtain ⟨h1, h2⟩ := l64_lt h
  have h3 := l64_low h h0
  have hp : 2 ^ l64 y * 2 ^ (64 - l64 y) = 18446744073709551616 := by
    rw [← Nat.pow_add, show l64 y + (64 - l64 y) = 64 by omega]
  have hpos : 0 < 2 ^ (64 - l64 y) := Nat.two_pow_pos _
  have a := Nat.mul_lt_mul_of_pos_right h1 hpos
  have b := Nat.mul_le_mul_right (2 ^ (64 - l64 y)) h3
  have c : 2 * y * 2 ^ (64 - l64 y) = 2 * (y * 2 ^ (64 - l64 y)) := Nat.mul_assoc _ _ _
  omega
end Go.Proofs.YtckhibfbdnoigaaGreat

/- The quotient of two words by one: it comes back. -/
namespace Go.Proofs.YtckhibfbdnoigaaGreat
open Go.RowKit
set_option maxRecDepth 100000
set_option maxHeartbeats 8000000

theorem div64_ok (w : World) (hi lo y : Nat) (hlo : lo < 18446744073709551616) (hy : y < 18446744073709551616) (h : hi < y) : OkM Tryz.prog 164 [.int .u64 (hi : Int), .int .u64 (lo : Int), .int .u64 (y : Int)].toArray w (fun x : Nat × Nat => .tuple #[.int .u64 (x.1 : Int), .int .u64 (x.2 : Int)]) (fun _ => []) := by
  unfold OkM
  refine ok_enter Tryz.func164 rfl Tryz.ntmps164 rfl ?_
  focus (refine gc_seq ?_; refine gc_region ?_; refine gM rfl rfl (by conv => (lhs; whnf)) ?_; refine gM rfl rfl (by conv => (lhs; whnf)) ?_; refine gO ?_; refine gc_seq ?_; refine gc_seq ?_; refine gc_region ?_; refine gM rfl rfl (by conv => (lhs; whnf)) ?_; refine gC rfl rfl rfl rfl rfl ?_; refine gO ?_)
  refine gc_if_dec rfl (fun h1 => by omega) (fun _ => ?_)
  focus (refine gc_skip ?_; refine gx_next ?_; refine gc_seq ?_; refine gc_seq ?_; refine gc_region ?_; refine gM rfl rfl (by conv => (lhs; whnf)) ?_; refine gM rfl rfl (by conv => (lhs; whnf)) ?_; refine gC rfl rfl rfl rfl rfl ?_; refine gO ?_)
  refine gc_if_dec rfl (fun h1 => by omega) (fun _ => ?_)
  focus (refine gc_skip ?_; refine gx_next ?_; refine gc_seq ?_; refine gc_seq ?_; refine gc_region ?_; refine gM rfl rfl (by conv => (lhs; whnf)) ?_; refine gC rfl rfl rfl rfl rfl ?_; refine gO ?_)
  refine gc_if_dec rfl (fun h1 => ?_) (fun h1 => ?_)
  · focus (refine gc_seq ?_)
    refine gc_draw2 7 (by kernel_rfl) (by kernel_rfl) ?_
    focus (apply gd_d; exact det_m rfl rfl (by conv => (lhs; whnf)); apply gd_d; exact det_m rfl rfl (by conv => (lhs; whnf)); apply gd_d; exact det_quoU hlo (by omega) rfl rfl rfl rfl; apply gd_d; exact det_m rfl rfl (by conv => (lhs; whnf)); apply gd_d; exact det_m rfl rfl (by conv => (lhs; whnf)); apply gd_d; exact det_remU (by omega) rfl rfl rfl rfl; apply gd_d; exact det_m rfl rfl (by conv => (lhs; whnf)); refine gd_nil ?_; refine gM rfl rfl (by conv => (lhs; whnf)) ?_; refine gO ?_; refine gc_ret ?_; refine gx_then_ret ?_)
    exact gx_ret2 (u := .int _ _) (v := .int _ _) rfl rfl rfl (fun w' s => ⟨(lo / y, lo % y), rfl, trivial⟩)
  obtain ⟨n1, n2⟩ := norm_y hy (by omega)
  have hl := (l64_lt hy).2
  have hs : 64 - l64 y ≤ 64 := by omega
  have hsw : IntKind.u64.wrap ((64 - l64 y : Nat) : Int) = ((64 - l64 y : Nat) : Int) := by rw [u64w]; omega
  have hY : y * 2 ^ (min (64 - l64 y) 64) % 18446744073709551616 = y * 2 ^ (64 - l64 y) := by rw [Nat.min_eq_left hs]; omega
  generalize hsv : 64 - l64 y = s at *
  focus (refine gc_skip ?_; refine gx_next ?_; refine gc_seq ?_; refine gc_region ?_; refine gM rfl rfl (by conv => (lhs; whnf)) ?_; apply gw_d; exact w_call rfl rfl (fun w _ => by have := lz64_ok w y hy; rw [hsv] at this; exact this) rfl; apply gw_d; exact det_conv rfl rfl rfl hsw; refine gM rfl rfl (by conv => (lhs; whnf)) ?_; refine gN ?_; refine gM rfl rfl (by conv => (lhs; whnf)) ?_; refine gM rfl rfl (by conv => (lhs; whnf)) ?_; apply gw_d; exact det_eq (det_shlU rfl rfl rfl rfl) (by rw [hY]); refine gM rfl rfl (by conv => (lhs; whnf)) ?_; refine gN ?_; refine gM rfl rfl (by conv => (lhs; whnf)) ?_)
  generalize y * 2 ^ s = Y at *
  have hd0 : 0 < Y / 4294967296 := by omega
  have hd1 : Y / 4294967296 < 4294967296 := by omega
  focus (apply gw_d; exact det_shr rfl rfl rfl rfl (by decide) (fdiv_nat _ 4294967296); refine gM rfl rfl (by conv => (lhs; whnf)) ?_; refine gN ?_; refine gM rfl rfl (by conv => (lhs; whnf)) ?_; apply gw_d; exact det_andM (by omega) rfl rfl rfl rfl; refine gM rfl rfl (by conv => (lhs; whnf)) ?_; refine gN ?_; refine gM rfl rfl (by conv => (lhs; whnf)) ?_; refine gM rfl rfl (by conv => (lhs; whnf)) ?_; apply gw_d; exact det_shlU rfl rfl rfl rfl; refine gM rfl rfl (by conv => (lhs; whnf)) ?_; refine gM rfl rfl (by conv => (lhs; whnf)) ?_; apply gw_d; exact det_subU (by omega) rfl rfl rfl rfl; apply gw_d; exact det_shrU rfl rfl rfl rfl; apply gw_d; exact det_orU rfl rfl rfl rfl; refine gM rfl rfl (by conv => (lhs; whnf)) ?_; refine gN ?_; refine gM rfl rfl (by conv => (lhs; whnf)) ?_; refine gM rfl rfl (by conv => (lhs; whnf)) ?_; apply gw_d; exact det_shlU rfl rfl rfl rfl; refine gM rfl rfl (by conv => (lhs; whnf)) ?_; refine gN ?_; refine gM rfl rfl (by conv => (lhs; whnf)) ?_; apply gw_d; exact det_shr rfl rfl rfl rfl (by decide) (fdiv_nat _ 4294967296); refine gM rfl rfl (by conv => (lhs; whnf)) ?_; refine gN ?_; refine gM rfl rfl (by conv => (lhs; whnf)) ?_; apply gw_d; exact det_andM (by omega) rfl rfl rfl rfl; refine gM rfl rfl (by conv => (lhs; whnf)) ?_; refine gN ?_; refine gM rfl rfl (by conv => (lhs; whnf)) ?_; refine gM rfl rfl (by conv => (lhs; whnf)) ?_)
  generalize hu : orW (hi * 2 ^ min s 64 % 18446744073709551616) (lo / 2 ^ min ((64 + (18446744073709551616 - s)) % 18446744073709551616) 64) = U at *
  have hU : U < 18446744073709551616 := by rw [← hu]; exact orW_lt _ _
  generalize lo * 2 ^ min s 64 % 18446744073709551616 = T at *
  generalize Y / 4294967296 = D at *
  obtain ⟨M, hM⟩ : ∃ M : Nat, M = 4294967296 := ⟨_, rfl⟩
  have hdM : D < M := by omega
  generalize Y % 4294967296 = E0 at *
  focus (apply gw_d; exact det_quoU hU hd0 rfl rfl rfl rfl; refine gM rfl rfl (by conv => (lhs; whnf)) ?_; refine gN ?_; refine gM rfl rfl (by conv => (lhs; whnf)) ?_; refine gM rfl rfl (by conv => (lhs; whnf)) ?_; refine gM rfl rfl (by conv => (lhs; whnf)) ?_; apply gw_d; exact det_mulU rfl rfl rfl rfl; apply gw_d; exact det_subU (by omega) rfl rfl rfl rfl; refine gM rfl rfl (by conv => (lhs; whnf)) ?_; refine gO ?_; refine gc_seq ?_; refine gc_block ?_)
  have hR := rhat_lt hU hd0
  generalize U / D = Q at *
  generalize (U + (18446744073709551616 - Q * D % 18446744073709551616)) % 18446744073709551616 = R0 at *
  refine gc_loopK (σ := Nat × Nat) [67, 68, 69, 70, 71, 72, 73, 74, 75, 76, 77, 78, 79, 80, 15, 81, 82, 83, 16, 84, 85] (fun s => [(15, .int .u64 (s.1 : Int)), (16, .int .u64 (s.2 : Int))]) (fun s => s.2 < M) (fun s => M - s.2) (Q, R0) (by dsimp only; omega) ⟨rfl, rfl, trivial⟩ ?_
  rintro ⟨q, r⟩ base hr
  dsimp only at hr ⊢
  focus (refine gc_seq ?_; refine gc_seq ?_; refine gc_region ?_; refine gM rfl rfl (by conv => (lhs; whnf)) ?_; refine gC rfl rfl rfl rfl rfl ?_; refine gM rfl rfl (by conv => (lhs; whnf)) ?_; refine gw_guard_dec rfl rfl (fun _ => ?_) (fun _ => ?_); refine gU rfl ?_; refine gU rfl ?_; refine gU rfl ?_; refine gU rfl ?_; refine gU rfl ?_; refine gU rfl ?_; refine gU rfl ?_; refine gU rfl ?_; apply gw_d; exact det_pick_t (v := .bool _) rfl rfl rfl rfl; refine gO ?_; refine gc_if_true rfl ?_; refine gc_skip ?_; refine gx_next ?_; refine gc_block ?_; refine gc_seq ?_; refine gc_region ?_; refine gM rfl rfl (by conv => (lhs; whnf)) ?_; apply gw_d; exact det_subU (j := 1) (by omega) rfl rfl rfl rfl; refine gM rfl rfl (by conv => (lhs; whnf)) ?_; refine gN ?_; refine gM rfl rfl (by conv => (lhs; whnf)) ?_; refine gM rfl rfl (by conv => (lhs; whnf)) ?_; apply gw_d; exact det_addU rfl rfl rfl rfl; refine gM rfl rfl (by conv => (lhs; whnf)) ?_; refine gN ?_; refine gM rfl rfl (by conv => (lhs; whnf)) ?_; refine gC rfl rfl rfl rfl rfl ?_; refine gO ?_; refine gc_if_dec rfl (fun _ => ?_) (fun _ => ?_); refine gc_exit ?_; refine gx_block_other rfl ?_; refine gx_then_exit ?_; refine gx_block_exit ?_; refine gx_next ?_; refine gc_seq ?_; refine gc_region ?_; refine gM rfl rfl (by conv => (lhs; whnf)) ?_; apply gw_d; exact det_mulU rfl rfl rfl rfl; refine gM rfl rfl (by conv => (lhs; whnf)) ?_; apply gw_d; exact det_addU rfl rfl rfl rfl; refine gM rfl rfl (by conv => (lhs; whnf)) ?_; refine gM rfl rfl (by conv => (lhs; whnf)) ?_; apply gw_d; exact det_mulU rfl rfl rfl rfl; rotate_left; refine gc_skip ?_; refine gx_block ?_; rotate_left; refine gM rfl rfl (by conv => (lhs; whnf)) ?_; refine gM rfl rfl (by conv => (lhs; whnf)) ?_; apply gw_d; exact det_mulU rfl rfl rfl rfl; refine gM rfl rfl (by conv => (lhs; whnf)) ?_; apply gw_d; exact det_mulU rfl rfl rfl rfl; refine gM rfl rfl (by conv => (lhs; whnf)) ?_; apply gw_d; exact det_addU rfl rfl rfl rfl; refine gC rfl rfl rfl rfl rfl ?_; apply gw_d; exact det_pick_f (v := .bool _) rfl rfl rfl rfl; refine gO ?_; refine gc_if_dec rfl (fun _ => ?_) (fun _ => ?_); refine gc_skip ?_; refine gx_next ?_; refine gc_block ?_; refine gc_seq ?_; refine gc_region ?_; refine gM rfl rfl (by conv => (lhs; whnf)) ?_; apply gw_d; exact det_subU (j := 1) (by omega) rfl rfl rfl rfl; refine gM rfl rfl (by conv => (lhs; whnf)) ?_; refine gN ?_; refine gM rfl rfl (by conv => (lhs; whnf)) ?_; refine gM rfl rfl (by conv => (lhs; whnf)) ?_; apply gw_d; exact det_addU rfl rfl rfl rfl; refine gM rfl rfl (by conv => (lhs; whnf)) ?_; refine gN ?_; refine gM rfl rfl (by conv => (lhs; whnf)) ?_; refine gC rfl rfl rfl rfl rfl ?_; refine gO ?_; refine gc_if_dec rfl (fun _ => ?_) (fun _ => ?_); refine gc_exit ?_; refine gx_block_other rfl ?_; refine gx_then_exit ?_; refine gx_block_exit ?_; refine gx_next ?_; refine gc_seq ?_; refine gc_region ?_; refine gM rfl rfl (by conv => (lhs; whnf)) ?_; apply gw_d; exact det_mulU rfl rfl rfl rfl; refine gM rfl rfl (by conv => (lhs; whnf)) ?_; apply gw_d; exact det_addU rfl rfl rfl rfl; refine gM rfl rfl (by conv => (lhs; whnf)) ?_; refine gM rfl rfl (by conv => (lhs; whnf)) ?_; apply gw_d; exact det_mulU rfl rfl rfl rfl; rotate_left; refine gc_skip ?_; refine gx_block ?_; rotate_left; refine gc_exit ?_; refine gx_then_exit ?_; refine gx_then_exit ?_; refine gx_block_exit ?_; refine gx_next ?_; refine gc_seq ?_; refine gc_region ?_; refine gM rfl rfl (by conv => (lhs; whnf)) ?_; apply gw_d; exact det_mulU rfl rfl rfl rfl; refine gM rfl rfl (by conv => (lhs; whnf)) ?_; apply gw_d; exact det_addU rfl rfl rfl rfl; refine gM rfl rfl (by conv => (lhs; whnf)) ?_; refine gM rfl rfl (by conv => (lhs; whnf)) ?_; apply gw_d; exact det_mulU rfl rfl rfl rfl; rotate_left)
  · focus (apply gw_d; exact det_subU (Nat.le_of_lt (Nat.mod_lt _ (by omega))) rfl rfl rfl rfl; refine gM rfl rfl (by conv => (lhs; whnf)) ?_; refine gN ?_; refine gM rfl rfl (by conv => (lhs; whnf)) ?_; refine gM rfl rfl (by conv => (lhs; whnf)) ?_; apply gw_d; exact det_quoU (Nat.mod_lt _ (by omega)) hd0 rfl rfl rfl rfl; refine gM rfl rfl (by conv => (lhs; whnf)) ?_; refine gN ?_; refine gM rfl rfl (by conv => (lhs; whnf)) ?_; refine gM rfl rfl (by conv => (lhs; whnf)) ?_; refine gM rfl rfl (by conv => (lhs; whnf)) ?_; apply gw_d; exact det_mulU rfl rfl rfl rfl; apply gw_d; exact det_subU (Nat.le_of_lt (Nat.mod_lt _ (by omega))) rfl rfl rfl rfl; refine gM rfl rfl (by conv => (lhs; whnf)) ?_; refine gO ?_; refine gc_seq ?_; refine gc_block ?_)
    refine gc_loopK (σ := Nat × Nat) [102, 103, 104, 105, 106, 107, 108, 109, 110, 111, 112, 113, 114, 115, 18, 116, 117, 118, 16, 119, 120] (fun s => [(18, .int .u64 (s.1 : Int)), (16, .int .u64 (s.2 : Int))]) (fun s => s.2 < M) (fun s => M - s.2) (_, _) (Nat.lt_trans (rhat_lt (Nat.mod_lt _ (by omega)) hd0) hdM) ⟨rfl, rfl, trivial⟩ ?_
    rintro ⟨q2, r2⟩ base2 hr2
    dsimp only at hr2 ⊢
    focus (refine gc_seq ?_; refine gc_seq ?_; refine gc_region ?_; refine gM rfl rfl (by conv => (lhs; whnf)) ?_; refine gC rfl rfl rfl rfl rfl ?_; refine gM rfl rfl (by conv => (lhs; whnf)) ?_; refine gw_guard_dec rfl rfl (fun _ => ?_) (fun _ => ?_); refine gU rfl ?_; refine gU rfl ?_; refine gU rfl ?_; refine gU rfl ?_; refine gU rfl ?_; refine gU rfl ?_; refine gU rfl ?_; refine gU rfl ?_; apply gw_d; exact det_pick_t (v := .bool _) rfl rfl rfl rfl; refine gO ?_; refine gc_if_true rfl ?_; refine gc_skip ?_; refine gx_next ?_; refine gc_block ?_; refine gc_seq ?_; refine gc_region ?_; refine gM rfl rfl (by conv => (lhs; whnf)) ?_; apply gw_d; exact det_subU (j := 1) (by omega) rfl rfl rfl rfl; refine gM rfl rfl (by conv => (lhs; whnf)) ?_; refine gN ?_; refine gM rfl rfl (by conv => (lhs; whnf)) ?_; refine gM rfl rfl (by conv => (lhs; whnf)) ?_; apply gw_d; exact det_addU rfl rfl rfl rfl; refine gM rfl rfl (by conv => (lhs; whnf)) ?_; refine gN ?_; refine gM rfl rfl (by conv => (lhs; whnf)) ?_; refine gC rfl rfl rfl rfl rfl ?_; refine gO ?_; refine gc_if_dec rfl (fun _ => ?_) (fun _ => ?_); refine gc_exit ?_; refine gx_block_other rfl ?_; refine gx_then_exit ?_; refine gx_block_exit ?_; refine gx_next ?_; refine gc_seq ?_; refine gc_region ?_; refine gM rfl rfl (by conv => (lhs; whnf)) ?_; apply gw_d; exact det_mulU rfl rfl rfl rfl; refine gM rfl rfl (by conv => (lhs; whnf)) ?_; apply gw_d; exact det_addU rfl rfl rfl rfl; refine gM rfl rfl (by conv => (lhs; whnf)) ?_; apply gw_d; exact det_mulU rfl rfl rfl rfl; refine gM rfl rfl (by conv => (lhs; whnf)) ?_; apply gw_d; exact det_addU rfl rfl rfl rfl; refine gM rfl rfl (by conv => (lhs; whnf)) ?_; refine gM rfl rfl (by conv => (lhs; whnf)) ?_; apply gw_d; exact det_mulU rfl rfl rfl rfl; rotate_left; refine gc_skip ?_; refine gx_block ?_; rotate_left; refine gM rfl rfl (by conv => (lhs; whnf)) ?_; refine gM rfl rfl (by conv => (lhs; whnf)) ?_; apply gw_d; exact det_mulU rfl rfl rfl rfl; refine gM rfl rfl (by conv => (lhs; whnf)) ?_; apply gw_d; exact det_mulU rfl rfl rfl rfl; refine gM rfl rfl (by conv => (lhs; whnf)) ?_; apply gw_d; exact det_addU rfl rfl rfl rfl; refine gC rfl rfl rfl rfl rfl ?_; apply gw_d; exact det_pick_f (v := .bool _) rfl rfl rfl rfl; refine gO ?_; refine gc_if_dec rfl (fun _ => ?_) (fun _ => ?_); refine gc_skip ?_; refine gx_next ?_; refine gc_block ?_; refine gc_seq ?_; refine gc_region ?_; refine gM rfl rfl (by conv => (lhs; whnf)) ?_; apply gw_d; exact det_subU (j := 1) (by omega) rfl rfl rfl rfl; refine gM rfl rfl (by conv => (lhs; whnf)) ?_; refine gN ?_; refine gM rfl rfl (by conv => (lhs; whnf)) ?_; refine gM rfl rfl (by conv => (lhs; whnf)) ?_; apply gw_d; exact det_addU rfl rfl rfl rfl; refine gM rfl rfl (by conv => (lhs; whnf)) ?_; refine gN ?_; refine gM rfl rfl (by conv => (lhs; whnf)) ?_; refine gC rfl rfl rfl rfl rfl ?_; refine gO ?_; refine gc_if_dec rfl (fun _ => ?_) (fun _ => ?_); refine gc_exit ?_; refine gx_block_other rfl ?_; refine gx_then_exit ?_; refine gx_block_exit ?_; refine gx_next ?_; refine gc_seq ?_; refine gc_region ?_; refine gM rfl rfl (by conv => (lhs; whnf)) ?_; apply gw_d; exact det_mulU rfl rfl rfl rfl; refine gM rfl rfl (by conv => (lhs; whnf)) ?_; apply gw_d; exact det_addU rfl rfl rfl rfl; refine gM rfl rfl (by conv => (lhs; whnf)) ?_; apply gw_d; exact det_mulU rfl rfl rfl rfl; refine gM rfl rfl (by conv => (lhs; whnf)) ?_; apply gw_d; exact det_addU rfl rfl rfl rfl; refine gM rfl rfl (by conv => (lhs; whnf)) ?_; refine gM rfl rfl (by conv => (lhs; whnf)) ?_; apply gw_d; exact det_mulU rfl rfl rfl rfl; rotate_left; refine gc_skip ?_; refine gx_block ?_; rotate_left; refine gc_exit ?_; refine gx_then_exit ?_; refine gx_then_exit ?_; refine gx_block_exit ?_; refine gx_next ?_; refine gc_seq ?_; refine gc_region ?_; refine gM rfl rfl (by conv => (lhs; whnf)) ?_; apply gw_d; exact det_mulU rfl rfl rfl rfl; refine gM rfl rfl (by conv => (lhs; whnf)) ?_; apply gw_d; exact det_addU rfl rfl rfl rfl; refine gM rfl rfl (by conv => (lhs; whnf)) ?_; apply gw_d; exact det_mulU rfl rfl rfl rfl; refine gM rfl rfl (by conv => (lhs; whnf)) ?_; apply gw_d; exact det_addU rfl rfl rfl rfl; refine gM rfl rfl (by conv => (lhs; whnf)) ?_; refine gM rfl rfl (by conv => (lhs; whnf)) ?_; apply gw_d; exact det_mulU rfl rfl rfl rfl; rotate_left)
    · focus (apply gw_d; exact det_subU (Nat.le_of_lt (Nat.mod_lt _ (by omega))) rfl rfl rfl rfl; refine gM rfl rfl (by conv => (lhs; whnf)) ?_; apply gw_d; exact det_shrU rfl rfl rfl rfl; refine gM rfl rfl (by conv => (lhs; whnf)) ?_; refine gM rfl rfl (by conv => (lhs; whnf)) ?_; refine gO ?_; refine gc_ret ?_)
      exact gx_ret2 (u := .int _ _) (v := .int _ _) rfl rfl rfl (fun w' s => ⟨(_, _), rfl, trivial⟩)
    · have h1 : (r2 + D) % 18446744073709551616 < M := by omega
      have h2 : M - (r2 + D) % 18446744073709551616 < M - r2 := by omega
      exact gx_round (_, (r2 + D) % 18446744073709551616) h1 h2 (by repeat (first | with_reducible exact Keeps.refl | refine Keeps.upd rfl ?_ | refine Keeps.sets rfl ?_ | refine Keeps.havoc rfl ?_)) ⟨rfl, rfl, trivial⟩ (Sub.all _)
    · focus (apply gw_d; exact det_subU (Nat.le_of_lt (Nat.mod_lt _ (by omega))) rfl rfl rfl rfl; refine gM rfl rfl (by conv => (lhs; whnf)) ?_; apply gw_d; exact det_shrU rfl rfl rfl rfl; refine gM rfl rfl (by conv => (lhs; whnf)) ?_; refine gM rfl rfl (by conv => (lhs; whnf)) ?_; refine gO ?_; refine gc_ret ?_)
      exact gx_ret2 (u := .int _ _) (v := .int _ _) rfl rfl rfl (fun w' s => ⟨(_, _), rfl, trivial⟩)
    · have h1 : (r2 + D) % 18446744073709551616 < M := by omega
      have h2 : M - (r2 + D) % 18446744073709551616 < M - r2 := by omega
      exact gx_round (_, (r2 + D) % 18446744073709551616) h1 h2 (by repeat (first | with_reducible exact Keeps.refl | refine Keeps.upd rfl ?_ | refine Keeps.sets rfl ?_ | refine Keeps.havoc rfl ?_)) ⟨rfl, rfl, trivial⟩ (Sub.all _)
    · focus (apply gw_d; exact det_subU (Nat.le_of_lt (Nat.mod_lt _ (by omega))) rfl rfl rfl rfl; refine gM rfl rfl (by conv => (lhs; whnf)) ?_; apply gw_d; exact det_shrU rfl rfl rfl rfl; refine gM rfl rfl (by conv => (lhs; whnf)) ?_; refine gM rfl rfl (by conv => (lhs; whnf)) ?_; refine gO ?_; refine gc_ret ?_)
      exact gx_ret2 (u := .int _ _) (v := .int _ _) rfl rfl rfl (fun w' s => ⟨(_, _), rfl, trivial⟩)
  · have h1 : (r + D) % 18446744073709551616 < M := by omega
    have h2 : M - (r + D) % 18446744073709551616 < M - r := by omega
    exact gx_round (_, (r + D) % 18446744073709551616) h1 h2 (by repeat (first | with_reducible exact Keeps.refl | refine Keeps.upd rfl ?_ | refine Keeps.sets rfl ?_ | refine Keeps.havoc rfl ?_)) ⟨rfl, rfl, trivial⟩ (Sub.all _)
  · focus (apply gw_d; exact det_subU (Nat.le_of_lt (Nat.mod_lt _ (by omega))) rfl rfl rfl rfl; refine gM rfl rfl (by conv => (lhs; whnf)) ?_; refine gN ?_; refine gM rfl rfl (by conv => (lhs; whnf)) ?_; refine gM rfl rfl (by conv => (lhs; whnf)) ?_; apply gw_d; exact det_quoU (Nat.mod_lt _ (by omega)) hd0 rfl rfl rfl rfl; refine gM rfl rfl (by conv => (lhs; whnf)) ?_; refine gN ?_; refine gM rfl rfl (by conv => (lhs; whnf)) ?_; refine gM rfl rfl (by conv => (lhs; whnf)) ?_; refine gM rfl rfl (by conv => (lhs; whnf)) ?_; apply gw_d; exact det_mulU rfl rfl rfl rfl; apply gw_d; exact det_subU (Nat.le_of_lt (Nat.mod_lt _ (by omega))) rfl rfl rfl rfl; refine gM rfl rfl (by conv => (lhs; whnf)) ?_; refine gO ?_; refine gc_seq ?_; refine gc_block ?_)
    refine gc_loopK (σ := Nat × Nat) [102, 103, 104, 105, 106, 107, 108, 109, 110, 111, 112, 113, 114, 115, 18, 116, 117, 118, 16, 119, 120] (fun s => [(18, .int .u64 (s.1 : Int)), (16, .int .u64 (s.2 : Int))]) (fun s => s.2 < M) (fun s => M - s.2) (_, _) (Nat.lt_trans (rhat_lt (Nat.mod_lt _ (by omega)) hd0) hdM) ⟨rfl, rfl, trivial⟩ ?_
    rintro ⟨q2, r2⟩ base2 hr2
    dsimp only at hr2 ⊢
    focus (refine gc_seq ?_; refine gc_seq ?_; refine gc_region ?_; refine gM rfl rfl (by conv => (lhs; whnf)) ?_; refine gC rfl rfl rfl rfl rfl ?_; refine gM rfl rfl (by conv => (lhs; whnf)) ?_; refine gw_guard_dec rfl rfl (fun _ => ?_) (fun _ => ?_); refine gU rfl ?_; refine gU rfl ?_; refine gU rfl ?_; refine gU rfl ?_; refine gU rfl ?_; refine gU rfl ?_; refine gU rfl ?_; refine gU rfl ?_; apply gw_d; exact det_pick_t (v := .bool _) rfl rfl rfl rfl; refine gO ?_; refine gc_if_true rfl ?_; refine gc_skip ?_; refine gx_next ?_; refine gc_block ?_; refine gc_seq ?_; refine gc_region ?_; refine gM rfl rfl (by conv => (lhs; whnf)) ?_; apply gw_d; exact det_subU (j := 1) (by omega) rfl rfl rfl rfl; refine gM rfl rfl (by conv => (lhs; whnf)) ?_; refine gN ?_; refine gM rfl rfl (by conv => (lhs; whnf)) ?_; refine gM rfl rfl (by conv => (lhs; whnf)) ?_; apply gw_d; exact det_addU rfl rfl rfl rfl; refine gM rfl rfl (by conv => (lhs; whnf)) ?_; refine gN ?_; refine gM rfl rfl (by conv => (lhs; whnf)) ?_; refine gC rfl rfl rfl rfl rfl ?_; refine gO ?_; refine gc_if_dec rfl (fun _ => ?_) (fun _ => ?_); refine gc_exit ?_; refine gx_block_other rfl ?_; refine gx_then_exit ?_; refine gx_block_exit ?_; refine gx_next ?_; refine gc_seq ?_; refine gc_region ?_; refine gM rfl rfl (by conv => (lhs; whnf)) ?_; apply gw_d; exact det_mulU rfl rfl rfl rfl; refine gM rfl rfl (by conv => (lhs; whnf)) ?_; apply gw_d; exact det_addU rfl rfl rfl rfl; refine gM rfl rfl (by conv => (lhs; whnf)) ?_; apply gw_d; exact det_mulU rfl rfl rfl rfl; refine gM rfl rfl (by conv => (lhs; whnf)) ?_; apply gw_d; exact det_addU rfl rfl rfl rfl; refine gM rfl rfl (by conv => (lhs; whnf)) ?_; refine gM rfl rfl (by conv => (lhs; whnf)) ?_; apply gw_d; exact det_mulU rfl rfl rfl rfl; rotate_left; refine gc_skip ?_; refine gx_block ?_; rotate_left; refine gM rfl rfl (by conv => (lhs; whnf)) ?_; refine gM rfl rfl (by conv => (lhs; whnf)) ?_; apply gw_d; exact det_mulU rfl rfl rfl rfl; refine gM rfl rfl (by conv => (lhs; whnf)) ?_; apply gw_d; exact det_mulU rfl rfl rfl rfl; refine gM rfl rfl (by conv => (lhs; whnf)) ?_; apply gw_d; exact det_addU rfl rfl rfl rfl; refine gC rfl rfl rfl rfl rfl ?_; apply gw_d; exact det_pick_f (v := .bool _) rfl rfl rfl rfl; refine gO ?_; refine gc_if_dec rfl (fun _ => ?_) (fun _ => ?_); refine gc_skip ?_; refine gx_next ?_; refine gc_block ?_; refine gc_seq ?_; refine gc_region ?_; refine gM rfl rfl (by conv => (lhs; whnf)) ?_; apply gw_d; exact det_subU (j := 1) (by omega) rfl rfl rfl rfl; refine gM rfl rfl (by conv => (lhs; whnf)) ?_; refine gN ?_; refine gM rfl rfl (by conv => (lhs; whnf)) ?_; refine gM rfl rfl (by conv => (lhs; whnf)) ?_; apply gw_d; exact det_addU rfl rfl rfl rfl; refine gM rfl rfl (by conv => (lhs; whnf)) ?_; refine gN ?_; refine gM rfl rfl (by conv => (lhs; whnf)) ?_; refine gC rfl rfl rfl rfl rfl ?_; refine gO ?_; refine gc_if_dec rfl (fun _ => ?_) (fun _ => ?_); refine gc_exit ?_; refine gx_block_other rfl ?_; refine gx_then_exit ?_; refine gx_block_exit ?_; refine gx_next ?_; refine gc_seq ?_; refine gc_region ?_; refine gM rfl rfl (by conv => (lhs; whnf)) ?_; apply gw_d; exact det_mulU rfl rfl rfl rfl; refine gM rfl rfl (by conv => (lhs; whnf)) ?_; apply gw_d; exact det_addU rfl rfl rfl rfl; refine gM rfl rfl (by conv => (lhs; whnf)) ?_; apply gw_d; exact det_mulU rfl rfl rfl rfl; refine gM rfl rfl (by conv => (lhs; whnf)) ?_; apply gw_d; exact det_addU rfl rfl rfl rfl; refine gM rfl rfl (by conv => (lhs; whnf)) ?_; refine gM rfl rfl (by conv => (lhs; whnf)) ?_; apply gw_d; exact det_mulU rfl rfl rfl rfl; rotate_left; refine gc_skip ?_; refine gx_block ?_; rotate_left; refine gc_exit ?_; refine gx_then_exit ?_; refine gx_then_exit ?_; refine gx_block_exit ?_; refine gx_next ?_; refine gc_seq ?_; refine gc_region ?_; refine gM rfl rfl (by conv => (lhs; whnf)) ?_; apply gw_d; exact det_mulU rfl rfl rfl rfl; refine gM rfl rfl (by conv => (lhs; whnf)) ?_; apply gw_d; exact det_addU rfl rfl rfl rfl; refine gM rfl rfl (by conv => (lhs; whnf)) ?_; apply gw_d; exact det_mulU rfl rfl rfl rfl; refine gM rfl rfl (by conv => (lhs; whnf)) ?_; apply gw_d; exact det_addU rfl rfl rfl rfl; refine gM rfl rfl (by conv => (lhs; whnf)) ?_; refine gM rfl rfl (by conv => (lhs; whnf)) ?_; apply gw_d; exact det_mulU rfl rfl rfl rfl; rotate_left)
    · focus (apply gw_d; exact det_subU (Nat.le_of_lt (Nat.mod_lt _ (by omega))) rfl rfl rfl rfl; refine gM rfl rfl (by conv => (lhs; whnf)) ?_; apply gw_d; exact det_shrU rfl rfl rfl rfl; refine gM rfl rfl (by conv => (lhs; whnf)) ?_; refine gM rfl rfl (by conv => (lhs; whnf)) ?_; refine gO ?_; refine gc_ret ?_)
      exact gx_ret2 (u := .int _ _) (v := .int _ _) rfl rfl rfl (fun w' s => ⟨(_, _), rfl, trivial⟩)
    · have h1 : (r2 + D) % 18446744073709551616 < M := by omega
      have h2 : M - (r2 + D) % 18446744073709551616 < M - r2 := by omega
      exact gx_round (_, (r2 + D) % 18446744073709551616) h1 h2 (by repeat (first | with_reducible exact Keeps.refl | refine Keeps.upd rfl ?_ | refine Keeps.sets rfl ?_ | refine Keeps.havoc rfl ?_)) ⟨rfl, rfl, trivial⟩ (Sub.all _)
    · focus (apply gw_d; exact det_subU (Nat.le_of_lt (Nat.mod_lt _ (by omega))) rfl rfl rfl rfl; refine gM rfl rfl (by conv => (lhs; whnf)) ?_; apply gw_d; exact det_shrU rfl rfl rfl rfl; refine gM rfl rfl (by conv => (lhs; whnf)) ?_; refine gM rfl rfl (by conv => (lhs; whnf)) ?_; refine gO ?_; refine gc_ret ?_)
      exact gx_ret2 (u := .int _ _) (v := .int _ _) rfl rfl rfl (fun w' s => ⟨(_, _), rfl, trivial⟩)
    · have h1 : (r2 + D) % 18446744073709551616 < M := by omega
      have h2 : M - (r2 + D) % 18446744073709551616 < M - r2 := by omega
      exact gx_round (_, (r2 + D) % 18446744073709551616) h1 h2 (by repeat (first | with_reducible exact Keeps.refl | refine Keeps.upd rfl ?_ | refine Keeps.sets rfl ?_ | refine Keeps.havoc rfl ?_)) ⟨rfl, rfl, trivial⟩ (Sub.all _)
    · focus (apply gw_d; exact det_subU (Nat.le_of_lt (Nat.mod_lt _ (by omega))) rfl rfl rfl rfl; refine gM rfl rfl (by conv => (lhs; whnf)) ?_; apply gw_d; exact det_shrU rfl rfl rfl rfl; refine gM rfl rfl (by conv => (lhs; whnf)) ?_; refine gM rfl rfl (by conv => (lhs; whnf)) ?_; refine gO ?_; refine gc_ret ?_)
      exact gx_ret2 (u := .int _ _) (v := .int _ _) rfl rfl rfl (fun w' s => ⟨(_, _), rfl, trivial⟩)
  · have h1 : (r + D) % 18446744073709551616 < M := by omega
    have h2 : M - (r + D) % 18446744073709551616 < M - r := by omega
    exact gx_round (_, (r + D) % 18446744073709551616) h1 h2 (by repeat (first | with_reducible exact Keeps.refl | refine Keeps.upd rfl ?_ | refine Keeps.sets rfl ?_ | refine Keeps.havoc rfl ?_)) ⟨rfl, rfl, trivial⟩ (Sub.all _)
  · focus (apply gw_d; exact det_subU (Nat.le_of_lt (Nat.mod_lt _ (by omega))) rfl rfl rfl rfl; refine gM rfl rfl (by conv => (lhs; whnf)) ?_; refine gN ?_; refine gM rfl rfl (by conv => (lhs; whnf)) ?_; refine gM rfl rfl (by conv => (lhs; whnf)) ?_; apply gw_d; exact det_quoU (Nat.mod_lt _ (by omega)) hd0 rfl rfl rfl rfl; refine gM rfl rfl (by conv => (lhs; whnf)) ?_; refine gN ?_; refine gM rfl rfl (by conv => (lhs; whnf)) ?_; refine gM rfl rfl (by conv => (lhs; whnf)) ?_; refine gM rfl rfl (by conv => (lhs; whnf)) ?_; apply gw_d; exact det_mulU rfl rfl rfl rfl; apply gw_d; exact det_subU (Nat.le_of_lt (Nat.mod_lt _ (by omega))) rfl rfl rfl rfl; refine gM rfl rfl (by conv => (lhs; whnf)) ?_; refine gO ?_; refine gc_seq ?_; refine gc_block ?_)
    refine gc_loopK (σ := Nat × Nat) [102, 103, 104, 105, 106, 107, 108, 109, 110, 111, 112, 113, 114, 115, 18, 116, 117, 118, 16, 119, 120] (fun s => [(18, .int .u64 (s.1 : Int)), (16, .int .u64 (s.2 : Int))]) (fun s => s.2 < M) (fun s => M - s.2) (_, _) (Nat.lt_trans (rhat_lt (Nat.mod_lt _ (by omega)) hd0) hdM) ⟨rfl, rfl, trivial⟩ ?_
    rintro ⟨q2, r2⟩ base2 hr2
    dsimp only at hr2 ⊢
    focus (refine gc_seq ?_; refine gc_seq ?_; refine gc_region ?_; refine gM rfl rfl (by conv => (lhs; whnf)) ?_; refine gC rfl rfl rfl rfl rfl ?_; refine gM rfl rfl (by conv => (lhs; whnf)) ?_; refine gw_guard_dec rfl rfl (fun _ => ?_) (fun _ => ?_); refine gU rfl ?_; refine gU rfl ?_; refine gU rfl ?_; refine gU rfl ?_; refine gU rfl ?_; refine gU rfl ?_; refine gU rfl ?_; refine gU rfl ?_; apply gw_d; exact det_pick_t (v := .bool _) rfl rfl rfl rfl; refine gO ?_; refine gc_if_true rfl ?_; refine gc_skip ?_; refine gx_next ?_; refine gc_block ?_; refine gc_seq ?_; refine gc_region ?_; refine gM rfl rfl (by conv => (lhs; whnf)) ?_; apply gw_d; exact det_subU (j := 1) (by omega) rfl rfl rfl rfl; refine gM rfl rfl (by conv => (lhs; whnf)) ?_; refine gN ?_; refine gM rfl rfl (by conv => (lhs; whnf)) ?_; refine gM rfl rfl (by conv => (lhs; whnf)) ?_; apply gw_d; exact det_addU rfl rfl rfl rfl; refine gM rfl rfl (by conv => (lhs; whnf)) ?_; refine gN ?_; refine gM rfl rfl (by conv => (lhs; whnf)) ?_; refine gC rfl rfl rfl rfl rfl ?_; refine gO ?_; refine gc_if_dec rfl (fun _ => ?_) (fun _ => ?_); refine gc_exit ?_; refine gx_block_other rfl ?_; refine gx_then_exit ?_; refine gx_block_exit ?_; refine gx_next ?_; refine gc_seq ?_; refine gc_region ?_; refine gM rfl rfl (by conv => (lhs; whnf)) ?_; apply gw_d; exact det_mulU rfl rfl rfl rfl; refine gM rfl rfl (by conv => (lhs; whnf)) ?_; apply gw_d; exact det_addU rfl rfl rfl rfl; refine gM rfl rfl (by conv => (lhs; whnf)) ?_; apply gw_d; exact det_mulU rfl rfl rfl rfl; refine gM rfl rfl (by conv => (lhs; whnf)) ?_; apply gw_d; exact det_addU rfl rfl rfl rfl; refine gM rfl rfl (by conv => (lhs; whnf)) ?_; refine gM rfl rfl (by conv => (lhs; whnf)) ?_; apply gw_d; exact det_mulU rfl rfl rfl rfl; rotate_left; refine gc_skip ?_; refine gx_block ?_; rotate_left; refine gM rfl rfl (by conv => (lhs; whnf)) ?_; refine gM rfl rfl (by conv => (lhs; whnf)) ?_; apply gw_d; exact det_mulU rfl rfl rfl rfl; refine gM rfl rfl (by conv => (lhs; whnf)) ?_; apply gw_d; exact det_mulU rfl rfl rfl rfl; refine gM rfl rfl (by conv => (lhs; whnf)) ?_; apply gw_d; exact det_addU rfl rfl rfl rfl; refine gC rfl rfl rfl rfl rfl ?_; apply gw_d; exact det_pick_f (v := .bool _) rfl rfl rfl rfl; refine gO ?_; refine gc_if_dec rfl (fun _ => ?_) (fun _ => ?_); refine gc_skip ?_; refine gx_next ?_; refine gc_block ?_; refine gc_seq ?_; refine gc_region ?_; refine gM rfl rfl (by conv => (lhs; whnf)) ?_; apply gw_d; exact det_subU (j := 1) (by omega) rfl rfl rfl rfl; refine gM rfl rfl (by conv => (lhs; whnf)) ?_; refine gN ?_; refine gM rfl rfl (by conv => (lhs; whnf)) ?_; refine gM rfl rfl (by conv => (lhs; whnf)) ?_; apply gw_d; exact det_addU rfl rfl rfl rfl; refine gM rfl rfl (by conv => (lhs; whnf)) ?_; refine gN ?_; refine gM rfl rfl (by conv => (lhs; whnf)) ?_; refine gC rfl rfl rfl rfl rfl ?_; refine gO ?_; refine gc_if_dec rfl (fun _ => ?_) (fun _ => ?_); refine gc_exit ?_; refine gx_block_other rfl ?_; refine gx_then_exit ?_; refine gx_block_exit ?_; refine gx_next ?_; refine gc_seq ?_; refine gc_region ?_; refine gM rfl rfl (by conv => (lhs; whnf)) ?_; apply gw_d; exact det_mulU rfl rfl rfl rfl; refine gM rfl rfl (by conv => (lhs; whnf)) ?_; apply gw_d; exact det_addU rfl rfl rfl rfl; refine gM rfl rfl (by conv => (lhs; whnf)) ?_; apply gw_d; exact det_mulU rfl rfl rfl rfl; refine gM rfl rfl (by conv => (lhs; whnf)) ?_; apply gw_d; exact det_addU rfl rfl rfl rfl; refine gM rfl rfl (by conv => (lhs; whnf)) ?_; refine gM rfl rfl (by conv => (lhs; whnf)) ?_; apply gw_d; exact det_mulU rfl rfl rfl rfl; rotate_left; refine gc_skip ?_; refine gx_block ?_; rotate_left; refine gc_exit ?_; refine gx_then_exit ?_; refine gx_then_exit ?_; refine gx_block_exit ?_; refine gx_next ?_; refine gc_seq ?_; refine gc_region ?_; refine gM rfl rfl (by conv => (lhs; whnf)) ?_; apply gw_d; exact det_mulU rfl rfl rfl rfl; refine gM rfl rfl (by conv => (lhs; whnf)) ?_; apply gw_d; exact det_addU rfl rfl rfl rfl; refine gM rfl rfl (by conv => (lhs; whnf)) ?_; apply gw_d; exact det_mulU rfl rfl rfl rfl; refine gM rfl rfl (by conv => (lhs; whnf)) ?_; apply gw_d; exact det_addU rfl rfl rfl rfl; refine gM rfl rfl (by conv => (lhs; whnf)) ?_; refine gM rfl rfl (by conv => (lhs; whnf)) ?_; apply gw_d; exact det_mulU rfl rfl rfl rfl; rotate_left)
    · focus (apply gw_d; exact det_subU (Nat.le_of_lt (Nat.mod_lt _ (by omega))) rfl rfl rfl rfl; refine gM rfl rfl (by conv => (lhs; whnf)) ?_; apply gw_d; exact det_shrU rfl rfl rfl rfl; refine gM rfl rfl (by conv => (lhs; whnf)) ?_; refine gM rfl rfl (by conv => (lhs; whnf)) ?_; refine gO ?_; refine gc_ret ?_)
      exact gx_ret2 (u := .int _ _) (v := .int _ _) rfl rfl rfl (fun w' s => ⟨(_, _), rfl, trivial⟩)
    · have h1 : (r2 + D) % 18446744073709551616 < M := by omega
      have h2 : M - (r2 + D) % 18446744073709551616 < M - r2 := by omega
      exact gx_round (_, (r2 + D) % 18446744073709551616) h1 h2 (by repeat (first | with_reducible exact Keeps.refl | refine Keeps.upd rfl ?_ | refine Keeps.sets rfl ?_ | refine Keeps.havoc rfl ?_)) ⟨rfl, rfl, trivial⟩ (Sub.all _)
    · focus (apply gw_d; exact det_subU (Nat.le_of_lt (Nat.mod_lt _ (by omega))) rfl rfl rfl rfl; refine gM rfl rfl (by conv => (lhs; whnf)) ?_; apply gw_d; exact det_shrU rfl rfl rfl rfl; refine gM rfl rfl (by conv => (lhs; whnf)) ?_; refine gM rfl rfl (by conv => (lhs; whnf)) ?_; refine gO ?_; refine gc_ret ?_)
      exact gx_ret2 (u := .int _ _) (v := .int _ _) rfl rfl rfl (fun w' s => ⟨(_, _), rfl, trivial⟩)
    · have h1 : (r2 + D) % 18446744073709551616 < M := by omega
      have h2 : M - (r2 + D) % 18446744073709551616 < M - r2 := by omega
      exact gx_round (_, (r2 + D) % 18446744073709551616) h1 h2 (by repeat (first | with_reducible exact Keeps.refl | refine Keeps.upd rfl ?_ | refine Keeps.sets rfl ?_ | refine Keeps.havoc rfl ?_)) ⟨rfl, rfl, trivial⟩ (Sub.all _)
    · focus (apply gw_d; exact det_subU (Nat.le_of_lt (Nat.mod_lt _ (by omega))) rfl rfl rfl rfl; refine gM rfl rfl (by conv => (lhs; whnf)) ?_; apply gw_d; exact det_shrU rfl rfl rfl rfl; refine gM rfl rfl (by conv => (lhs; whnf)) ?_; refine gM rfl rfl (by conv => (lhs; whnf)) ?_; refine gO ?_; refine gc_ret ?_)
      exact gx_ret2 (u := .int _ _) (v := .int _ _) rfl rfl rfl (fun w' s => ⟨(_, _), rfl, trivial⟩)
end Go.Proofs.YtckhibfbdnoigaaGreat

/- Contracts: a place on an edge of the same length. -/
namespace Go.Proofs.YtckhibfbdnoigaaGreat
open Go.RowKit
set_option maxRecDepth 100000
set_option maxHeartbeats 4000000

theorem partner_bad (w : World) (L a : Int) (_hL : 1 ≤ L ∧ L ≤ 1099511627776) (h : a < 0 ∨ a > L) : Ok Tryz.prog 135 [.int .i64 L, .int .i64 L, .bool false, .int .i64 a].toArray w fun r _ => r = .tuple #[.int .i64 0, .int .i64 3] := by
  refine ok_enter Tryz.func135 rfl Tryz.ntmps135 rfl ?_
  focus (refine gc_seq ?_; refine gc_region ?_; refine gM rfl rfl (by conv => (lhs; whnf)) ?_; refine gM rfl rfl (by conv => (lhs; whnf)) ?_; refine gO ?_; refine gc_seq ?_; refine gc_seq ?_; refine gc_region ?_; refine gM rfl rfl (by conv => (lhs; whnf)) ?_; refine gC rfl rfl rfl rfl rfl ?_; refine gM rfl rfl (by conv => (lhs; whnf)) ?_; refine gw_guard_dec rfl rfl (fun _ => ?_) (fun _ => ?_); refine gU rfl ?_; refine gU rfl ?_; apply gw_d; exact det_pick_t (v := .bool _) rfl rfl rfl rfl; refine gM rfl rfl (by conv => (lhs; whnf)) ?_; refine gU rfl ?_; refine gU rfl ?_; apply gw_d; exact det_pick_t (v := .bool _) rfl rfl rfl rfl; refine gM rfl rfl (by conv => (lhs; whnf)) ?_; refine gU rfl ?_; refine gU rfl ?_; apply gw_d; exact det_pick_t (v := .bool _) rfl rfl rfl rfl; refine gM rfl rfl (by conv => (lhs; whnf)) ?_; refine gU rfl ?_; refine gU rfl ?_; apply gw_d; exact det_pick_t (v := .bool _) rfl rfl rfl rfl; refine gM rfl rfl (by conv => (lhs; whnf)) ?_; refine gU rfl ?_; refine gU rfl ?_; refine gU rfl ?_; apply gw_d; exact det_pick_t (v := .bool _) rfl rfl rfl rfl; refine gO ?_; refine gc_if_true rfl ?_; refine gc_seq ?_; refine gc_region ?_; refine gM rfl rfl (by conv => (lhs; whnf)) ?_; refine gM rfl rfl (by conv => (lhs; whnf)) ?_; refine gO ?_; refine gc_ret ?_; refine gx_then_ret ?_; rotate_left; refine gM rfl rfl (by conv => (lhs; whnf)) ?_; refine gC rfl rfl rfl rfl rfl ?_; apply gw_d; exact det_pick_f (v := .bool _) rfl rfl rfl rfl; refine gM rfl rfl (by conv => (lhs; whnf)) ?_; refine gw_guard_dec rfl rfl (fun _ => ?_) (fun _ => ?_); refine gU rfl ?_; refine gU rfl ?_; apply gw_d; exact det_pick_t (v := .bool _) rfl rfl rfl rfl; refine gM rfl rfl (by conv => (lhs; whnf)) ?_; refine gU rfl ?_; refine gU rfl ?_; apply gw_d; exact det_pick_t (v := .bool _) rfl rfl rfl rfl; refine gM rfl rfl (by conv => (lhs; whnf)) ?_; refine gU rfl ?_; refine gU rfl ?_; apply gw_d; exact det_pick_t (v := .bool _) rfl rfl rfl rfl; refine gM rfl rfl (by conv => (lhs; whnf)) ?_; refine gU rfl ?_; refine gU rfl ?_; refine gU rfl ?_; apply gw_d; exact det_pick_t (v := .bool _) rfl rfl rfl rfl; refine gO ?_; refine gc_if_true rfl ?_; refine gc_seq ?_; refine gc_region ?_; refine gM rfl rfl (by conv => (lhs; whnf)) ?_; refine gM rfl rfl (by conv => (lhs; whnf)) ?_; refine gO ?_; refine gc_ret ?_; refine gx_then_ret ?_; rotate_left; refine gM rfl rfl (by conv => (lhs; whnf)) ?_; refine gC rfl rfl rfl rfl rfl ?_; apply gw_d; exact det_pick_f (v := .bool _) rfl rfl rfl rfl; refine gM rfl rfl (by conv => (lhs; whnf)) ?_; refine gw_guard_dec rfl rfl (fun _ => ?_) (fun _ => ?_); refine gU rfl ?_; refine gU rfl ?_; apply gw_d; exact det_pick_t (v := .bool _) rfl rfl rfl rfl; refine gM rfl rfl (by conv => (lhs; whnf)) ?_; refine gU rfl ?_; refine gU rfl ?_; apply gw_d; exact det_pick_t (v := .bool _) rfl rfl rfl rfl; refine gM rfl rfl (by conv => (lhs; whnf)) ?_; refine gU rfl ?_; refine gU rfl ?_; refine gU rfl ?_; apply gw_d; exact det_pick_t (v := .bool _) rfl rfl rfl rfl; refine gO ?_; refine gc_if_true rfl ?_; refine gc_seq ?_; refine gc_region ?_; refine gM rfl rfl (by conv => (lhs; whnf)) ?_; refine gM rfl rfl (by conv => (lhs; whnf)) ?_; refine gO ?_; refine gc_ret ?_; refine gx_then_ret ?_; rotate_left; refine gM rfl rfl (by conv => (lhs; whnf)) ?_; refine gC rfl rfl rfl rfl rfl ?_; apply gw_d; exact det_pick_f (v := .bool _) rfl rfl rfl rfl; refine gM rfl rfl (by conv => (lhs; whnf)) ?_; refine gw_guard_dec rfl rfl (fun _ => ?_) (fun _ => ?_); refine gU rfl ?_; refine gU rfl ?_; apply gw_d; exact det_pick_t (v := .bool _) rfl rfl rfl rfl; refine gM rfl rfl (by conv => (lhs; whnf)) ?_; refine gU rfl ?_; refine gU rfl ?_; refine gU rfl ?_; apply gw_d; exact det_pick_t (v := .bool _) rfl rfl rfl rfl; refine gO ?_; refine gc_if_true rfl ?_; refine gc_seq ?_; refine gc_region ?_; refine gM rfl rfl (by conv => (lhs; whnf)) ?_; refine gM rfl rfl (by conv => (lhs; whnf)) ?_; refine gO ?_; refine gc_ret ?_; refine gx_then_ret ?_; rotate_left; refine gM rfl rfl (by conv => (lhs; whnf)) ?_; refine gC rfl rfl rfl rfl rfl ?_; apply gw_d; exact det_pick_f (v := .bool _) rfl rfl rfl rfl; refine gM rfl rfl (by conv => (lhs; whnf)) ?_; refine gw_guard_dec rfl rfl (fun _ => ?_) (fun _ => ?_); refine gU rfl ?_; refine gU rfl ?_; refine gU rfl ?_; apply gw_d; exact det_pick_t (v := .bool _) rfl rfl rfl rfl; refine gO ?_; refine gc_if_true rfl ?_; refine gc_seq ?_; refine gc_region ?_; refine gM rfl rfl (by conv => (lhs; whnf)) ?_; refine gM rfl rfl (by conv => (lhs; whnf)) ?_; refine gO ?_; refine gc_ret ?_; refine gx_then_ret ?_; rotate_left; refine gM rfl rfl (by conv => (lhs; whnf)) ?_; refine gM rfl rfl (by conv => (lhs; whnf)) ?_; refine gC rfl rfl rfl rfl rfl ?_; apply gw_d; exact det_pick_f (v := .bool _) rfl rfl rfl rfl; refine gO ?_; refine gc_if_dec rfl (fun _ => ?_) (fun _ => ?_); refine gc_seq ?_; refine gc_region ?_; refine gM rfl rfl (by conv => (lhs; whnf)) ?_; refine gM rfl rfl (by conv => (lhs; whnf)) ?_; refine gO ?_; refine gc_ret ?_; refine gx_then_ret ?_; rotate_left; refine gc_skip ?_; refine gx_next ?_; refine gc_seq ?_; refine gc_region ?_; refine gM rfl rfl (by conv => (lhs; whnf)) ?_; rotate_left)
  all_goals first | (refine gx_ret2 (u := .int _ _) (v := .int _ _) rfl rfl rfl (fun _ _ => ?_); rfl) | skip
  all_goals (exfalso; omega)
theorem partner_ok (w : World) (L a : Nat) (hL : 1 ≤ L ∧ L ≤ 1099511627776) (h : a ≤ L) : OkM Tryz.prog 135 [.int .i64 (L : Int), .int .i64 (L : Int), .bool false, .int .i64 (a : Int)].toArray w (fun x : Int => .tuple #[.int .i64 x, .int .i64 0]) (fun _ => []) := by
  have wL : IntKind.u64.wrap (L : Int) = (L : Int) := by rw [u64w]; omega
  have wa : IntKind.u64.wrap (a : Int) = (a : Int) := by rw [u64w]; omega
  have hhi : a * L / 18446744073709551616 < L := by
    rw [Nat.div_lt_iff_lt_mul (by omega)]
    have h1 : a * L ≤ L * L := Nat.mul_le_mul_right _ h
    have h2 : L * L < L * 18446744073709551616 := Nat.mul_lt_mul_of_pos_left (by omega) (by omega)
    omega
  have hM : ∀ (K : List Res) (w' : World), St w K w' → Ok Tryz.prog 163 [.int .u64 (a : Int), .int .u64 (L : Int)].toArray w' fun r _ => r = .tuple #[.int .u64 ((a * L / 18446744073709551616 : Nat) : Int), .int .u64 ((a * L % 18446744073709551616 : Nat) : Int)] := fun K w' _ => mul64_ok w' a L (by omega) (by omega)
  have hlo : a * L % 18446744073709551616 < 18446744073709551616 := Nat.mod_lt _ (by omega)
  generalize a * L / 18446744073709551616 = hi at *
  generalize a * L % 18446744073709551616 = lo at *
  unfold OkM
  refine ok_enter Tryz.func135 rfl Tryz.ntmps135 rfl ?_
  focus (refine gc_seq ?_; refine gc_region ?_; refine gM rfl rfl (by conv => (lhs; whnf)) ?_; refine gM rfl rfl (by conv => (lhs; whnf)) ?_; refine gO ?_; refine gc_seq ?_; refine gc_seq ?_; refine gc_region ?_; refine gM rfl rfl (by conv => (lhs; whnf)) ?_; refine gC rfl rfl rfl rfl rfl ?_; refine gM rfl rfl (by conv => (lhs; whnf)) ?_; refine gw_guard_dec rfl rfl (fun _ => ?_) (fun _ => ?_); refine gU rfl ?_; refine gU rfl ?_; apply gw_d; exact det_pick_t (v := .bool _) rfl rfl rfl rfl; refine gM rfl rfl (by conv => (lhs; whnf)) ?_; refine gU rfl ?_; refine gU rfl ?_; apply gw_d; exact det_pick_t (v := .bool _) rfl rfl rfl rfl; refine gM rfl rfl (by conv => (lhs; whnf)) ?_; refine gU rfl ?_; refine gU rfl ?_; apply gw_d; exact det_pick_t (v := .bool _) rfl rfl rfl rfl; refine gM rfl rfl (by conv => (lhs; whnf)) ?_; refine gU rfl ?_; refine gU rfl ?_; apply gw_d; exact det_pick_t (v := .bool _) rfl rfl rfl rfl; refine gM rfl rfl (by conv => (lhs; whnf)) ?_; refine gU rfl ?_; refine gU rfl ?_; refine gU rfl ?_; apply gw_d; exact det_pick_t (v := .bool _) rfl rfl rfl rfl; refine gO ?_; refine gc_if_true rfl ?_; refine gc_seq ?_; refine gc_region ?_; refine gM rfl rfl (by conv => (lhs; whnf)) ?_; refine gM rfl rfl (by conv => (lhs; whnf)) ?_; refine gO ?_; refine gc_ret ?_; refine gx_then_ret ?_; rotate_left; refine gM rfl rfl (by conv => (lhs; whnf)) ?_; refine gC rfl rfl rfl rfl rfl ?_; apply gw_d; exact det_pick_f (v := .bool _) rfl rfl rfl rfl; refine gM rfl rfl (by conv => (lhs; whnf)) ?_; refine gw_guard_dec rfl rfl (fun _ => ?_) (fun _ => ?_); refine gU rfl ?_; refine gU rfl ?_; apply gw_d; exact det_pick_t (v := .bool _) rfl rfl rfl rfl; refine gM rfl rfl (by conv => (lhs; whnf)) ?_; refine gU rfl ?_; refine gU rfl ?_; apply gw_d; exact det_pick_t (v := .bool _) rfl rfl rfl rfl; refine gM rfl rfl (by conv => (lhs; whnf)) ?_; refine gU rfl ?_; refine gU rfl ?_; apply gw_d; exact det_pick_t (v := .bool _) rfl rfl rfl rfl; refine gM rfl rfl (by conv => (lhs; whnf)) ?_; refine gU rfl ?_; refine gU rfl ?_; refine gU rfl ?_; apply gw_d; exact det_pick_t (v := .bool _) rfl rfl rfl rfl; refine gO ?_; refine gc_if_true rfl ?_; refine gc_seq ?_; refine gc_region ?_; refine gM rfl rfl (by conv => (lhs; whnf)) ?_; refine gM rfl rfl (by conv => (lhs; whnf)) ?_; refine gO ?_; refine gc_ret ?_; refine gx_then_ret ?_; rotate_left; refine gM rfl rfl (by conv => (lhs; whnf)) ?_; refine gC rfl rfl rfl rfl rfl ?_; apply gw_d; exact det_pick_f (v := .bool _) rfl rfl rfl rfl; refine gM rfl rfl (by conv => (lhs; whnf)) ?_; refine gM rfl rfl (by conv => (lhs; whnf)) ?_; refine gC rfl rfl rfl rfl rfl ?_; apply gw_d; exact det_pick_f (v := .bool _) rfl rfl rfl rfl; refine gM rfl rfl (by conv => (lhs; whnf)) ?_; refine gw_guard_dec rfl rfl (fun _ => ?_) (fun _ => ?_); refine gU rfl ?_; refine gU rfl ?_; apply gw_d; exact det_pick_t (v := .bool _) rfl rfl rfl rfl; refine gM rfl rfl (by conv => (lhs; whnf)) ?_; refine gU rfl ?_; refine gU rfl ?_; refine gU rfl ?_; apply gw_d; exact det_pick_t (v := .bool _) rfl rfl rfl rfl; refine gO ?_; refine gc_if_true rfl ?_; refine gc_seq ?_; refine gc_region ?_; refine gM rfl rfl (by conv => (lhs; whnf)) ?_; refine gM rfl rfl (by conv => (lhs; whnf)) ?_; refine gO ?_; refine gc_ret ?_; refine gx_then_ret ?_; rotate_left; refine gM rfl rfl (by conv => (lhs; whnf)) ?_; refine gC rfl rfl rfl rfl rfl ?_; apply gw_d; exact det_pick_f (v := .bool _) rfl rfl rfl rfl; refine gM rfl rfl (by conv => (lhs; whnf)) ?_; refine gM rfl rfl (by conv => (lhs; whnf)) ?_; refine gM rfl rfl (by conv => (lhs; whnf)) ?_; refine gC rfl rfl rfl rfl rfl ?_; apply gw_d; exact det_pick_f (v := .bool _) rfl rfl rfl rfl; refine gO ?_; refine gc_if_dec rfl (fun _ => ?_) (fun _ => ?_); refine gc_seq ?_; refine gc_region ?_; refine gM rfl rfl (by conv => (lhs; whnf)) ?_; refine gM rfl rfl (by conv => (lhs; whnf)) ?_; refine gO ?_; refine gc_ret ?_; refine gx_then_ret ?_; rotate_left; refine gc_skip ?_; refine gx_next ?_; refine gc_seq ?_; refine gc_region ?_; refine gM rfl rfl (by conv => (lhs; whnf)) ?_; apply gw_d; exact det_conv rfl rfl rfl wa; refine gM rfl rfl (by conv => (lhs; whnf)) ?_; apply gw_d; exact det_conv rfl rfl rfl wL; apply gw_d; exact w_call rfl rfl (hM _) rfl; refine gM rfl rfl (by conv => (lhs; whnf)) ?_; apply gw_d; exact det_extract rfl rfl rfl (by conv => (lhs; whnf)); apply gw_d; exact det_extract rfl rfl rfl (by conv => (lhs; whnf)); refine gM rfl rfl (by conv => (lhs; whnf)) ?_; refine gM rfl rfl (by conv => (lhs; whnf)) ?_; refine gN ?_; refine gM rfl rfl (by conv => (lhs; whnf)) ?_; refine gM rfl rfl (by conv => (lhs; whnf)) ?_; refine gM rfl rfl (by conv => (lhs; whnf)) ?_; apply gw_d; exact det_conv rfl rfl rfl wL; rotate_left)
  all_goals first | (exfalso; omega) | skip
  refine gw_callm rfl (fun w s => div64_ok w hi lo L hlo (by omega) hhi) rfl (fun x => ?_)
  focus (refine gM rfl rfl (by conv => (lhs; whnf)) ?_; apply gw_d; exact det_extract rfl rfl rfl (by conv => (lhs; whnf)); apply gw_d; exact det_extract rfl rfl rfl (by conv => (lhs; whnf)); refine gM rfl rfl (by conv => (lhs; whnf)) ?_; refine gM rfl rfl (by conv => (lhs; whnf)) ?_; refine gO ?_; refine gc_seq ?_; refine gc_seq ?_; refine gc_region ?_; refine gM rfl rfl (by conv => (lhs; whnf)) ?_; apply gw_d; exact det_mulU (i := 2) rfl rfl rfl rfl; refine gM rfl rfl (by conv => (lhs; whnf)) ?_; apply gw_d; exact det_conv rfl rfl rfl wL; refine gC rfl rfl rfl rfl rfl ?_; refine gO ?_; refine gc_if_dec rfl (fun _ => ?_) (fun _ => ?_); refine gc_region ?_; refine gM rfl rfl (by conv => (lhs; whnf)) ?_; apply gw_d; exact det_addU (j := 1) rfl rfl rfl rfl; refine gM rfl rfl (by conv => (lhs; whnf)) ?_; refine gN ?_; refine gM rfl rfl (by conv => (lhs; whnf)) ?_; apply gw_d; exact det_conv rfl rfl rfl rfl; refine gM rfl rfl (by conv => (lhs; whnf)) ?_; refine gO ?_; refine gc_seq ?_; refine gc_seq ?_; refine gc_region ?_; refine gM rfl rfl (by conv => (lhs; whnf)) ?_; refine gO ?_; refine gc_if_false rfl ?_; refine gc_skip ?_; refine gx_next ?_; refine gc_seq ?_; refine gc_region ?_; refine gM rfl rfl (by conv => (lhs; whnf)) ?_; refine gM rfl rfl (by conv => (lhs; whnf)) ?_; refine gM rfl rfl (by conv => (lhs; whnf)) ?_; refine gO ?_; refine gc_ret ?_; rotate_left; refine gc_skip ?_; refine gx_next ?_; refine gc_seq ?_; refine gc_region ?_; refine gM rfl rfl (by conv => (lhs; whnf)) ?_; apply gw_d; exact det_conv rfl rfl rfl rfl; refine gM rfl rfl (by conv => (lhs; whnf)) ?_; refine gO ?_; refine gc_seq ?_; refine gc_seq ?_; refine gc_region ?_; refine gM rfl rfl (by conv => (lhs; whnf)) ?_; refine gO ?_; refine gc_if_false rfl ?_; refine gc_skip ?_; refine gx_next ?_; refine gc_seq ?_; refine gc_region ?_; refine gM rfl rfl (by conv => (lhs; whnf)) ?_; refine gM rfl rfl (by conv => (lhs; whnf)) ?_; refine gM rfl rfl (by conv => (lhs; whnf)) ?_; refine gO ?_; refine gc_ret ?_; rotate_left)
  all_goals exact gx_ret2 (u := .int _ _) (v := .int _ _) rfl rfl rfl (fun w' s => ⟨_, rfl, trivial⟩)
end Go.Proofs.YtckhibfbdnoigaaGreat

/- Contracts: square roots and lengths of polylines. -/
namespace Go.Proofs.YtckhibfbdnoigaaGreat
open Go.RowKit
set_option maxRecDepth 100000
set_option maxHeartbeats 4000000

section
variable {P : Program} {ops : Array Oper} {N : Nat} {w0 : World} {L : List Res} {e : Env} {o : Oper} {t : TypeId} {x y : Operand}
theorem det_shl {k k' : IntKind} {i j r : Int} {yt : TypeId} (hop : o.op = .binOp .shl t x y yt) (hw : wantedE N ops e o = true) (hx : ev N e x = .int k i) (hy : ev N e y = .int k' j) (hj : 0 ≤ j) (hr : k.wrap (i * 2 ^ (min j.toNat k.bits)) = r) : Det P ops N w0 L o e (.int k r) :=
  det_pure hw fun w => by
    have : ¬ j < 0 := by omega
    unfold execOp
    simp [hop, hx, hy, binOp, Op.shift, this, hr, eqGuard]
end
theorem two_pow_cast (k : Nat) : (2 : Int) ^ k = ((2 ^ k : Nat) : Int) := by
  rw [Int.natCast_pow]
  rfl
theorem isq_small {n : Nat} (h : n < 2) : isq n = n := by
  obtain rfl | rfl : n = 0 ∨ n = 1 := by omega
  · rfl
  · rfl
/-- The first x is above the root. -/
theorem first_x {n : Nat} (h : n < 18446744073709551616) : isq n ≤ 2 ^ ((l64 n + 1) / 2) ∧ (l64 n + 1) / 2 ≤ 32 := by
  obtain ⟨h1, h2⟩ := l64_lt h
  refine ⟨isq_le ?_, by omega⟩
  have h3 : 2 ^ l64 n ≤ 2 ^ ((l64 n + 1) / 2) * 2 ^ ((l64 n + 1) / 2) := by
    rw [← Nat.pow_add]
    exact Nat.pow_le_pow_right (by decide) (by omega)
  have h4 : 2 ^ ((l64 n + 1) / 2) * 2 ^ ((l64 n + 1) / 2) ≤ (2 ^ ((l64 n + 1) / 2) + 1) * (2 ^ ((l64 n + 1) / 2) + 1) := Nat.mul_le_mul (by omega) (by omega)
  omega
theorem root_ok (w : World) (n : Nat) (hn : n ≤ 9223372036854775807) : Ok Tryz.prog 189 [.int .i64 (n : Int)].toArray w fun r _ => r = .int .i64 (isq n : Int) := by
  obtain ⟨f1, f2⟩ := first_x (n := n) (by omega)
  have hl := (l64_lt (z := n) (by omega)).2
  have hp32 : 2 ^ ((l64 n + 1) / 2) ≤ 2 ^ 32 := Nat.pow_le_pow_right (by decide) f2
  have hp0 : 0 < 2 ^ ((l64 n + 1) / 2) := Nat.two_pow_pos _
  have hshl : IntKind.i64.wrap (1 * 2 ^ (min (((l64 n : Int) + 1) / 2).toNat IntKind.i64.bits)) = ((2 ^ ((l64 n + 1) / 2) : Nat) : Int) := by
    have e1 : (((l64 n : Int) + 1) / 2).toNat = (l64 n + 1) / 2 := by omega
    have e2 : IntKind.i64.bits = 64 := rfl
    rw [e1, e2, Nat.min_eq_left (by omega), Int.one_mul, two_pow_cast, IntKind.wrap_i64]
    have : (2 : Nat) ^ 32 = 4294967296 := rfl
    omega
  have hw64 : IntKind.u64.wrap (n : Int) = (n : Int) := by
    have : IntKind.u64.wrap (n : Int) = (n : Int) % 18446744073709551616 := rfl
    rw [this]
    omega
  refine ok_enter Tryz.func189 rfl Tryz.ntmps189 rfl ?_
  focus (refine gc_seq ?_; refine gc_region ?_; refine gM rfl rfl (by conv => (lhs; whnf)) ?_; refine gO ?_; refine gc_seq ?_; refine gc_seq ?_; refine gc_region ?_; refine gM rfl rfl (by conv => (lhs; whnf)) ?_; refine gC rfl rfl rfl rfl rfl ?_; refine gO ?_)
  refine gc_if_dec rfl (fun h => ?_) (fun h => ?_)
  · focus (refine gc_seq ?_; refine gc_region ?_; refine gM rfl rfl (by conv => (lhs; whnf)) ?_; refine gM rfl rfl (by conv => (lhs; whnf)) ?_; refine gO ?_; refine gc_ret ?_; refine gx_then_ret ?_)
    refine gx_ret1 (v := .int _ _) rfl rfl (fun _ _ => ?_)
    rw [isq_small (by omega)]
  focus (refine gc_skip ?_; refine gx_next ?_; refine gc_seq ?_; refine gc_region ?_; refine gM rfl rfl (by conv => (lhs; whnf)) ?_; apply gw_d; exact det_conv rfl rfl rfl hw64; apply gw_d; exact w_call rfl rfl (fun w _ => len_ok w n (by omega)) rfl; apply gw_d; exact det_ar rfl rfl rfl rfl rfl (by omega); apply gw_d; exact det_quo rfl rfl rfl rfl (by omega) (by omega) (by omega); apply gw_d; exact det_shl rfl rfl rfl rfl (by omega) hshl; refine gM rfl rfl (by conv => (lhs; whnf)) ?_; refine gO ?_; refine gc_block ?_)
  refine gc_loopK (σ := Nat) [14, 15, 16, 17, 18, 19, 4, 20, 21, 22, 23, 2, 24, 3] (fun x => [(3, .int .i64 (x : Int))]) (fun x => isq n ≤ x ∧ 0 < x ∧ x ≤ 4294967296) (fun x => x) (2 ^ ((l64 n + 1) / 2)) ⟨f1, hp0, hp32⟩ ⟨rfl, trivial⟩ ?_
  rintro x base ⟨hx1, hx2, hx3⟩
  obtain ⟨s1, s2⟩ := nt_step hx2 hx1
  have hdiv : (n : Int) / (x : Int) = ((n / x : Nat) : Int) := rfl
  have hq : n / x ≤ x + 2 := by
    have h1 := (isq_spec n).2
    have h2 : (isq n + 1) * (isq n + 1) ≤ (x + 1) * (x + 1) := Nat.mul_le_mul (by omega) (by omega)
    have h3 : (x + 1) * (x + 1) = x * (x + 2) + 1 := by
      simp only [Nat.add_mul, Nat.mul_add]
      omega
    exact Nat.div_le_of_le_mul (by omega)
  have hi1 : 1 ≤ isq n := le_isq (by omega)
  have hqi : (n : Int) / (x : Int) ≤ x + 2 ∧ 0 ≤ (n : Int) / (x : Int) := by
    rw [hdiv]
    exact ⟨Int.ofNat_le.2 hq, Int.natCast_nonneg _⟩
  have hy : ((x : Int) + (n : Int) / (x : Int)) / 2 = (((x + n / x) / 2 : Nat) : Int) := by
    rw [hdiv]
    omega
  focus (refine gc_block ?_; refine gc_seq ?_; refine gc_region ?_; refine gM rfl rfl (by conv => (lhs; whnf)) ?_; refine gM rfl rfl (by conv => (lhs; whnf)) ?_; refine gM rfl rfl (by conv => (lhs; whnf)) ?_; apply gw_d; exact det_quo rfl rfl rfl rfl (by omega) (by omega) (by omega); apply gw_d; exact det_ar rfl rfl rfl rfl rfl (by omega); apply gw_d; exact det_quo rfl rfl rfl rfl (by omega) (by omega) (by omega); refine gM rfl rfl (by conv => (lhs; whnf)) ?_; refine gO ?_; refine gc_seq ?_; refine gc_seq ?_; refine gc_region ?_; refine gM rfl rfl (by conv => (lhs; whnf)) ?_; refine gM rfl rfl (by conv => (lhs; whnf)) ?_; refine gC rfl rfl rfl rfl rfl ?_; refine gO ?_)
  refine gc_if_dec rfl (fun h2 => ?_) (fun h2 => ?_)
  · focus (refine gc_seq ?_; refine gc_region ?_; refine gM rfl rfl (by conv => (lhs; whnf)) ?_; refine gM rfl rfl (by conv => (lhs; whnf)) ?_; refine gO ?_; refine gc_ret ?_; refine gx_then_ret ?_; refine gx_block_ret ?_; refine gx_then_ret ?_; refine gx_block_ret ?_)
    refine gx_ret1 (v := .int _ _) rfl rfl (fun _ _ => ?_)
    rw [hy] at h2
    have := s2 (by omega)
    rw [← this]
  · rw [hy] at h2 ⊢
    focus (refine gc_skip ?_; refine gx_next ?_; refine gc_region ?_; refine gM rfl rfl (by conv => (lhs; whnf)) ?_; refine gM rfl rfl (by conv => (lhs; whnf)) ?_; refine gw_nil ?_; refine gx_block ?_)
    exact gx_round ((x + n / x) / 2) ⟨s1, by omega, by omega⟩ (by omega) (by repeat (first | exact Keeps.refl | refine Keeps.upd rfl ?_ | refine Keeps.sets rfl ?_ | refine Keeps.havoc rfl ?_)) ⟨rfl, trivial⟩ (Sub.all _)
/-! ### Segments and polylines -/
def segN (p q : Int × Int) : Nat := (1000000 * ((q.1 - p.1) * (q.1 - p.1) + (q.2 - p.2) * (q.2 - p.2))).toNat
def segL (p q : Int × Int) : Int := (isq (segN p q) : Int)
theorem sq_range {d : Int} (h : -2097152 ≤ d ∧ d ≤ 2097152) : 0 ≤ d * d ∧ d * d ≤ 4398046511104 := by
  rcases Int.le_total 0 d with h1 | h1
  · have a := Int.mul_nonneg h1 h1
    have b : d * d ≤ 2097152 * 2097152 := Int.mul_le_mul h.2 h.2 h1 (by decide)
    omega
  · have e : d * d = (-d) * (-d) := by rw [Int.neg_mul_neg]
    have h2 : 0 ≤ -d := by omega
    have a := Int.mul_nonneg h2 h2
    have b : (-d) * (-d) ≤ 2097152 * 2097152 := Int.mul_le_mul (by omega) (by omega) h2 (by decide)
    omega
def nearP (p : Int × Int) : Prop := (-1048576 ≤ p.1 ∧ p.1 ≤ 1048576) ∧ (-1048576 ≤ p.2 ∧ p.2 ≤ 1048576)
theorem segment_ok (w : World) (p q : Int × Int) (hp : nearP p) (hq : nearP q) : Ok Tryz.prog 162 [.agg #[.int .i64 p.1, .int .i64 p.2], .agg #[.int .i64 q.1, .int .i64 q.2]].toArray w fun r _ => r = .int .i64 (segL p q) := by
  obtain ⟨p1, p2⟩ := hp
  obtain ⟨q1, q2⟩ := hq
  have s1 := sq_range (d := q.1 - p.1) (by omega)
  have s2 := sq_range (d := q.2 - p.2) (by omega)
  have hv : ((segN p q : Nat) : Int) = 1000000 * ((q.1 - p.1) * (q.1 - p.1) + (q.2 - p.2) * (q.2 - p.2)) := by
    unfold segN
    omega
  have hR : ∀ (L : List Res) (w' : World), St w L w' → Ok Tryz.prog 189 [.int .i64 (1000000 * ((q.1 - p.1) * (q.1 - p.1) + (q.2 - p.2) * (q.2 - p.2)))].toArray w' fun r _ => r = .int .i64 (segL p q) := fun L w' _ => by
    have := root_ok w' (segN p q) (by omega)
    rw [hv] at this
    exact this
  refine ok_enter Tryz.func162 rfl Tryz.ntmps162 rfl ?_
  focus (refine gc_seq ?_; refine gc_region ?_; refine gw_boxd (v := .agg _) rfl rfl (fun _ => ?_); refine gw_boxd (v := .agg _) rfl rfl (fun _ => ?_); refine gM rfl rfl (by conv => (lhs; whnf)) ?_; refine gO ?_; refine gc_seq ?_)
  refine gc_draw2 11 (by kernel_rfl) (by kernel_rfl) ?_
  focus (apply gd_d; exact w_field rfl rfl rfl; apply gd_d; exact w_load_box rfl rfl rfl .here rfl; apply gd_d; exact w_field rfl rfl rfl; apply gd_d; exact w_load_box rfl rfl rfl (.there .here) rfl; apply gd_d; exact det_ar rfl rfl rfl rfl rfl (by omega); apply gd_d; exact w_field rfl rfl rfl; apply gd_d; exact w_load_box rfl rfl rfl .here rfl; apply gd_d; exact w_field rfl rfl rfl; apply gd_d; exact w_load_box rfl rfl rfl (.there .here) rfl; apply gd_d; exact det_ar rfl rfl rfl rfl rfl (by omega); apply gd_d; exact det_m rfl rfl (by conv => (lhs; whnf)); refine gd_nil ?_; refine gM rfl rfl (by conv => (lhs; whnf)) ?_; refine gN ?_; refine gM rfl rfl (by conv => (lhs; whnf)) ?_; refine gM rfl rfl (by conv => (lhs; whnf)) ?_; apply gw_d; exact det_ar rfl rfl rfl rfl rfl (by omega); refine gM rfl rfl (by conv => (lhs; whnf)) ?_; refine gM rfl rfl (by conv => (lhs; whnf)) ?_; apply gw_d; exact det_ar rfl rfl rfl rfl rfl (by omega); apply gw_d; exact det_ar rfl rfl rfl rfl rfl (by omega); apply gw_d; exact det_ar rfl rfl rfl rfl rfl (by omega); apply gw_d; exact w_call rfl rfl (hR _) rfl; refine gM rfl rfl (by conv => (lhs; whnf)) ?_; refine gO ?_; refine gc_ret ?_)
  refine gx_ret1 (v := .int _ _) rfl rfl (fun _ _ => ?_)
  rfl
end Go.Proofs.YtckhibfbdnoigaaGreat

/- Contracts: lengths of polylines. -/
namespace Go.Proofs.YtckhibfbdnoigaaGreat
open Go.RowKit
set_option maxRecDepth 100000
set_option maxHeartbeats 4000000

theorem segN_range {p q : Int × Int} (hp : nearP p) (hq : nearP q) : segN p q ≤ 8796093022208000000 ∧ ((segN p q : Nat) : Int) = 1000000 * ((q.1 - p.1) * (q.1 - p.1) + (q.2 - p.2) * (q.2 - p.2)) := by
  obtain ⟨p1, p2⟩ := hp
  obtain ⟨q1, q2⟩ := hq
  have s1 := sq_range (d := q.1 - p.1) (by omega)
  have s2 := sq_range (d := q.2 - p.2) (by omega)
  unfold segN
  omega
theorem segL_range {p q : Int × Int} (hp : nearP p) (hq : nearP q) : 0 ≤ segL p q ∧ segL p q ≤ 4294967296 := by
  have h := (segN_range hp hq).1
  refine ⟨Int.natCast_nonneg _, ?_⟩
  have : isq (segN p q) ≤ 4294967296 := isq_le (by omega)
  unfold segL
  omega
theorem sq_pos {d : Int} (h : ¬ d = 0) : 1 ≤ d * d := by
  rcases Int.lt_or_gt_of_ne h with h1 | h1
  · have := Int.mul_pos_of_neg_of_neg h1 h1
    omega
  · have := Int.mul_pos h1 h1
    omega
theorem segL_pos {p q : Int × Int} (hp : nearP p) (hq : nearP q) (hne : ¬ p = q) : 1 ≤ segL p q := by
  have h := (segN_range hp hq).2
  have hd : ¬ (q.1 - p.1 = 0) ∨ ¬ (q.2 - p.2 = 0) := by
    by_cases h1 : q.1 - p.1 = 0
    · right
      intro h2
      exact hne (Prod.ext (by omega) (by omega))
    · exact .inl h1
  have s1 : 0 ≤ (q.1 - p.1) * (q.1 - p.1) := (sq_range (d := q.1 - p.1) (by obtain ⟨a, b⟩ := hp; obtain ⟨c, d⟩ := hq; omega)).1
  have s2 : 0 ≤ (q.2 - p.2) * (q.2 - p.2) := (sq_range (d := q.2 - p.2) (by obtain ⟨a, b⟩ := hp; obtain ⟨c, d⟩ := hq; omega)).1
  have h3 : 1 ≤ segN p q := by
    rcases hd with h1 | h1
    · have := sq_pos h1
      omega
    · have := sq_pos h1
      omega
  have : 1 ≤ isq (segN p q) := le_isq (by omega)
  unfold segL
  omega
def lenS (l : List (Int × Int)) : Nat → Int
  | 0 => 0
  | k + 1 => lenS l k + segL (gS l k) (gS l (k + 1))
def lenL (l : List (Int × Int)) : Int := lenS l (l.length - 1)
structure Line (l : List (Int × Int)) : Prop where
  two : 2 ≤ l.length
  le : l.length ≤ 40
  near : ∀ k, k < l.length → nearP (gS l k)
  moves : ∀ k, k + 1 < l.length → ¬ gS l k = gS l (k + 1)
theorem line_good {l : List (Int × Int)} (h : plineE l = 0) : Line l := by
  unfold plineE at h
  split at h
  · cases h
  rename_i h1
  split at h
  · cases h
  rename_i h2
  split at h
  · cases h
  rename_i h3
  split at h
  · cases h
  rename_i h4
  refine ⟨by omega, by omega, fun k hk => ?_, fun k hk hc => ?_⟩
  · have h5 : l.any outP = false := by simpa using h3
    have h6 := List.any_eq_false.1 h5 l[k] (List.getElem_mem hk)
    rw [gS_get hk]
    unfold nearP
    simp [outP, outB] at h6
    omega
  · exact h4 (still_yes (by omega) hc)
theorem lenS_range {l : List (Int × Int)} (h : Line l) : ∀ k, k < l.length → 0 ≤ lenS l k ∧ lenS l k ≤ 4294967296 * k
  | 0, _ => ⟨Int.le_refl _, Int.le_refl _⟩
  | k + 1, hk => by
    have h1 := lenS_range h k (by omega)
    have h2 := segL_range (h.near k (by omega)) (h.near (k + 1) hk)
    show 0 ≤ lenS l k + segL (gS l k) (gS l (k + 1)) ∧ lenS l k + segL (gS l k) (gS l (k + 1)) ≤ _
    omega
theorem lenL_range {l : List (Int × Int)} (h : Line l) : 1 ≤ lenL l ∧ lenL l ≤ 1099511627776 := by
  have h2 := h.two
  have h3 := h.le
  obtain ⟨m, hm⟩ : ∃ m, l.length - 1 = m + 1 := ⟨l.length - 2, by omega⟩
  unfold lenL
  rw [hm]
  have h1 := lenS_range h m (by omega)
  have h5 := segL_range (h.near m (by omega)) (h.near (m + 1) (by omega))
  have h6 := segL_pos (h.near m (by omega)) (h.near (m + 1) (by omega)) (h.moves m (by omega))
  show 1 ≤ lenS l m + segL (gS l m) (gS l (m + 1)) ∧ lenS l m + segL (gS l m) (gS l (m + 1)) ≤ _
  omega
theorem length_ok (w : World) (v : Value) (l : List (Int × Int)) (hl : Sl rSpot w w.heap.size v l) (hp : plineE l = 0) : Ok Tryz.prog 134 [v].toArray w fun r _ => r = .tuple #[.int .i64 (lenL l), .int .i64 0] := by
  have hG := line_good hp
  have h2 := hG.two
  have h40 := hG.le
  have hC : ∀ (L : List Res) (w' : World), St w L w' → Ok Tryz.prog 130 [v].toArray w' fun r _ => r = .int .i64 0 := fun L w' s => by
    have := polyline_ok w' v l (hl.later s)
    rw [hp] at this
    exact this
  obtain ⟨ad, c, rfl, hc, hm, hb, hcell⟩ := hl.spot' (by omega)
  refine ok_enter Tryz.func134 rfl Tryz.ntmps134 rfl ?_
  focus (refine gc_seq ?_; refine gc_region ?_; refine gM rfl rfl (by conv => (lhs; whnf)) ?_; refine gM rfl rfl (by conv => (lhs; whnf)) ?_; refine gO ?_; refine gc_seq ?_; refine gc_seq ?_; refine gc_region ?_; refine gM rfl rfl (by conv => (lhs; whnf)) ?_; apply gw_d; exact w_call rfl rfl (hC _) rfl; refine gM rfl rfl (by conv => (lhs; whnf)) ?_; refine gN ?_; refine gM rfl rfl (by conv => (lhs; whnf)) ?_; refine gC rfl rfl rfl rfl rfl ?_; refine gO ?_)
  refine gc_if_dec rfl (fun h => absurd rfl h) (fun _ => ?_)
  focus (refine gc_skip ?_; refine gx_next ?_; refine gc_seq ?_; refine gc_region ?_; refine gM rfl rfl (by conv => (lhs; whnf)) ?_; refine gO ?_; refine gc_seq ?_; refine gc_seq ?_; refine gc_region ?_; refine gM rfl rfl (by conv => (lhs; whnf)) ?_; refine gL rfl rfl rfl ?_; apply gw_d; exact det_ar rfl rfl rfl rfl rfl (by omega); refine gM rfl rfl (by conv => (lhs; whnf)) ?_; refine gO ?_; refine gc_block ?_)
  refine gc_loopK (σ := Nat) [16, 17, 6, 18, 19, 20, 21, 22, 23, 24, 25, 26, 27, 28, 29, 5, 30, 15] (fun k => [(15, .int .i64 k), (5, .int .i64 (lenS l k))]) (fun k => k ≤ l.length - 1) (fun k => l.length - k) 0 (Nat.zero_le _) ⟨rfl, rfl, trivial⟩ ?_
  rintro k base hk
  focus (refine gc_seq ?_; refine gc_region ?_; refine gC rfl rfl rfl rfl rfl ?_; refine gO ?_; refine gc_seq ?_)
  refine gc_if_dec rfl (fun h => ?_) (fun h => ?_)
  · have hk1 : k + 1 < l.length := by omega
    have hr := lenS_range hG k (by omega)
    have hsr := segL_range (hG.near k (by omega)) (hG.near (k + 1) hk1)
    have hc0 := hcell k (by omega)
    have hc1 := hcell (k + 1) hk1
    have hsg : ∀ (L : List Res) (w' : World), St w L w' → Ok Tryz.prog 162 [.agg #[.int .i64 (gS l k).1, .int .i64 (gS l k).2], .agg #[.int .i64 (gS l (k + 1)).1, .int .i64 (gS l (k + 1)).2]].toArray w' fun r _ => r = .int .i64 (segL (gS l k) (gS l (k + 1))) := fun L w' _ => segment_ok w' _ _ (hG.near k (by omega)) (hG.near (k + 1) hk1)
    focus (refine gc_skip ?_; refine gx_next ?_; refine gc_seq ?_; refine gc_block ?_; refine gc_seq ?_; refine gc_region ?_; refine gM rfl rfl (by conv => (lhs; whnf)) ?_; refine gM rfl rfl (by conv => (lhs; whnf)) ?_; refine gO ?_)
    refine gc_draw 12 (by kernel_rfl) (by kernel_rfl) ?_
    focus (apply gd_d; exact det_m rfl rfl (by conv => (lhs; whnf)); apply gd_d; exact det_m rfl rfl (by conv => (lhs; whnf)); apply gd_d; exact det_m rfl rfl (by conv => (lhs; whnf)); apply gd_d; exact w_index rfl rfl rfl rfl (by with_reducible exact rfl) (by omega); apply gd_d; exact w_load_elem rfl rfl rfl (by assumption) (by assumption) (by rfl); apply gd_d; exact det_m rfl rfl (by conv => (lhs; whnf)); apply gd_d; exact det_m rfl rfl (by conv => (lhs; whnf)); apply gd_d; exact det_ar rfl rfl rfl rfl rfl (by omega); apply gd_d; exact w_index rfl rfl rfl rfl (by with_reducible exact castA _) (by omega); apply gd_d; exact w_load_elem rfl rfl rfl (by assumption) (by assumption) (by rfl); apply gd_d; exact w_call rfl rfl (hsg _) rfl; apply gd_d; exact det_ar rfl rfl rfl rfl rfl (by omega); refine gd_nil ?_; refine gM rfl rfl (by conv => (lhs; whnf)) ?_; refine gw_nil ?_; refine gx_block ?_; refine gx_next ?_; refine gc_region ?_; apply gw_d; exact det_ar rfl rfl rfl rfl rfl (by omega); refine gM rfl rfl (by conv => (lhs; whnf)) ?_; refine gw_nil ?_)
    exact gx_round (k + 1) (by omega) (by omega) (by repeat (first | exact Keeps.refl | refine Keeps.upd rfl ?_ | refine Keeps.sets rfl ?_ | refine Keeps.havoc rfl ?_)) ⟨rfl, rfl, trivial⟩ (Sub.all _)
  · obtain rfl : k = l.length - 1 := by omega
    focus (refine gc_exit ?_; refine gx_then_exit ?_; refine gx_then_exit ?_; refine gx_block_exit ?_; refine gx_next ?_; refine gc_seq ?_; refine gc_region ?_; refine gM rfl rfl (by conv => (lhs; whnf)) ?_; refine gM rfl rfl (by conv => (lhs; whnf)) ?_; refine gM rfl rfl (by conv => (lhs; whnf)) ?_; refine gO ?_; refine gc_ret ?_)
    refine gx_ret2 (u := .int _ _) (v := .int _ _) rfl rfl rfl (fun _ _ => ?_)
    rfl
end Go.Proofs.YtckhibfbdnoigaaGreat

/- Contracts: formulas that are names; numbers that are 0. -/
namespace Go.Proofs.YtckhibfbdnoigaaGreat
open Go.RowKit
set_option maxRecDepth 100000
set_option maxHeartbeats 1000000

def rU32 : Rp Int where
  size := 1
  rep _ _ i cs := cs = [.int .u32 i]
  len h := by rw [h]; rfl
  mono _ h := h
  grow _ h := h
theorem Sl.u32 {w : World} {B : Nat} {v : Value} {l : List Int} (h : Sl rU32 w B v l) : ∃ A c, v = .slice A l.length c ∧ l.length ≤ c ∧ l.length ≤ 9223372036854775807 ∧
    ∀ k (hk : k < l.length), ∃ ad, A = some ad ∧ ad.block < B ∧ w.cell? (ad.add (k * 1)) = some (.int .u32 l[k]) := by
  obtain ⟨A, c, hv, h1, h2, h3⟩ := h
  refine ⟨A, c, hv, h1, by unfold maxLen at h2; omega, fun k hk => ?_⟩
  obtain ⟨ad, cs, ha, hlt, hc, hr⟩ := h3 k hk
  obtain rfl := hr
  exact ⟨ad, ha, hlt, hc 0 _ rfl⟩
theorem Sl.none0 {α : Type} (R : Rp α) (w : World) (A : Option Addr) (c : Nat) (hc : c ≤ 1000) : Sl R w w.heap.size (.slice A 0 c) ([] : List α) :=
  ⟨A, c, rfl, Nat.zero_le _, by unfold maxLen; omega, fun k hk => by cases hk⟩

/-- The length without the zeros at the end. -/
def tl (l : List Int) : Nat → Nat
  | 0 => 0
  | n + 1 => if l.getD n 0 = 0 then tl l n else n + 1
theorem trim_ok (w : World) (A : Option Addr) (c : Nat) (l : List Int) (hl : Sl rU32 w w.heap.size (.slice A l.length c) l) :
    Ok Tryz.prog 180 [.slice A l.length c].toArray w fun r _ => r = .slice A (tl l l.length) c := by
  obtain ⟨A', c', hv, hc, hm, hcell⟩ := hl.u32
  injection hv with e1 e2 e3
  subst e1 e3
  refine ok_enter Tryz.func180 rfl Tryz.ntmps180 rfl ?_
  focus (refine gc_seq ?_; refine gc_region ?_; refine gM rfl rfl (by conv => (lhs; whnf)) ?_; refine gN ?_; refine gM rfl rfl (by conv => (lhs; whnf)) ?_; refine gL rfl rfl rfl ?_; refine gM rfl rfl (by conv => (lhs; whnf)) ?_; refine gO ?_; refine gc_seq ?_; refine gc_block ?_)
  refine gc_loop (σ := Nat) [6, 7, 8, 9, 10, 11, 12, 13, 14, 15, 16, 17, 3] (fun k => [(3, .int .i64 k)]) (fun _ => []) (fun k => k ≤ l.length ∧ tl l k = tl l l.length) (fun k => k) l.length ⟨Nat.le_refl _, rfl⟩ ⟨rfl, trivial⟩ .nil ?_
  rintro k base ⟨hk, hI⟩
  focus (refine gc_seq ?_; refine gc_seq ?_; refine gc_region ?_; refine gM rfl rfl (by conv => (lhs; whnf)) ?_; refine gC rfl rfl rfl rfl rfl ?_; refine gM rfl rfl (by conv => (lhs; whnf)) ?_; refine gw_guard_dec rfl rfl (fun _ => ?_) (fun _ => ?_); refine gM rfl rfl (by conv => (lhs; whnf)) ?_; refine gM rfl rfl (by conv => (lhs; whnf)) ?_; apply gw_d; exact det_ar rfl rfl rfl rfl rfl (by omega); rotate_left; refine gU rfl ?_; refine gU rfl ?_; refine gU rfl ?_; refine gU rfl ?_; refine gU rfl ?_; refine gU rfl ?_; apply gw_d; exact det_pick_f (v := .bool _) rfl rfl rfl rfl; refine gO ?_; rotate_left)
  · obtain ⟨ad, rfl, hb, hce⟩ := hcell (k - 1) (by omega)
    obtain ⟨k', rfl⟩ : ∃ k', k = k' + 1 := ⟨k - 1, by omega⟩
    focus (apply gw_d; exact w_index rfl rfl rfl rfl (by with_reducible exact castS (by omega)) (by omega); apply gw_d; exact w_load_at rfl rfl rfl (by assumption) (by assumption); refine gC rfl rfl rfl rfl rfl ?_; apply gw_d; exact det_pick_t (v := .bool _) rfl rfl rfl rfl; refine gO ?_; refine gc_if_dec rfl (fun _ => ?_) (fun _ => ?_); refine gc_skip ?_; refine gx_next ?_; refine gc_block ?_; refine gc_region ?_; refine gM rfl rfl (by conv => (lhs; whnf)) ?_; apply gw_d; exact det_ar rfl rfl rfl rfl rfl (by omega); refine gM rfl rfl (by conv => (lhs; whnf)) ?_; refine gw_nil ?_; refine gx_block ?_; rotate_left; refine gc_exit ?_; refine gx_then_exit ?_; refine gx_then_exit ?_; refine gx_block_exit ?_; refine gx_next ?_; refine gc_seq ?_; refine gc_region ?_; refine gM rfl rfl (by conv => (lhs; whnf)) ?_; refine gM rfl rfl (by conv => (lhs; whnf)) ?_; apply gw_d; exact w_cut_hi rfl rfl rfl rfl (by with_reducible exact rfl) (by omega); refine gM rfl rfl (by conv => (lhs; whnf)) ?_; refine gO ?_; refine gc_ret ?_; rotate_left)
    · rename_i h1 h2
      have h3 : l.getD k' 0 = 0 := by simpa [show k' < l.length by omega] using h2
      exact gx_round k' ⟨by omega, by rw [← hI]; show _ = (if l.getD k' 0 = 0 then tl l k' else k' + 1); rw [if_pos h3]⟩ (by omega) (by repeat (first | exact Keeps.refl | refine Keeps.upd rfl ?_ | refine Keeps.sets rfl ?_ | refine Keeps.havoc rfl ?_)) ⟨(congrArg (Value.int .i64) (show ((k' + 1 : Nat) : Int) - 1 = (k' : Int) by omega)), trivial⟩ .nil
    · rename_i h1 h2
      have h3 : ¬ l.getD k' 0 = 0 := by simpa [show k' < l.length by omega] using h2
      refine gx_ret1 (v := .slice _ _ _) rfl rfl (fun _ _ => ?_)
      rw [← hI]
      show Value.slice _ (k' + 1) _ = .slice _ (if l.getD k' 0 = 0 then tl l k' else k' + 1) _
      rw [if_neg h3]
  · focus (refine gc_if_false rfl ?_; refine gc_exit ?_; refine gx_then_exit ?_; refine gx_then_exit ?_; refine gx_block_exit ?_; refine gx_next ?_; refine gc_seq ?_; refine gc_region ?_; refine gM rfl rfl (by conv => (lhs; whnf)) ?_; refine gM rfl rfl (by conv => (lhs; whnf)) ?_; apply gw_d; exact w_cut_hi rfl rfl rfl rfl (by with_reducible exact rfl) (by omega); refine gM rfl rfl (by conv => (lhs; whnf)) ?_; refine gO ?_; refine gc_ret ?_)
    refine gx_ret1 (v := .slice _ _ _) rfl rfl (fun _ _ => ?_)
    obtain rfl : k = 0 := by omega
    rw [← hI]
    rfl

theorem Sl.box32 {w0 w : World} {L L' : List Res} {b c : Nat} {bt : TypeId} {l : List Int} (s : St w0 L w) (hp : Pick L (Box b bt (l.map (Value.int .u32)).toArray) L') (h1 : l.length ≤ c) (h2 : c ≤ 1000) : Sl rU32 w w.heap.size (.slice (some ⟨b, 0, none⟩) l.length c) l := by
  have hs := s.pick hp
  have hb : b < w.heap.size := (hs.sep.fp _ List.mem_cons_self b rfl).2
  refine ⟨_, c, rfl, h1, by unfold maxLen; omega, fun k hk => ⟨⟨b, 0, none⟩, [.int .u32 l[k]], rfl, hb, fun j u hu => ?_, rfl⟩⟩
  cases j with
  | succ j => simp at hu
  | zero =>
    have hadd : (⟨b, 0, none⟩ : Addr).add (k * rU32.size + 0) = ⟨b, k, none⟩ := by unfold Addr.add rU32; split <;> simp_all
    rw [hadd, Box.cell hs.head k]
    simp at hu
    subst hu
    simp [hk]

theorem of1_ok (w : World) : OkM Tryz.prog 149 [.int .u64 1].toArray w (fun b => .slice (some ⟨b, 0, none⟩) 1 2) (fun b => [Box b 173 #[.int .u32 1, .int .u32 0]]) := by
  unfold OkM
  refine ok_enter Tryz.func149 rfl Tryz.ntmps149 rfl ?_
  focus (refine gc_seq ?_; refine gc_region ?_; refine gM rfl rfl (by conv => (lhs; whnf)) ?_; refine gN ?_; refine gM rfl rfl (by conv => (lhs; whnf)) ?_; apply gw_d; exact det_conv (r := 1) rfl rfl rfl (by rfl); refine gM rfl rfl (by conv => (lhs; whnf)) ?_; apply gw_d; exact det_shr (r := 0) rfl rfl rfl rfl (by decide) (by rfl); apply gw_d; exact det_conv (r := 0) rfl rfl rfl (by rfl))
  refine gw_bslice (cells := #[.int .u32 1, .int .u32 0]) rfl ?_ ?_ ?_ (fun b => ?_)
  · rfl
  · rfl
  · kernel_rfl
  focus (apply gw_d; exact w_call rfl rfl (fun w s => trim_ok w _ _ [1, 0] (Sl.box32 s .here (by decide) (by decide))) rfl; refine gM rfl rfl (by conv => (lhs; whnf)) ?_; refine gO ?_; refine gc_ret ?_)
  refine gx_ret1 rfl rfl fun w s => ⟨b, rfl, s.sep⟩

theorem natCmp0_ok (w : World) (A B : Option Addr) (c d : Nat) (l m : List Int) (hl : Sl rU32 w w.heap.size (.slice A l.length c) l) (hm : Sl rU32 w w.heap.size (.slice B m.length d) m) (h1 : tl l l.length = 0) (h2 : tl m m.length = 0) :
    Ok Tryz.prog 148 [.slice A l.length c, .slice B m.length d].toArray w fun r _ => r = .int .i64 0 := by
  have t1 : ∀ w' L, St w L w' → Ok Tryz.prog 180 [.slice A l.length c].toArray w' fun r _ => r = .slice A 0 c := fun w' L s => by rw [← h1]; exact trim_ok w' A c l (hl.later s)
  have t2 : ∀ w' L, St w L w' → Ok Tryz.prog 180 [.slice B m.length d].toArray w' fun r _ => r = .slice B 0 d := fun w' L s => by rw [← h2]; exact trim_ok w' B d m (hm.later s)
  refine ok_enter Tryz.func148 rfl Tryz.ntmps148 rfl ?_
  focus (refine gc_seq ?_; refine gc_region ?_; refine gM rfl rfl (by conv => (lhs; whnf)) ?_; refine gN ?_; refine gM rfl rfl (by conv => (lhs; whnf)) ?_; apply gw_d; exact w_call rfl rfl (fun w s => t1 w _ s) rfl; refine gM rfl rfl (by conv => (lhs; whnf)) ?_; apply gw_d; exact w_call rfl rfl (fun w s => t2 w _ s) rfl; refine gM rfl rfl (by conv => (lhs; whnf)) ?_; refine gM rfl rfl (by conv => (lhs; whnf)) ?_; refine gO ?_; refine gc_seq ?_; refine gc_seq ?_; refine gc_region ?_; refine gM rfl rfl (by conv => (lhs; whnf)) ?_; refine gL rfl rfl rfl ?_; refine gM rfl rfl (by conv => (lhs; whnf)) ?_; refine gL rfl rfl rfl ?_; apply gw_d; exact w_call rfl rfl (fun w s => compare_ok w _ _) rfl; refine gM rfl rfl (by conv => (lhs; whnf)) ?_; refine gN ?_; refine gM rfl rfl (by conv => (lhs; whnf)) ?_; refine gC rfl rfl rfl rfl rfl ?_; refine gO ?_)
  refine gc_if_dec rfl (fun h => absurd (show signI ((0 : Nat) : Int) ((0 : Nat) : Int) = 0 by rfl) h) (fun _ => ?_)
  focus (refine gc_skip ?_; refine gx_next ?_; refine gc_seq ?_; refine gc_seq ?_; refine gc_region ?_; refine gM rfl rfl (by conv => (lhs; whnf)) ?_; refine gL rfl rfl rfl ?_; apply gw_d; exact det_ar rfl rfl rfl rfl rfl (by omega); refine gM rfl rfl (by conv => (lhs; whnf)) ?_; refine gO ?_; refine gc_block ?_)
  refine gc_loop (σ := Unit) [23, 24, 27, 28, 29, 30, 31, 32, 33, 34, 35, 7, 36, 37, 38, 4, 25, 26, 6] (fun _ => [(6, .int .i64 (((0 : Nat) : Int) - 1))]) (fun _ => []) (fun _ => True) (fun _ => 0) () trivial ⟨rfl, trivial⟩ .nil ?_
  rintro k base -
  focus (refine gc_seq ?_; refine gc_seq ?_; refine gc_region ?_; refine gM rfl rfl (by conv => (lhs; whnf)) ?_; refine gC rfl rfl rfl rfl rfl ?_; refine gO ?_)
  refine gc_if_dec rfl (fun h => absurd h (by omega)) (fun _ => ?_)
  focus (refine gc_exit ?_; refine gx_then_exit ?_; refine gx_then_exit ?_; refine gx_block_exit ?_; refine gx_next ?_; refine gc_seq ?_; refine gc_region ?_; refine gM rfl rfl (by conv => (lhs; whnf)) ?_; refine gO ?_; refine gc_ret ?_)
  refine gx_ret1 (v := .int _ _) rfl rfl (fun _ _ => ?_)
  rfl

/-- Norm of what is 0. -/
theorem natNorm0_ok (w : World) (A : Option Addr) (c : Nat) (l : List Int) (hl : Sl rU32 w w.heap.size (.slice A l.length c) l) (h1 : tl l l.length = 0) :
    OkM Tryz.prog 201 [.slice A l.length c].toArray w (fun b => .slice (some ⟨b, 0, none⟩) 0 0) (fun _ => []) := by
  have t1 : ∀ w' L, St w L w' → Ok Tryz.prog 180 [.slice A l.length c].toArray w' fun r _ => r = .slice A 0 c := fun w' L s => by rw [← h1]; exact trim_ok w' A c l (hl.later s)
  unfold OkM
  refine ok_enter Tryz.func201 rfl Tryz.ntmps201 rfl ?_
  focus (refine gc_seq ?_; refine gc_region ?_; refine gM rfl rfl (by conv => (lhs; whnf)) ?_; refine gN ?_; refine gM rfl rfl (by conv => (lhs; whnf)) ?_; apply gw_d; exact w_call rfl rfl (fun w s => t1 w _ s) rfl; refine gM rfl rfl (by conv => (lhs; whnf)) ?_; refine gN ?_; refine gM rfl rfl (by conv => (lhs; whnf)) ?_; refine gL rfl rfl rfl ?_)
  refine gw_makeN (n := 0) rfl rfl rfl (by rfl) (by rfl) (by decide) (by decide) (fun b => ?_)
  focus (refine gM rfl rfl (by conv => (lhs; whnf)) ?_; refine gN ?_; refine gM rfl rfl (by conv => (lhs; whnf)) ?_; refine gM rfl rfl (by conv => (lhs; whnf)) ?_; apply gw_d; exact det_copy0 rfl rfl rfl rfl; refine gN ?_; refine gM rfl rfl (by conv => (lhs; whnf)) ?_; refine gM rfl rfl (by conv => (lhs; whnf)) ?_; refine gO ?_; refine gc_ret ?_)
  exact gx_ret1 rfl rfl fun w s => ⟨b, rfl, trivial⟩

theorem natMul0_ok (w : World) (A B : Option Addr) (c d : Nat) (l m : List Int) (hl : Sl rU32 w w.heap.size (.slice A l.length c) l) (hm : Sl rU32 w w.heap.size (.slice B m.length d) m) (h1 : tl l l.length = 0) (h2 : tl m m.length = 1) :
    OkM Tryz.prog 179 [.slice A l.length c, .slice B m.length d].toArray w (fun b => .slice (some ⟨b, 0, none⟩) 0 1) (fun _ => []) := by
  have t1 : ∀ w' L, St w L w' → Ok Tryz.prog 180 [.slice A l.length c].toArray w' fun r _ => r = .slice A 0 c := fun w' L s => by rw [← h1]; exact trim_ok w' A c l (hl.later s)
  have t2 : ∀ w' L, St w L w' → Ok Tryz.prog 180 [.slice B m.length d].toArray w' fun r _ => r = .slice B 1 d := fun w' L s => by rw [← h2]; exact trim_ok w' B d m (hm.later s)
  unfold OkM
  refine ok_enter Tryz.func179 rfl Tryz.ntmps179 rfl ?_
  focus (refine gc_seq ?_; refine gc_region ?_; refine gM rfl rfl (by conv => (lhs; whnf)) ?_; refine gN ?_; refine gM rfl rfl (by conv => (lhs; whnf)) ?_; apply gw_d; exact w_call rfl rfl (fun w s => t1 w _ s) rfl; refine gM rfl rfl (by conv => (lhs; whnf)) ?_; apply gw_d; exact w_call rfl rfl (fun w s => t2 w _ s) rfl; refine gM rfl rfl (by conv => (lhs; whnf)) ?_; refine gM rfl rfl (by conv => (lhs; whnf)) ?_; refine gN ?_; refine gM rfl rfl (by conv => (lhs; whnf)) ?_; refine gL rfl rfl rfl ?_; refine gM rfl rfl (by conv => (lhs; whnf)) ?_; refine gL rfl rfl rfl ?_; apply gw_d; exact det_ar rfl rfl rfl rfl rfl (by omega))
  refine gw_makeN (n := 1) rfl rfl rfl (by rfl) (by rfl) (by decide) (by decide) (fun b => ?_)
  rw [show madeCells (Value.int .u32 0).cells (1 * 1) = #[.int .u32 0] by kernel_rfl]
  focus (refine gM rfl rfl (by conv => (lhs; whnf)) ?_; refine gO ?_; refine gc_seq ?_; refine gc_seq ?_; refine gc_region ?_; refine gM rfl rfl (by conv => (lhs; whnf)) ?_; refine gL rfl rfl rfl ?_; refine gM rfl rfl (by conv => (lhs; whnf)) ?_; refine gO ?_; refine gc_block ?_)
  refine gc_loop (σ := Unit) [24, 25, 26, 27, 6, 7, 8, 28, 29, 30, 31, 32, 33, 34, 9, 10, 35, 36, 37, 38, 39, 40, 41, 42, 43, 44, 45, 46, 47, 48, 49, 50, 51, 52, 53, 54, 55, 56, 57, 58, 59, 60, 61, 62, 63, 64, 65, 66, 67, 68, 23] (fun _ => [(23, .int .i64 0)]) (fun _ => [Box b 173 #[.int .u32 0]]) (fun _ => True) (fun _ => 0) () trivial ⟨rfl, trivial⟩ (.cons .here .nil) ?_
  rintro k base -
  focus (refine gc_seq ?_; refine gc_region ?_; refine gC rfl rfl rfl rfl rfl ?_; refine gO ?_; refine gc_seq ?_)
  refine gc_if_dec rfl (fun h => absurd h (by omega)) (fun _ => ?_)
  focus (refine gc_exit ?_; refine gx_then_exit ?_; refine gx_then_exit ?_; refine gx_block_exit ?_; refine gx_next ?_; refine gc_seq ?_; refine gc_region ?_; refine gM rfl rfl (by conv => (lhs; whnf)) ?_; apply gw_d; exact w_call rfl rfl (fun w s => trim_ok w _ _ [0] (Sl.box32 s .here (by decide) (by decide))) rfl; refine gM rfl rfl (by conv => (lhs; whnf)) ?_; refine gO ?_; refine gc_ret ?_)
  exact gx_ret1 rfl rfl fun w s => ⟨b, rfl, trivial⟩

theorem signed0_ok (w : World) (g : Bool) (A : Option Addr) (c : Nat) (l : List Int) (hl : Sl rU32 w w.heap.size (.slice A l.length c) l) (h1 : tl l l.length = 0) :
    OkM Tryz.prog 184 [.bool g, .slice A l.length c].toArray w (fun b => .agg #[.bool false, .slice (some ⟨b, 0, none⟩) 0 0]) (fun _ => []) := by
  unfold OkM
  cases g
  all_goals
    refine ok_enter Tryz.func184 rfl Tryz.ntmps184 rfl ?_
    focus (refine gc_seq ?_; refine gc_region ?_; refine w_alloc rfl (fun _ => ?_); refine gN ?_; refine gM rfl rfl (by conv => (lhs; whnf)) ?_)
    refine gw_callm rfl (fun w s => natNorm0_ok w A c l (hl.later s) h1) rfl (fun b => ?_)
    focus (first | (refine gM rfl rfl (by conv => (lhs; whnf)) ?_; refine gN ?_; refine gM rfl rfl (by conv => (lhs; whnf)) ?_; refine gM rfl rfl (by conv => (lhs; whnf)) ?_; refine gM rfl rfl (by conv => (lhs; whnf)) ?_; refine gL rfl rfl rfl ?_; refine gC rfl rfl rfl rfl rfl ?_; apply gw_d; exact det_pick_t (v := .bool _) rfl rfl rfl rfl; refine gM rfl rfl (by conv => (lhs; whnf)) ?_; apply gw_d; exact w_build (cells := #[.bool false, .slice (some ⟨b, 0, none⟩) 0 0]) rfl rfl (by kernel_rfl); refine w_store_all rfl rfl rfl rfl rfl .here rfl ?_; refine gO ?_; refine gc_ret ?_) | (refine gM rfl rfl (by conv => (lhs; whnf)) ?_; refine gN ?_; refine gM rfl rfl (by conv => (lhs; whnf)) ?_; refine gM rfl rfl (by conv => (lhs; whnf)) ?_; refine gU rfl ?_; refine gU rfl ?_; refine gU rfl ?_; apply gw_d; exact det_pick_f (v := .bool _) rfl rfl rfl rfl; refine gM rfl rfl (by conv => (lhs; whnf)) ?_; apply gw_d; exact w_build (cells := #[.bool false, .slice (some ⟨b, 0, none⟩) 0 0]) rfl rfl (by kernel_rfl); refine w_store_all rfl rfl rfl rfl rfl .here rfl ?_; refine gO ?_; refine gc_ret ?_))
    exact gx_retc rfl rfl .here rfl fun w s => ⟨b, rfl, trivial⟩
theorem positive_ok (w : World) (A : Option Addr) (n c : Nat) :
    Ok Tryz.prog 154 [.slice A n c].toArray w fun r _ => r = .agg #[.bool false, .slice A n c] := by
  refine ok_enter Tryz.func154 rfl Tryz.ntmps154 rfl ?_
  focus (refine gc_seq ?_; refine gc_region ?_; refine w_alloc rfl (fun _ => ?_); refine gN ?_; refine gM rfl rfl (by conv => (lhs; whnf)) ?_; apply gw_d; exact w_build (cells := #[.bool false, .slice A n c]) rfl rfl (by kernel_rfl); refine w_store_all rfl rfl rfl rfl rfl .here rfl ?_; refine gO ?_; refine gc_ret ?_)
  exact gx_retc rfl rfl .here rfl fun w s => rfl
theorem intNorm0_ok (w : World) (g : Bool) (A : Option Addr) (c : Nat) (l : List Int) (hl : Sl rU32 w w.heap.size (.slice A l.length c) l) (h1 : tl l l.length = 0) :
    OkM Tryz.prog 182 [.agg #[.bool g, .slice A l.length c]].toArray w (fun b => .agg #[.bool false, .slice (some ⟨b, 0, none⟩) 0 0]) (fun _ => []) := by
  unfold OkM
  refine ok_enter Tryz.func182 rfl Tryz.ntmps182 rfl ?_
  focus (refine gc_seq ?_; refine gc_region ?_; refine gw_boxd (v := .agg _) rfl rfl (fun _ => ?_); refine w_alloc rfl (fun _ => ?_); refine gN ?_; refine gF rfl rfl rfl ?_; apply gw_d; exact w_load_box rfl rfl rfl (.there .here) rfl; refine gF rfl rfl rfl ?_; apply gw_d; exact w_load_box rfl rfl rfl (.there .here) rfl)
  refine gw_callm rfl (fun w s => signed0_ok w g A c l (hl.later s) h1) rfl (fun b => ?_)
  focus (refine w_store_all rfl rfl rfl rfl rfl .here rfl ?_; refine gO ?_; refine gc_ret ?_)
  exact gx_retc rfl rfl .here rfl fun w s => ⟨b, rfl, trivial⟩
theorem zero0_ok (w : World) : Ok Tryz.prog 183 [.slice none 0 0].toArray w fun r _ => r = .bool true := by
  refine ok_enter Tryz.func183 rfl Tryz.ntmps183 rfl ?_
  focus (refine gc_seq ?_; refine gc_region ?_; refine gM rfl rfl (by conv => (lhs; whnf)) ?_; refine gN ?_; refine gM rfl rfl (by conv => (lhs; whnf)) ?_; apply gw_d; exact w_call rfl rfl (fun w s => natCmp0_ok w none none 0 0 [] [] (Sl.none0 _ w _ _ (by decide)) (Sl.none0 _ w _ _ (by decide)) rfl rfl) rfl; refine gC rfl rfl rfl rfl rfl ?_; refine gM rfl rfl (by conv => (lhs; whnf)) ?_; refine gO ?_; refine gc_ret ?_)
  refine gx_ret1 (v := .bool _) rfl rfl (fun _ _ => ?_)
  rfl
theorem value0_ok (w : World) : OkM Tryz.prog 151 [.agg #[.bool false, .slice none 0 0, .slice none 0 0]].toArray w (fun b => .agg #[.bool false, .slice none 0 0, .slice (some ⟨b, 0, none⟩) 1 2]) (fun b => [Box b 173 #[.int .u32 1, .int .u32 0]]) := by
  unfold OkM
  refine ok_enter Tryz.func151 rfl Tryz.ntmps151 rfl ?_
  focus (refine gc_seq ?_; refine gc_region ?_; refine gw_boxd (v := .agg _) rfl rfl (fun _ => ?_); refine w_alloc rfl (fun _ => ?_); refine gO ?_; refine gc_seq ?_; refine gc_seq ?_; refine gc_region ?_; refine gF rfl rfl rfl ?_; apply gw_d; exact w_load_box rfl rfl rfl (.there .here) rfl; apply gw_d; exact w_call rfl rfl (fun w s => zero0_ok w) rfl; refine gO ?_)
  refine gc_if_true rfl ?_
  focus (refine gc_seq ?_; refine gc_region ?_)
  refine gw_callm rfl (fun w s => of1_ok w) rfl (fun b => ?_)
  focus (apply gw_d; exact w_build (cells := #[.bool false, .slice none 0 0, .slice (some ⟨b, 0, none⟩) 1 2]) rfl rfl (by kernel_rfl); refine w_store_all rfl rfl rfl rfl rfl (.there .here) rfl ?_; refine gO ?_; refine gc_ret ?_; refine gx_then_ret ?_)
  refine gx_retc rfl rfl .here rfl fun w s => ⟨b, rfl, (s.sub (.cons (.there .here) .nil)).sep⟩
theorem intCmp0_ok (w : World) (A B : Nat) : Ok Tryz.prog 152 [.agg #[.bool false, .slice (some ⟨A, 0, none⟩) 0 0], .agg #[.bool false, .slice (some ⟨B, 0, none⟩) 0 0]].toArray w fun r _ => r = .int .i64 0 := by
  refine ok_enter Tryz.func152 rfl Tryz.ntmps152 rfl ?_
  focus (refine gc_seq ?_; refine gc_region ?_; refine gw_boxd (v := .agg _) rfl rfl (fun _ => ?_); refine gw_boxd (v := .agg _) rfl rfl (fun _ => ?_); refine gM rfl rfl (by conv => (lhs; whnf)) ?_; refine gO ?_; refine gc_seq ?_)
  refine gc_block_draw Nat 4 (fun i => ([[], [0], [], [0, 1, 2]] : List (List Nat)).getD i []) rfl (by kernel_rfl) ?_
  focus (apply gb_d; (intro γ; exact w_load_boxN rfl rfl rfl (.there .here) rfl); (intros; rfl); (intros; rfl))
  refine gb_call (l := fun _ => [.agg #[.bool false, .slice (some ⟨A, 0, none⟩) 0 0]]) (fun _ b => .agg #[.bool false, .slice (some ⟨b, 0, none⟩) 0 0]) (fun _ _ => []) (fun _ => rfl) (fun _ w s => intNorm0_ok w _ _ _ [] (Sl.none0 _ w _ _ (by decide)) rfl) (fun _ => rfl) (fun _ _ => ⟨rfl, rfl⟩) (fun _ => ⟨rfl, rfl⟩) ?_
  focus (apply gb_d; (intro γ; exact w_load_boxN rfl rfl rfl .here rfl); (intros; rfl); (intros; rfl))
  refine gb_call (l := fun _ => [.agg #[.bool false, .slice (some ⟨B, 0, none⟩) 0 0]]) (fun _ b => .agg #[.bool false, .slice (some ⟨b, 0, none⟩) 0 0]) (fun _ _ => []) (fun _ => rfl) (fun _ w s => intNorm0_ok w _ _ _ [] (Sl.none0 _ w _ _ (by decide)) rfl) (fun _ => rfl) (fun _ _ => ⟨rfl, rfl⟩) (fun _ => ⟨rfl, rfl⟩) ?_
  focus (skip)
  refine GB.nil (fun β => ?_)
  focus (refine w_store_all rfl rfl rfl rfl rfl (.there .here) rfl ?_; refine w_store_all rfl rfl rfl rfl rfl (.there .here) rfl ?_; refine gO ?_; refine gc_seq ?_; refine gc_block ?_; refine gc_seq ?_; refine gc_region ?_; refine gF rfl rfl rfl ?_; apply gw_d; exact w_load_box rfl rfl rfl (.there .here) rfl; refine gM rfl rfl (by conv => (lhs; whnf)) ?_; refine gU rfl ?_; refine gU rfl ?_; refine gU rfl ?_; apply gw_d; exact det_pick_f (v := .bool _) rfl rfl rfl rfl; refine gM rfl rfl (by conv => (lhs; whnf)) ?_; refine gO ?_; refine gc_if_false rfl ?_; refine gc_seq ?_; refine gc_region ?_; refine gF rfl rfl rfl ?_; apply gw_d; exact w_load_box rfl rfl rfl (.there .here) rfl; apply gw_d; exact det_not_ rfl rfl rfl; refine gM rfl rfl (by conv => (lhs; whnf)) ?_; refine gF rfl rfl rfl ?_; apply gw_d; exact w_load_box rfl rfl rfl .here rfl; apply gw_d; exact det_pick_t (v := .bool _) rfl rfl rfl rfl; refine gM rfl rfl (by conv => (lhs; whnf)) ?_; refine gO ?_; refine gc_if_false rfl ?_; refine gc_seq ?_; refine gc_region ?_; refine gF rfl rfl rfl ?_; apply gw_d; exact w_load_box rfl rfl rfl (.there .here) rfl; refine gM rfl rfl (by conv => (lhs; whnf)) ?_; refine gO ?_; refine gc_if_false rfl ?_; refine gc_skip ?_; refine gx_block ?_; refine gx_next ?_; refine gc_seq ?_; refine gc_region ?_; refine gF rfl rfl rfl ?_; apply gw_d; exact w_load_box rfl rfl rfl (.there .here) rfl; refine gF rfl rfl rfl ?_; apply gw_d; exact w_load_box rfl rfl rfl .here rfl; apply gw_d; exact w_call rfl rfl (fun w s => natCmp0_ok w (some ⟨β 1, 0, none⟩) (some ⟨β 3, 0, none⟩) 0 0 [] [] (Sl.none0 _ w _ _ (by decide)) (Sl.none0 _ w _ _ (by decide)) rfl rfl) rfl; refine gM rfl rfl (by conv => (lhs; whnf)) ?_; refine gO ?_; refine gc_ret ?_)
  refine gx_ret1 (v := .int _ _) rfl rfl (fun _ _ => ?_)
  rfl

theorem intMul0_ok (w : World) (A B : Option Addr) (c d : Nat) (l m : List Int) (hl : Sl rU32 w w.heap.size (.slice A l.length c) l) (hm : Sl rU32 w w.heap.size (.slice B m.length d) m) (h1 : tl l l.length = 0) (h2 : tl m m.length = 1) :
    OkM Tryz.prog 153 [.agg #[.bool false, .slice A l.length c], .agg #[.bool false, .slice B m.length d]].toArray w (fun b => .agg #[.bool false, .slice (some ⟨b, 0, none⟩) 0 0]) (fun _ => []) := by
  unfold OkM
  refine ok_enter Tryz.func153 rfl Tryz.ntmps153 rfl ?_
  focus (refine gc_seq ?_; refine gc_region ?_; refine gw_boxd (v := .agg _) rfl rfl (fun _ => ?_); refine gw_boxd (v := .agg _) rfl rfl (fun _ => ?_); refine w_alloc rfl (fun _ => ?_); refine gO ?_; refine gc_seq ?_)
  refine gc_block_draw Nat 11 (fun i => ([[], [0], [], [2], [0, 1, 2, 3], [], [5], [], [7], [5, 6, 7, 8], [0, 1, 2, 3, 4, 5, 6, 7, 8, 9]] : List (List Nat)).getD i []) rfl (by kernel_rfl) ?_
  focus (apply gb_d; (intro γ; exact w_field rfl rfl rfl); (intros; rfl); (intros; rfl); apply gb_d; (intro γ; exact w_load_box rfl rfl rfl (.there (.there .here)) rfl); (intros; rfl); (intros; rfl); apply gb_d; (intro γ; exact w_field rfl rfl rfl); (intros; rfl); (intros; rfl); apply gb_d; (intro γ; exact w_load_box rfl rfl rfl (.there .here) rfl); (intros; rfl); (intros; rfl); apply gb_d; (intro γ; exact det_bne rfl rfl rfl rfl rfl); (intros; rfl); (intros; rfl); apply gb_d; (intro γ; exact w_field rfl rfl rfl); (intros; rfl); (intros; rfl); apply gb_d; (intro γ; exact w_load_box rfl rfl rfl (.there (.there .here)) rfl); (intros; rfl); (intros; rfl); apply gb_d; (intro γ; exact w_field rfl rfl rfl); (intros; rfl); (intros; rfl); apply gb_d; (intro γ; exact w_load_box rfl rfl rfl (.there .here) rfl); (intros; rfl); (intros; rfl))
  refine gb_call (l := fun _ => [.slice A l.length c, .slice B m.length d]) (fun _ b => .slice (some ⟨b, 0, none⟩) 0 1) (fun _ _ => []) (fun _ => rfl) (fun _ w s => natMul0_ok w A B c d l m (hl.later s) (hm.later s) h1 h2) (fun _ => rfl) (fun _ _ => ⟨rfl, rfl⟩) (fun _ => ⟨rfl, rfl⟩) ?_
  refine gb_call (l := fun γ => [.bool false, .slice (some ⟨γ 9, 0, none⟩) 0 1]) (fun _ b => .agg #[.bool false, .slice (some ⟨b, 0, none⟩) 0 0]) (fun _ _ => []) (fun _ => rfl) (fun γ w s => signed0_ok w false _ 1 [] (Sl.none0 _ w _ _ (by decide)) rfl) (fun _ => rfl) (fun _ _ => ⟨rfl, rfl⟩) (fun _ => ⟨rfl, rfl⟩) ?_
  refine GB.nil (fun β => ?_)
  focus (refine w_store_all rfl rfl rfl rfl rfl .here rfl ?_; refine gO ?_; refine gc_ret ?_)
  exact gx_retc rfl rfl .here rfl fun w s => ⟨β 10, rfl, trivial⟩

theorem ratioCmp0_ok (w : World) : Ok Tryz.prog 123 [.agg #[.bool false, .slice none 0 0, .slice none 0 0], .agg #[.bool false, .slice none 0 0, .slice none 0 0]].toArray w fun r _ => r = .int .i64 0 := by
  refine ok_enter Tryz.func123 rfl Tryz.ntmps123 rfl ?_
  focus (refine gc_seq ?_; refine gc_region ?_; refine gw_boxd (v := .agg _) rfl rfl (fun _ => ?_); refine gw_boxd (v := .agg _) rfl rfl (fun _ => ?_); refine gM rfl rfl (by conv => (lhs; whnf)) ?_; refine gO ?_; refine gc_seq ?_)
  refine gc_block_draw Nat 4 (fun i => ([[], [0], [], [0, 1, 2]] : List (List Nat)).getD i []) rfl (by kernel_rfl) ?_
  focus (apply gb_d; (intro γ; exact w_load_boxN rfl rfl rfl (.there .here) rfl); (intros; rfl); (intros; rfl))
  refine gb_call (l := fun _ => [.agg #[.bool false, .slice none 0 0, .slice none 0 0]]) (fun _ b => .agg #[.bool false, .slice none 0 0, .slice (some ⟨b, 0, none⟩) 1 2]) (fun _ b => [Box b 173 #[.int .u32 1, .int .u32 0]]) (fun _ => rfl) (fun _ w s => value0_ok w) (fun _ => rfl) (fun _ _ => ⟨rfl, rfl⟩) (fun _ => ⟨rfl, rfl⟩) ?_
  focus (apply gb_d; (intro γ; exact w_load_boxN rfl rfl rfl .here rfl); (intros; rfl); (intros; rfl))
  refine gb_call (l := fun _ => [.agg #[.bool false, .slice none 0 0, .slice none 0 0]]) (fun _ b => .agg #[.bool false, .slice none 0 0, .slice (some ⟨b, 0, none⟩) 1 2]) (fun _ b => [Box b 173 #[.int .u32 1, .int .u32 0]]) (fun _ => rfl) (fun _ w s => value0_ok w) (fun _ => rfl) (fun _ _ => ⟨rfl, rfl⟩) (fun _ => ⟨rfl, rfl⟩) ?_
  refine GB.nil (fun β => ?_)
  focus (refine w_store_all rfl rfl rfl rfl rfl (.there (.there (.there .here))) rfl ?_; refine w_store_all rfl rfl rfl rfl rfl (.there (.there (.there .here))) rfl ?_; refine gO ?_; refine gc_seq ?_)
  refine gc_block_draw Nat 13 (fun i => ([[], [0], [], [2], [2, 3], [0, 1, 2, 3, 4], [], [6], [], [8], [0, 1, 2, 3, 4, 5, 8, 9], [0, 1, 2, 3, 4, 5, 6, 7, 8, 9, 10], [0, 1, 2, 3, 4, 5, 6, 7, 8, 9, 10, 11]] : List (List Nat)).getD i []) rfl (by kernel_rfl) ?_
  focus (apply gb_d; (intro γ; exact w_field rfl rfl rfl); (intros; rfl); (intros; rfl); apply gb_d; (intro γ; exact w_load_part rfl rfl rfl (.there .here) rfl rfl); (intros; rfl); (intros; rfl); apply gb_d; (intro γ; exact w_field rfl rfl rfl); (intros; rfl); (intros; rfl); apply gb_d; (intro γ; exact w_load_box rfl rfl rfl .here rfl); (intros; rfl); (intros; rfl); apply gb_d; (intro γ; exact w_call rfl rfl (fun w s => positive_ok w _ _ _) rfl); (intros; rfl); (intros; rfl))
  refine gb_call (l := fun _ => [.agg #[.bool false, .slice none 0 0], .agg #[.bool false, .slice (some ⟨β 3, 0, none⟩) 1 2]]) (fun _ b => .agg #[.bool false, .slice (some ⟨b, 0, none⟩) 0 0]) (fun _ _ => []) (fun _ => rfl) (fun _ w s => intMul0_ok w none (some ⟨β 3, 0, none⟩) 0 2 [] [1] (Sl.none0 _ w _ _ (by decide)) ((Sl.box32 (l := [1, 0]) s (.there (.there (.there .here))) (by decide) (by decide)).take (m := 1) (by decide)) rfl rfl) (fun _ => rfl) (fun _ _ => ⟨rfl, rfl⟩) (fun _ => ⟨rfl, rfl⟩) ?_
  focus (apply gb_d; (intro γ; exact w_field rfl rfl rfl); (intros; rfl); (intros; rfl); apply gb_d; (intro γ; exact w_load_part rfl rfl rfl .here rfl rfl); (intros; rfl); (intros; rfl); apply gb_d; (intro γ; exact w_field rfl rfl rfl); (intros; rfl); (intros; rfl); apply gb_d; (intro γ; exact w_load_box rfl rfl rfl (.there .here) rfl); (intros; rfl); (intros; rfl); apply gb_d; (intro γ; exact w_call rfl rfl (fun w s => positive_ok w _ _ _) rfl); (intros; rfl); (intros; rfl))
  refine gb_call (l := fun _ => [.agg #[.bool false, .slice none 0 0], .agg #[.bool false, .slice (some ⟨β 1, 0, none⟩) 1 2]]) (fun _ b => .agg #[.bool false, .slice (some ⟨b, 0, none⟩) 0 0]) (fun _ _ => []) (fun _ => rfl) (fun _ w s => intMul0_ok w none (some ⟨β 1, 0, none⟩) 0 2 [] [1] (Sl.none0 _ w _ _ (by decide)) ((Sl.box32 (l := [1, 0]) s (.there (.there .here)) (by decide) (by decide)).take (m := 1) (by decide)) rfl rfl) (fun _ => rfl) (fun _ _ => ⟨rfl, rfl⟩) (fun _ => ⟨rfl, rfl⟩) ?_
  focus (apply gb_d; (intro γ; exact w_call rfl rfl (fun w s => intCmp0_ok w _ _) rfl); (intros; rfl); (intros; rfl))
  refine GB.nil (fun β2 => ?_)
  focus (refine gM rfl rfl (by conv => (lhs; whnf)) ?_; refine gO ?_; refine gc_ret ?_)
  refine gx_ret1 (v := .int _ _) rfl rfl (fun _ _ => ?_)
  rfl

end Go.Proofs.YtckhibfbdnoigaaGreat

/- Contracts: names, lists of indices, repetitions. -/
namespace Go.Proofs.YtckhibfbdnoigaaGreat
open Go.RowKit
set_option maxRecDepth 100000

/-! ### Names -/
def letterB (c : Int) : Bool := decide (97 ≤ c) && decide (c ≤ 122)
def furtherB (c : Int) : Bool := (decide (48 ≤ c) && decide (c ≤ 57)) || decide (c = 95)
def charB (s : ByteArray) (i : Nat) : Bool := letterB (bAt s i) || (decide (i ≠ 0) && furtherB (bAt s i))
def nameB (s : ByteArray) : Bool := decide (s.size ≠ 0) && decide (s.size ≤ 24) && !(s.toList == (ByteArray.mk #[109, 105, 110]).toList) && !(s.toList == (ByteArray.mk #[109, 97, 120]).toList) && (List.range s.size).all (charB s)

theorem nameB_no {s : ByteArray} {k : Nat} (hk : k < s.size) (h : charB s k = false) : nameB s = false := by
  unfold nameB
  rw [Bool.and_eq_false_iff]
  right
  rw [List.all_eq_false]
  exact ⟨k, List.mem_range.2 hk, by rw [h]; simp⟩
theorem chars_snoc {s : ByteArray} {k : Nat} (h : (List.range k).all (charB s) = true) (hc : charB s k = true) : (List.range (k + 1)).all (charB s) = true := by
  rw [List.range_succ, List.all_append, h]
  simp [hc]
theorem char_yes {s : ByteArray} {k : Nat} (h : (97 ≤ bAt s k ∧ bAt s k ≤ 122) ∨ (k ≠ 0 ∧ ((48 ≤ bAt s k ∧ bAt s k ≤ 57) ∨ bAt s k = 95))) : charB s k = true := by
  unfold charB letterB furtherB
  simp only [Bool.or_eq_true, Bool.and_eq_true, decide_eq_true_eq]
  exact h
theorem char_no {s : ByteArray} {k : Nat} (h : ¬ ((97 ≤ bAt s k ∧ bAt s k ≤ 122) ∨ (k ≠ 0 ∧ ((48 ≤ bAt s k ∧ bAt s k ≤ 57) ∨ bAt s k = 95)))) : charB s k = false := by
  rw [← Bool.not_eq_true]
  unfold charB letterB furtherB
  simp only [Bool.or_eq_true, Bool.and_eq_true, decide_eq_true_eq]
  exact h
theorem ba_toList (a : ByteArray) : a.toList = a.data.toList :=
  Go.ByteArray.toList_eq a
theorem ba_empty {s : ByteArray} : (s.toList == (ByteArray.mk #[]).toList) = decide (s.size = 0) := by
  rw [ba_toList, ba_toList]
  show (s.data.toList == []) = decide (s.data.size = 0)
  rw [← Array.length_toList]
  cases s.data.toList <;> simp

set_option maxHeartbeats 4000000 in
theorem isName_ok (w : World) (s : ByteArray) (hs : s.size ≤ 9223372036854775807) : Ok Tryz.prog 80 [.string s].toArray w fun r _ => r = .bool (nameB s) := by
  refine ok_enter Tryz.func80 rfl Tryz.ntmps80 rfl ?_
  focus (refine gc_seq ?_; refine gc_region ?_; refine gM rfl rfl (by conv => (lhs; whnf)) ?_; refine gO ?_; refine gc_seq ?_; refine gc_seq ?_; refine gc_region ?_; refine gM rfl rfl (by conv => (lhs; whnf)) ?_; apply gw_d; exact det_seq rfl rfl rfl rfl; refine gM rfl rfl (by conv => (lhs; whnf)) ?_; refine gw_guard rfl rfl (fun _ => ?_) (fun _ => ?_); refine gU rfl ?_; refine gU rfl ?_; refine gU rfl ?_; apply gw_d; exact det_pick_t (v := .bool _) rfl rfl rfl rfl; refine gM rfl rfl (by conv => (lhs; whnf)) ?_; refine gU rfl ?_; refine gU rfl ?_; apply gw_d; exact det_pick_t (v := .bool _) rfl rfl rfl rfl; refine gM rfl rfl (by conv => (lhs; whnf)) ?_; refine gU rfl ?_; refine gU rfl ?_; apply gw_d; exact det_pick_t (v := .bool _) rfl rfl rfl rfl; refine gO ?_; refine gc_if_true rfl ?_; refine gc_seq ?_; refine gc_region ?_; refine gM rfl rfl (by conv => (lhs; whnf)) ?_; refine gO ?_; refine gc_ret ?_; refine gx_then_ret ?_; rotate_left; refine gM rfl rfl (by conv => (lhs; whnf)) ?_; apply gw_d; exact w_len_str rfl rfl rfl; refine gC rfl rfl rfl rfl rfl ?_; apply gw_d; exact det_pick_f (v := .bool _) rfl rfl rfl rfl; refine gM rfl rfl (by conv => (lhs; whnf)) ?_; refine gw_guard_dec rfl rfl (fun _ => ?_) (fun _ => ?_); refine gU rfl ?_; refine gU rfl ?_; apply gw_d; exact det_pick_t (v := .bool _) rfl rfl rfl rfl; refine gM rfl rfl (by conv => (lhs; whnf)) ?_; refine gU rfl ?_; refine gU rfl ?_; apply gw_d; exact det_pick_t (v := .bool _) rfl rfl rfl rfl; refine gO ?_; refine gc_if_true rfl ?_; refine gc_seq ?_; refine gc_region ?_; refine gM rfl rfl (by conv => (lhs; whnf)) ?_; refine gO ?_; refine gc_ret ?_; refine gx_then_ret ?_; rotate_left; refine gM rfl rfl (by conv => (lhs; whnf)) ?_; apply gw_d; exact det_seq rfl rfl rfl rfl; apply gw_d; exact det_pick_f (v := .bool _) rfl rfl rfl rfl; refine gM rfl rfl (by conv => (lhs; whnf)) ?_; refine gw_guard rfl rfl (fun _ => ?_) (fun _ => ?_); refine gU rfl ?_; refine gU rfl ?_; apply gw_d; exact det_pick_t (v := .bool _) rfl rfl rfl rfl; refine gO ?_; refine gc_if_true rfl ?_; refine gc_seq ?_; refine gc_region ?_; refine gM rfl rfl (by conv => (lhs; whnf)) ?_; refine gO ?_; refine gc_ret ?_; refine gx_then_ret ?_; rotate_left; refine gM rfl rfl (by conv => (lhs; whnf)) ?_; apply gw_d; exact det_seq rfl rfl rfl rfl; apply gw_d; exact det_pick_f (v := .bool _) rfl rfl rfl rfl; refine gO ?_; refine gc_if rfl (fun _ => ?_) (fun _ => ?_); refine gc_seq ?_; refine gc_region ?_; refine gM rfl rfl (by conv => (lhs; whnf)) ?_; refine gO ?_; refine gc_ret ?_; refine gx_then_ret ?_; rotate_left; refine gc_skip ?_; refine gx_next ?_; refine gc_seq ?_; refine gc_seq ?_; refine gc_region ?_; refine gM rfl rfl (by conv => (lhs; whnf)) ?_; apply gw_d; exact w_len_str rfl rfl rfl; refine gM rfl rfl (by conv => (lhs; whnf)) ?_; refine gO ?_; refine gc_block ?_; rotate_left)
  · refine gx_ret1 (v := .bool _) rfl rfl (fun _ _ => ?_)
    rename_i h _ _
    rw [ba_empty] at h
    unfold nameB
    simp at h
    simp [h]
  · refine gx_ret1 (v := .bool _) rfl rfl (fun _ _ => ?_)
    rename_i h _ _
    have h' : ¬ s.size ≤ 24 := by omega
    unfold nameB
    simp [h']
  · refine gx_ret1 (v := .bool _) rfl rfl (fun _ _ => ?_)
    rename_i h _ _
    unfold nameB
    rw [h]
    simp
  · refine gx_ret1 (v := .bool _) rfl rfl (fun _ _ => ?_)
    rename_i h _ _
    unfold nameB
    rw [h]
    simp
  · rename_i h1 h2 h3 h4
    refine gc_loop (σ := Nat) [24, 25, 3, 26, 27, 28, 29, 30, 31, 32, 33, 34, 35, 4, 36, 37, 38, 39, 40, 41, 42, 43, 44, 45, 46, 47, 48, 49, 50, 51, 5, 52, 53, 54, 55, 56, 57, 58, 59, 60, 61, 2, 62, 23] (fun k => [(23, .int .i64 k)]) (fun _ => []) (fun k => k ≤ s.size ∧ (List.range k).all (charB s) = true) (fun k => s.size - k) 0 ⟨Nat.zero_le _, rfl⟩ ⟨rfl, trivial⟩ .nil ?_
    rintro k base ⟨hk, hI⟩
    focus (refine gc_seq ?_; refine gc_region ?_; refine gC rfl rfl rfl rfl rfl ?_; refine gO ?_; refine gc_seq ?_; refine gc_if_dec rfl (fun _ => ?_) (fun _ => ?_); refine gc_skip ?_; refine gx_next ?_; refine gc_seq ?_; refine gc_block ?_; refine gc_seq ?_; refine gc_region ?_; refine gM rfl rfl (by conv => (lhs; whnf)) ?_; refine gM rfl rfl (by conv => (lhs; whnf)) ?_; refine gN ?_; refine gM rfl rfl (by conv => (lhs; whnf)) ?_; refine gM rfl rfl (by conv => (lhs; whnf)) ?_; apply gw_d; exact w_sidx rfl rfl rfl rfl (by with_reducible exact rfl) (by omega); refine gC rfl rfl rfl rfl rfl ?_; refine gM rfl rfl (by conv => (lhs; whnf)) ?_; refine gw_guard_dec rfl rfl (fun _ => ?_) (fun _ => ?_); refine gM rfl rfl (by conv => (lhs; whnf)) ?_; refine gM rfl rfl (by conv => (lhs; whnf)) ?_; apply gw_d; exact w_sidx rfl rfl rfl rfl (by with_reducible exact rfl) (by omega); refine gC rfl rfl rfl rfl rfl ?_; apply gw_d; exact det_pick_t (v := .bool _) rfl rfl rfl rfl; refine gM rfl rfl (by conv => (lhs; whnf)) ?_; refine gN ?_; refine gM rfl rfl (by conv => (lhs; whnf)) ?_; refine gM rfl rfl (by conv => (lhs; whnf)) ?_; apply gw_d; exact w_sidx rfl rfl rfl rfl (by with_reducible exact rfl) (by omega); refine gC rfl rfl rfl rfl rfl ?_; refine gM rfl rfl (by conv => (lhs; whnf)) ?_; refine gw_guard_dec rfl rfl (fun _ => ?_) (fun _ => ?_); refine gM rfl rfl (by conv => (lhs; whnf)) ?_; refine gM rfl rfl (by conv => (lhs; whnf)) ?_; apply gw_d; exact w_sidx rfl rfl rfl rfl (by with_reducible exact rfl) (by omega); refine gC rfl rfl rfl rfl rfl ?_; apply gw_d; exact det_pick_t (v := .bool _) rfl rfl rfl rfl; refine gM rfl rfl (by conv => (lhs; whnf)) ?_; refine gw_guard_dec rfl rfl (fun _ => ?_) (fun _ => ?_); refine gU rfl ?_; refine gU rfl ?_; refine gU rfl ?_; refine gU rfl ?_; apply gw_d; exact det_pick_t (v := .bool _) rfl rfl rfl rfl; refine gM rfl rfl (by conv => (lhs; whnf)) ?_; refine gN ?_; refine gM rfl rfl (by conv => (lhs; whnf)) ?_; apply gw_d; exact det_not_dec rfl rfl rfl; refine gM rfl rfl (by conv => (lhs; whnf)) ?_; refine gw_guard_dec rfl rfl (fun _ => ?_) (fun _ => ?_); refine gM rfl rfl (by conv => (lhs; whnf)) ?_; refine gC rfl rfl rfl rfl rfl ?_; refine gM rfl rfl (by conv => (lhs; whnf)) ?_; refine gw_guard_dec rfl rfl (fun _ => ?_) (fun _ => ?_); refine gU rfl ?_; refine gU rfl ?_; apply gw_d; exact det_pick_t (v := .bool _) rfl rfl rfl rfl; apply gw_d; exact det_pick_t (v := .bool _) rfl rfl rfl rfl; refine gO ?_; refine gc_if_true rfl ?_; refine gc_seq ?_; refine gc_region ?_; refine gM rfl rfl (by conv => (lhs; whnf)) ?_; refine gO ?_; refine gc_ret ?_; refine gx_block_ret ?_; refine gx_then_ret ?_; refine gx_then_ret ?_; refine gx_block_ret ?_; refine gx_then_ret ?_; rotate_left; refine gM rfl rfl (by conv => (lhs; whnf)) ?_; apply gw_d; exact det_not_ rfl rfl rfl; apply gw_d; exact det_pick_f (v := .bool _) rfl rfl rfl rfl; apply gw_d; exact det_pick_t (v := .bool _) rfl rfl rfl rfl; refine gO ?_; refine gc_if_false rfl ?_; refine gc_skip ?_; refine gx_block ?_; refine gx_next ?_; refine gc_region ?_; apply gw_d; exact det_ar rfl rfl rfl rfl rfl (by omega); refine gM rfl rfl (by conv => (lhs; whnf)) ?_; refine gw_nil ?_; rotate_left; refine gU rfl ?_; refine gU rfl ?_; refine gU rfl ?_; refine gU rfl ?_; refine gU rfl ?_; refine gU rfl ?_; apply gw_d; exact det_pick_f (v := .bool _) rfl rfl rfl rfl; refine gO ?_; refine gc_if_false rfl ?_; refine gc_skip ?_; refine gx_block ?_; refine gx_next ?_; refine gc_region ?_; apply gw_d; exact det_ar rfl rfl rfl rfl rfl (by omega); refine gM rfl rfl (by conv => (lhs; whnf)) ?_; refine gw_nil ?_; rotate_left; refine gM rfl rfl (by conv => (lhs; whnf)) ?_; refine gM rfl rfl (by conv => (lhs; whnf)) ?_; apply gw_d; exact w_sidx rfl rfl rfl rfl (by with_reducible exact rfl) (by omega); refine gC rfl rfl rfl rfl rfl ?_; apply gw_d; exact det_pick_f (v := .bool _) rfl rfl rfl rfl; refine gM rfl rfl (by conv => (lhs; whnf)) ?_; refine gN ?_; refine gM rfl rfl (by conv => (lhs; whnf)) ?_; apply gw_d; exact det_not_dec rfl rfl rfl; refine gM rfl rfl (by conv => (lhs; whnf)) ?_; refine gw_guard_dec rfl rfl (fun _ => ?_) (fun _ => ?_); refine gM rfl rfl (by conv => (lhs; whnf)) ?_; refine gC rfl rfl rfl rfl rfl ?_; refine gM rfl rfl (by conv => (lhs; whnf)) ?_; refine gw_guard_dec rfl rfl (fun _ => ?_) (fun _ => ?_); refine gU rfl ?_; refine gU rfl ?_; apply gw_d; exact det_pick_t (v := .bool _) rfl rfl rfl rfl; apply gw_d; exact det_pick_t (v := .bool _) rfl rfl rfl rfl; refine gO ?_; refine gc_if_true rfl ?_; refine gc_seq ?_; refine gc_region ?_; refine gM rfl rfl (by conv => (lhs; whnf)) ?_; refine gO ?_; refine gc_ret ?_; refine gx_block_ret ?_; refine gx_then_ret ?_; refine gx_then_ret ?_; refine gx_block_ret ?_; refine gx_then_ret ?_; rotate_left; refine gM rfl rfl (by conv => (lhs; whnf)) ?_; apply gw_d; exact det_not_dec rfl rfl rfl; apply gw_d; exact det_pick_f (v := .bool _) rfl rfl rfl rfl; apply gw_d; exact det_pick_t (v := .bool _) rfl rfl rfl rfl; refine gO ?_; refine gc_if_dec rfl (fun _ => ?_) (fun _ => ?_); refine gc_seq ?_; refine gc_region ?_; refine gM rfl rfl (by conv => (lhs; whnf)) ?_; refine gO ?_; refine gc_ret ?_; refine gx_block_ret ?_; refine gx_then_ret ?_; refine gx_then_ret ?_; refine gx_block_ret ?_; refine gx_then_ret ?_; rotate_left; refine gc_skip ?_; refine gx_block ?_; refine gx_next ?_; refine gc_region ?_; apply gw_d; exact det_ar rfl rfl rfl rfl rfl (by omega); refine gM rfl rfl (by conv => (lhs; whnf)) ?_; refine gw_nil ?_; rotate_left; refine gU rfl ?_; refine gU rfl ?_; refine gU rfl ?_; refine gU rfl ?_; refine gU rfl ?_; refine gU rfl ?_; apply gw_d; exact det_pick_f (v := .bool _) rfl rfl rfl rfl; refine gO ?_; refine gc_if_false rfl ?_; refine gc_skip ?_; refine gx_block ?_; refine gx_next ?_; refine gc_region ?_; apply gw_d; exact det_ar rfl rfl rfl rfl rfl (by omega); refine gM rfl rfl (by conv => (lhs; whnf)) ?_; refine gw_nil ?_; rotate_left; refine gU rfl ?_; refine gU rfl ?_; refine gU rfl ?_; refine gU rfl ?_; apply gw_d; exact det_pick_f (v := .bool _) rfl rfl rfl rfl; refine gM rfl rfl (by conv => (lhs; whnf)) ?_; refine gM rfl rfl (by conv => (lhs; whnf)) ?_; refine gM rfl rfl (by conv => (lhs; whnf)) ?_; apply gw_d; exact w_sidx rfl rfl rfl rfl (by with_reducible exact rfl) (by omega); refine gC rfl rfl rfl rfl rfl ?_; apply gw_d; exact det_pick_f (v := .bool _) rfl rfl rfl rfl; refine gM rfl rfl (by conv => (lhs; whnf)) ?_; refine gN ?_; refine gM rfl rfl (by conv => (lhs; whnf)) ?_; apply gw_d; exact det_not_dec rfl rfl rfl; refine gM rfl rfl (by conv => (lhs; whnf)) ?_; refine gw_guard_dec rfl rfl (fun _ => ?_) (fun _ => ?_); refine gM rfl rfl (by conv => (lhs; whnf)) ?_; refine gC rfl rfl rfl rfl rfl ?_; refine gM rfl rfl (by conv => (lhs; whnf)) ?_; refine gw_guard_dec rfl rfl (fun _ => ?_) (fun _ => ?_); refine gU rfl ?_; refine gU rfl ?_; apply gw_d; exact det_pick_t (v := .bool _) rfl rfl rfl rfl; apply gw_d; exact det_pick_t (v := .bool _) rfl rfl rfl rfl; refine gO ?_; refine gc_if_true rfl ?_; refine gc_seq ?_; refine gc_region ?_; refine gM rfl rfl (by conv => (lhs; whnf)) ?_; refine gO ?_; refine gc_ret ?_; refine gx_block_ret ?_; refine gx_then_ret ?_; refine gx_then_ret ?_; refine gx_block_ret ?_; refine gx_then_ret ?_; rotate_left; refine gM rfl rfl (by conv => (lhs; whnf)) ?_; apply gw_d; exact det_not_dec rfl rfl rfl; apply gw_d; exact det_pick_f (v := .bool _) rfl rfl rfl rfl; apply gw_d; exact det_pick_t (v := .bool _) rfl rfl rfl rfl; refine gO ?_; refine gc_if_dec rfl (fun _ => ?_) (fun _ => ?_); refine gc_seq ?_; refine gc_region ?_; refine gM rfl rfl (by conv => (lhs; whnf)) ?_; refine gO ?_; refine gc_ret ?_; refine gx_block_ret ?_; refine gx_then_ret ?_; refine gx_then_ret ?_; refine gx_block_ret ?_; refine gx_then_ret ?_; rotate_left; refine gc_skip ?_; refine gx_block ?_; refine gx_next ?_; refine gc_region ?_; apply gw_d; exact det_ar rfl rfl rfl rfl rfl (by omega); refine gM rfl rfl (by conv => (lhs; whnf)) ?_; refine gw_nil ?_; rotate_left; refine gU rfl ?_; refine gU rfl ?_; refine gU rfl ?_; refine gU rfl ?_; refine gU rfl ?_; refine gU rfl ?_; apply gw_d; exact det_pick_f (v := .bool _) rfl rfl rfl rfl; refine gO ?_; refine gc_if_false rfl ?_; refine gc_skip ?_; refine gx_block ?_; refine gx_next ?_; refine gc_region ?_; apply gw_d; exact det_ar rfl rfl rfl rfl rfl (by omega); refine gM rfl rfl (by conv => (lhs; whnf)) ?_; refine gw_nil ?_; rotate_left; refine gU rfl ?_; refine gU rfl ?_; refine gU rfl ?_; refine gU rfl ?_; apply gw_d; exact det_pick_f (v := .bool _) rfl rfl rfl rfl; refine gM rfl rfl (by conv => (lhs; whnf)) ?_; refine gN ?_; refine gM rfl rfl (by conv => (lhs; whnf)) ?_; refine gM rfl rfl (by conv => (lhs; whnf)) ?_; apply gw_d; exact w_sidx rfl rfl rfl rfl (by with_reducible exact rfl) (by omega); refine gC rfl rfl rfl rfl rfl ?_; refine gM rfl rfl (by conv => (lhs; whnf)) ?_; refine gw_guard_dec rfl rfl (fun _ => ?_) (fun _ => ?_); refine gM rfl rfl (by conv => (lhs; whnf)) ?_; refine gM rfl rfl (by conv => (lhs; whnf)) ?_; apply gw_d; exact w_sidx rfl rfl rfl rfl (by with_reducible exact rfl) (by omega); refine gC rfl rfl rfl rfl rfl ?_; apply gw_d; exact det_pick_t (v := .bool _) rfl rfl rfl rfl; refine gM rfl rfl (by conv => (lhs; whnf)) ?_; refine gw_guard_dec rfl rfl (fun _ => ?_) (fun _ => ?_); refine gU rfl ?_; refine gU rfl ?_; refine gU rfl ?_; refine gU rfl ?_; apply gw_d; exact det_pick_t (v := .bool _) rfl rfl rfl rfl; refine gM rfl rfl (by conv => (lhs; whnf)) ?_; refine gN ?_; refine gM rfl rfl (by conv => (lhs; whnf)) ?_; apply gw_d; exact det_not_ rfl rfl rfl; refine gM rfl rfl (by conv => (lhs; whnf)) ?_; refine gM rfl rfl (by conv => (lhs; whnf)) ?_; refine gC rfl rfl rfl rfl rfl ?_; refine gM rfl rfl (by conv => (lhs; whnf)) ?_; refine gw_guard_dec rfl rfl (fun _ => ?_) (fun _ => ?_); refine gU rfl ?_; refine gU rfl ?_; apply gw_d; exact det_pick_t (v := .bool _) rfl rfl rfl rfl; apply gw_d; exact det_pick_t (v := .bool _) rfl rfl rfl rfl; refine gO ?_; refine gc_if_true rfl ?_; refine gc_seq ?_; refine gc_region ?_; refine gM rfl rfl (by conv => (lhs; whnf)) ?_; refine gO ?_; refine gc_ret ?_; refine gx_block_ret ?_; refine gx_then_ret ?_; refine gx_then_ret ?_; refine gx_block_ret ?_; refine gx_then_ret ?_; rotate_left; refine gM rfl rfl (by conv => (lhs; whnf)) ?_; apply gw_d; exact det_not_ rfl rfl rfl; apply gw_d; exact det_pick_f (v := .bool _) rfl rfl rfl rfl; apply gw_d; exact det_pick_t (v := .bool _) rfl rfl rfl rfl; refine gO ?_; refine gc_if_false rfl ?_; refine gc_skip ?_; refine gx_block ?_; refine gx_next ?_; refine gc_region ?_; apply gw_d; exact det_ar rfl rfl rfl rfl rfl (by omega); refine gM rfl rfl (by conv => (lhs; whnf)) ?_; refine gw_nil ?_; rotate_left; refine gM rfl rfl (by conv => (lhs; whnf)) ?_; refine gM rfl rfl (by conv => (lhs; whnf)) ?_; apply gw_d; exact w_sidx rfl rfl rfl rfl (by with_reducible exact rfl) (by omega); refine gC rfl rfl rfl rfl rfl ?_; apply gw_d; exact det_pick_f (v := .bool _) rfl rfl rfl rfl; refine gM rfl rfl (by conv => (lhs; whnf)) ?_; refine gN ?_; refine gM rfl rfl (by conv => (lhs; whnf)) ?_; apply gw_d; exact det_not_ rfl rfl rfl; refine gM rfl rfl (by conv => (lhs; whnf)) ?_; refine gM rfl rfl (by conv => (lhs; whnf)) ?_; refine gC rfl rfl rfl rfl rfl ?_; refine gM rfl rfl (by conv => (lhs; whnf)) ?_; refine gw_guard_dec rfl rfl (fun _ => ?_) (fun _ => ?_); refine gU rfl ?_; refine gU rfl ?_; apply gw_d; exact det_pick_t (v := .bool _) rfl rfl rfl rfl; apply gw_d; exact det_pick_t (v := .bool _) rfl rfl rfl rfl; refine gO ?_; refine gc_if_true rfl ?_; refine gc_seq ?_; refine gc_region ?_; refine gM rfl rfl (by conv => (lhs; whnf)) ?_; refine gO ?_; refine gc_ret ?_; refine gx_block_ret ?_; refine gx_then_ret ?_; refine gx_then_ret ?_; refine gx_block_ret ?_; refine gx_then_ret ?_; rotate_left; refine gM rfl rfl (by conv => (lhs; whnf)) ?_; apply gw_d; exact det_not_dec rfl rfl rfl; apply gw_d; exact det_pick_f (v := .bool _) rfl rfl rfl rfl; apply gw_d; exact det_pick_t (v := .bool _) rfl rfl rfl rfl; refine gO ?_; refine gc_if_dec rfl (fun _ => ?_) (fun _ => ?_); refine gc_seq ?_; refine gc_region ?_; refine gM rfl rfl (by conv => (lhs; whnf)) ?_; refine gO ?_; refine gc_ret ?_; refine gx_block_ret ?_; refine gx_then_ret ?_; refine gx_then_ret ?_; refine gx_block_ret ?_; refine gx_then_ret ?_; rotate_left; refine gc_skip ?_; refine gx_block ?_; refine gx_next ?_; refine gc_region ?_; apply gw_d; exact det_ar rfl rfl rfl rfl rfl (by omega); refine gM rfl rfl (by conv => (lhs; whnf)) ?_; refine gw_nil ?_; rotate_left; refine gU rfl ?_; refine gU rfl ?_; refine gU rfl ?_; refine gU rfl ?_; apply gw_d; exact det_pick_f (v := .bool _) rfl rfl rfl rfl; refine gM rfl rfl (by conv => (lhs; whnf)) ?_; refine gM rfl rfl (by conv => (lhs; whnf)) ?_; refine gM rfl rfl (by conv => (lhs; whnf)) ?_; apply gw_d; exact w_sidx rfl rfl rfl rfl (by with_reducible exact rfl) (by omega); refine gC rfl rfl rfl rfl rfl ?_; apply gw_d; exact det_pick_f (v := .bool _) rfl rfl rfl rfl; refine gM rfl rfl (by conv => (lhs; whnf)) ?_; refine gN ?_; refine gM rfl rfl (by conv => (lhs; whnf)) ?_; apply gw_d; exact det_not_ rfl rfl rfl; refine gM rfl rfl (by conv => (lhs; whnf)) ?_; refine gM rfl rfl (by conv => (lhs; whnf)) ?_; refine gC rfl rfl rfl rfl rfl ?_; refine gM rfl rfl (by conv => (lhs; whnf)) ?_; refine gw_guard_dec rfl rfl (fun _ => ?_) (fun _ => ?_); refine gU rfl ?_; refine gU rfl ?_; apply gw_d; exact det_pick_t (v := .bool _) rfl rfl rfl rfl; apply gw_d; exact det_pick_t (v := .bool _) rfl rfl rfl rfl; refine gO ?_; refine gc_if_true rfl ?_; refine gc_seq ?_; refine gc_region ?_; refine gM rfl rfl (by conv => (lhs; whnf)) ?_; refine gO ?_; refine gc_ret ?_; refine gx_block_ret ?_; refine gx_then_ret ?_; refine gx_then_ret ?_; refine gx_block_ret ?_; refine gx_then_ret ?_; rotate_left; refine gM rfl rfl (by conv => (lhs; whnf)) ?_; apply gw_d; exact det_not_dec rfl rfl rfl; apply gw_d; exact det_pick_f (v := .bool _) rfl rfl rfl rfl; apply gw_d; exact det_pick_t (v := .bool _) rfl rfl rfl rfl; refine gO ?_; refine gc_if_dec rfl (fun _ => ?_) (fun _ => ?_); refine gc_seq ?_; refine gc_region ?_; refine gM rfl rfl (by conv => (lhs; whnf)) ?_; refine gO ?_; refine gc_ret ?_; refine gx_block_ret ?_; refine gx_then_ret ?_; refine gx_then_ret ?_; refine gx_block_ret ?_; refine gx_then_ret ?_; rotate_left; refine gc_skip ?_; refine gx_block ?_; refine gx_next ?_; refine gc_region ?_; apply gw_d; exact det_ar rfl rfl rfl rfl rfl (by omega); refine gM rfl rfl (by conv => (lhs; whnf)) ?_; refine gw_nil ?_; rotate_left; refine gc_exit ?_; refine gx_then_exit ?_; refine gx_then_exit ?_; refine gx_block_exit ?_; refine gx_next ?_; refine gc_seq ?_; refine gc_region ?_; refine gM rfl rfl (by conv => (lhs; whnf)) ?_; refine gO ?_; refine gc_ret ?_; rotate_left)
    all_goals first
      | exact gx_round (k + 1) ⟨by omega, chars_snoc hI (char_yes (by omega))⟩ (by omega) (by repeat (first | exact Keeps.refl | refine Keeps.upd rfl ?_ | refine Keeps.sets rfl ?_ | refine Keeps.havoc rfl ?_)) ⟨rfl, trivial⟩ .nil
      | (refine gx_ret1 (v := .bool _) rfl rfl (fun _ _ => ?_); rw [nameB_no (by omega) (char_no (k := k) (by omega))])
      | skip
    refine gx_ret1 (v := .bool _) rfl rfl (fun _ _ => ?_)
    obtain rfl : k = s.size := by omega
    rw [ba_empty] at h1
    simp only [decide_eq_false_iff_not] at h1
    have h2' : s.size ≤ 24 := by omega
    unfold nameB
    rw [h3, h4, hI]
    simp [h1, h2']
end Go.Proofs.YtckhibfbdnoigaaGreat

/- Contracts: formulas that are names. -/
namespace Go.Proofs.YtckhibfbdnoigaaGreat
open Go.RowKit
set_option maxRecDepth 100000
set_option maxHeartbeats 1000000
/-! ### Names -/
theorem isDigit_ok (w : World) (c : Int) : Ok Tryz.prog 145 [.int .u8 c].toArray w fun r _ => r = .bool (decide (48 ≤ c ∧ c ≤ 57)) := by
  refine ok_enter Tryz.func145 rfl Tryz.ntmps145 rfl ?_
  focus (refine gc_seq ?_; refine gc_region ?_; refine gM rfl rfl (by conv => (lhs; whnf)) ?_; refine gN ?_; refine gM rfl rfl (by conv => (lhs; whnf)) ?_; refine gC rfl rfl rfl rfl rfl ?_; refine gM rfl rfl (by conv => (lhs; whnf)) ?_; refine gw_guard_dec rfl rfl (fun _ => ?_) (fun _ => ?_); refine gM rfl rfl (by conv => (lhs; whnf)) ?_; refine gC rfl rfl rfl rfl rfl ?_; apply gw_d; exact det_pick_t (v := .bool _) rfl rfl rfl rfl; refine gM rfl rfl (by conv => (lhs; whnf)) ?_; refine gO ?_; refine gc_ret ?_; rotate_left; refine gU rfl ?_; refine gU rfl ?_; apply gw_d; exact det_pick_f (v := .bool _) rfl rfl rfl rfl; refine gM rfl rfl (by conv => (lhs; whnf)) ?_; refine gO ?_; refine gc_ret ?_; rotate_left)
  all_goals (refine gx_ret1 (v := .bool _) rfl rfl (fun _ _ => ?_); simp [*])
theorem operands2_ok (w : World) : Ok Tryz.prog 120 [.int .i64 2].toArray w fun r _ => r = .tuple #[.int .i64 0, .int .i64 0] := by
  refine ok_enter Tryz.func120 rfl Tryz.ntmps120 rfl ?_
  focus (refine gc_seq ?_; refine gc_region ?_; refine gM rfl rfl (by conv => (lhs; whnf)) ?_; refine gM rfl rfl (by conv => (lhs; whnf)) ?_; refine gO ?_; refine gc_seq ?_; refine gc_seq ?_; refine gc_region ?_; refine gM rfl rfl (by conv => (lhs; whnf)) ?_; refine gO ?_; refine gc_block ?_; refine gc_seq ?_; refine gc_seq ?_; refine gc_region ?_; refine gC rfl rfl rfl rfl rfl ?_; refine gM rfl rfl (by conv => (lhs; whnf)) ?_; refine gO ?_)
  refine gc_if_dec rfl (fun h => absurd h (by decide)) (fun _ => ?_)
  focus (refine gc_region ?_; refine gC rfl rfl rfl rfl rfl ?_; refine gM rfl rfl (by conv => (lhs; whnf)) ?_; refine gO ?_)
  refine gc_if_dec rfl (fun _ => ?_) (fun h => absurd rfl h)
  focus (refine gc_seq ?_; refine gc_region ?_; refine gM rfl rfl (by conv => (lhs; whnf)) ?_; refine gM rfl rfl (by conv => (lhs; whnf)) ?_; refine gO ?_; refine gc_ret ?_; refine gx_block_ret ?_; refine gx_then_ret ?_)
  refine gx_ret2 (u := .int _ _) (v := .int _ _) rfl rfl rfl (fun _ _ => ?_)
  rfl

theorem fname_ok (w : World) (s : ByteArray) (hs : s.size ≤ 9223372036854775807) : Ok Tryz.prog 121 [.string s].toArray w fun r _ => r = .bool (nameB s) := by
  refine ok_enter Tryz.func121 rfl Tryz.ntmps121 rfl ?_
  focus (refine gc_seq ?_; refine gc_region ?_; refine gM rfl rfl (by conv => (lhs; whnf)) ?_; refine gO ?_; refine gc_seq ?_; refine gc_seq ?_; refine gc_region ?_; refine gM rfl rfl (by conv => (lhs; whnf)) ?_; apply gw_d; exact w_len_str rfl rfl rfl; refine gC rfl rfl rfl rfl rfl ?_; refine gM rfl rfl (by conv => (lhs; whnf)) ?_; refine gw_guard_dec rfl rfl (fun _ => ?_) (fun _ => ?_); refine gU rfl ?_; refine gU rfl ?_; refine gU rfl ?_; apply gw_d; exact det_pick_t (v := .bool _) rfl rfl rfl rfl; refine gM rfl rfl (by conv => (lhs; whnf)) ?_; refine gU rfl ?_; refine gU rfl ?_; apply gw_d; exact det_pick_t (v := .bool _) rfl rfl rfl rfl; refine gM rfl rfl (by conv => (lhs; whnf)) ?_; refine gU rfl ?_; refine gU rfl ?_; apply gw_d; exact det_pick_t (v := .bool _) rfl rfl rfl rfl; refine gO ?_; refine gc_if_true rfl ?_; refine gc_seq ?_; refine gc_region ?_; refine gM rfl rfl (by conv => (lhs; whnf)) ?_; refine gO ?_; refine gc_ret ?_; refine gx_then_ret ?_; rotate_left; refine gM rfl rfl (by conv => (lhs; whnf)) ?_; apply gw_d; exact w_len_str rfl rfl rfl; refine gC rfl rfl rfl rfl rfl ?_; apply gw_d; exact det_pick_f (v := .bool _) rfl rfl rfl rfl; refine gM rfl rfl (by conv => (lhs; whnf)) ?_; refine gw_guard_dec rfl rfl (fun _ => ?_) (fun _ => ?_); refine gU rfl ?_; refine gU rfl ?_; apply gw_d; exact det_pick_t (v := .bool _) rfl rfl rfl rfl; refine gM rfl rfl (by conv => (lhs; whnf)) ?_; refine gU rfl ?_; refine gU rfl ?_; apply gw_d; exact det_pick_t (v := .bool _) rfl rfl rfl rfl; refine gO ?_; refine gc_if_true rfl ?_; refine gc_seq ?_; refine gc_region ?_; refine gM rfl rfl (by conv => (lhs; whnf)) ?_; refine gO ?_; refine gc_ret ?_; refine gx_then_ret ?_; rotate_left; refine gM rfl rfl (by conv => (lhs; whnf)) ?_; apply gw_d; exact det_seq rfl rfl rfl rfl; apply gw_d; exact det_pick_f (v := .bool _) rfl rfl rfl rfl; refine gM rfl rfl (by conv => (lhs; whnf)) ?_; refine gw_guard rfl rfl (fun _ => ?_) (fun _ => ?_); refine gU rfl ?_; refine gU rfl ?_; apply gw_d; exact det_pick_t (v := .bool _) rfl rfl rfl rfl; refine gO ?_; refine gc_if_true rfl ?_; refine gc_seq ?_; refine gc_region ?_; refine gM rfl rfl (by conv => (lhs; whnf)) ?_; refine gO ?_; refine gc_ret ?_; refine gx_then_ret ?_; rotate_left; refine gM rfl rfl (by conv => (lhs; whnf)) ?_; apply gw_d; exact det_seq rfl rfl rfl rfl; apply gw_d; exact det_pick_f (v := .bool _) rfl rfl rfl rfl; refine gO ?_; refine gc_if rfl (fun _ => ?_) (fun _ => ?_); refine gc_seq ?_; refine gc_region ?_; refine gM rfl rfl (by conv => (lhs; whnf)) ?_; refine gO ?_; refine gc_ret ?_; refine gx_then_ret ?_; rotate_left; refine gc_skip ?_; refine gx_next ?_; refine gc_seq ?_; refine gc_seq ?_; refine gc_region ?_; refine gM rfl rfl (by conv => (lhs; whnf)) ?_; apply gw_d; exact w_len_str rfl rfl rfl; refine gM rfl rfl (by conv => (lhs; whnf)) ?_; refine gO ?_; refine gc_block ?_; rotate_left)
  · refine gx_ret1 (v := .bool _) rfl rfl (fun _ _ => ?_)
    rename_i h _ _
    unfold nameB
    have h' : s.size = 0 := by omega
    simp [h']
  · refine gx_ret1 (v := .bool _) rfl rfl (fun _ _ => ?_)
    rename_i h _ _
    have h' : ¬ s.size ≤ 24 := by omega
    unfold nameB
    simp [h']
  · refine gx_ret1 (v := .bool _) rfl rfl (fun _ _ => ?_)
    rename_i h _ _
    unfold nameB
    rw [h]
    simp
  · refine gx_ret1 (v := .bool _) rfl rfl (fun _ _ => ?_)
    rename_i h _ _
    unfold nameB
    rw [h]
    simp
  · rename_i h1 h2 h3 h4
    refine gc_loop (σ := Nat) [25, 26, 3, 27, 28, 29, 4, 30, 31, 32, 33, 34, 35, 5, 36, 37, 38, 39, 40, 41, 42, 43, 44, 45, 46, 47, 48, 49, 50, 2, 51, 24] (fun k => [(24, .int .i64 k)]) (fun _ => []) (fun k => k ≤ s.size ∧ (List.range k).all (charB s) = true) (fun k => s.size - k) 0 ⟨Nat.zero_le _, rfl⟩ ⟨rfl, trivial⟩ .nil ?_
    rintro k base ⟨hk, hI⟩
    focus (refine gc_seq ?_; refine gc_region ?_; refine gC rfl rfl rfl rfl rfl ?_; refine gO ?_; refine gc_seq ?_; refine gc_if_dec rfl (fun _ => ?_) (fun _ => ?_); refine gc_skip ?_; refine gx_next ?_; refine gc_seq ?_; refine gc_block ?_; refine gc_seq ?_; refine gc_region ?_; refine gM rfl rfl (by conv => (lhs; whnf)) ?_; refine gM rfl rfl (by conv => (lhs; whnf)) ?_; refine gN ?_; refine gM rfl rfl (by conv => (lhs; whnf)) ?_; refine gM rfl rfl (by conv => (lhs; whnf)) ?_; apply gw_d; exact w_sidx rfl rfl rfl rfl (by with_reducible exact rfl) (by omega); refine gM rfl rfl (by conv => (lhs; whnf)) ?_; refine gN ?_; refine gM rfl rfl (by conv => (lhs; whnf)) ?_; refine gC rfl rfl rfl rfl rfl ?_; refine gM rfl rfl (by conv => (lhs; whnf)) ?_; refine gw_guard_dec rfl rfl (fun _ => ?_) (fun _ => ?_); refine gM rfl rfl (by conv => (lhs; whnf)) ?_; refine gC rfl rfl rfl rfl rfl ?_; apply gw_d; exact det_pick_t (v := .bool _) rfl rfl rfl rfl; refine gM rfl rfl (by conv => (lhs; whnf)) ?_; refine gN ?_; refine gM rfl rfl (by conv => (lhs; whnf)) ?_; apply gw_d; exact det_not_dec rfl rfl rfl; refine gM rfl rfl (by conv => (lhs; whnf)) ?_; refine gw_guard_dec rfl rfl (fun _ => ?_) (fun _ => ?_); refine gM rfl rfl (by conv => (lhs; whnf)) ?_; refine gC rfl rfl rfl rfl rfl ?_; refine gM rfl rfl (by conv => (lhs; whnf)) ?_; refine gw_guard_dec rfl rfl (fun _ => ?_) (fun _ => ?_); refine gU rfl ?_; refine gU rfl ?_; refine gU rfl ?_; refine gU rfl ?_; refine gU rfl ?_; refine gU rfl ?_; refine gU rfl ?_; apply gw_d; exact det_pick_t (v := .bool _) rfl rfl rfl rfl; apply gw_d; exact det_pick_t (v := .bool _) rfl rfl rfl rfl; refine gO ?_; refine gc_if_true rfl ?_; refine gc_seq ?_; refine gc_region ?_; refine gM rfl rfl (by conv => (lhs; whnf)) ?_; refine gO ?_; refine gc_ret ?_; refine gx_block_ret ?_; refine gx_then_ret ?_; refine gx_then_ret ?_; refine gx_block_ret ?_; refine gx_then_ret ?_; rotate_left; refine gM rfl rfl (by conv => (lhs; whnf)) ?_; refine gC rfl rfl rfl rfl rfl ?_; refine gM rfl rfl (by conv => (lhs; whnf)) ?_; refine gw_guard_dec rfl rfl (fun _ => ?_) (fun _ => ?_); refine gM rfl rfl (by conv => (lhs; whnf)) ?_; apply gw_d; exact w_call rfl rfl (fun w s => isDigit_ok w _) rfl; apply gw_d; exact det_not_dec rfl rfl rfl; apply gw_d; exact det_pick_t (v := .bool _) rfl rfl rfl rfl; apply gw_d; exact det_pick_f (v := .bool _) rfl rfl rfl rfl; apply gw_d; exact det_pick_t (v := .bool _) rfl rfl rfl rfl; refine gO ?_; refine gc_if_dec rfl (fun _ => ?_) (fun _ => ?_); refine gc_seq ?_; refine gc_region ?_; refine gM rfl rfl (by conv => (lhs; whnf)) ?_; refine gO ?_; refine gc_ret ?_; refine gx_block_ret ?_; refine gx_then_ret ?_; refine gx_then_ret ?_; refine gx_block_ret ?_; refine gx_then_ret ?_; rotate_left; refine gc_skip ?_; refine gx_block ?_; refine gx_next ?_; refine gc_region ?_; apply gw_d; exact det_ar rfl rfl rfl rfl rfl (by omega); refine gM rfl rfl (by conv => (lhs; whnf)) ?_; refine gw_nil ?_; rotate_left; refine gU rfl ?_; refine gU rfl ?_; refine gU rfl ?_; apply gw_d; exact det_pick_f (v := .bool _) rfl rfl rfl rfl; apply gw_d; exact det_pick_f (v := .bool _) rfl rfl rfl rfl; apply gw_d; exact det_pick_t (v := .bool _) rfl rfl rfl rfl; refine gO ?_; refine gc_if_false rfl ?_; refine gc_skip ?_; refine gx_block ?_; refine gx_next ?_; refine gc_region ?_; apply gw_d; exact det_ar rfl rfl rfl rfl rfl (by omega); refine gM rfl rfl (by conv => (lhs; whnf)) ?_; refine gw_nil ?_; rotate_left; refine gU rfl ?_; refine gU rfl ?_; refine gU rfl ?_; refine gU rfl ?_; refine gU rfl ?_; refine gU rfl ?_; refine gU rfl ?_; refine gU rfl ?_; refine gU rfl ?_; refine gU rfl ?_; refine gU rfl ?_; apply gw_d; exact det_pick_f (v := .bool _) rfl rfl rfl rfl; refine gO ?_; refine gc_if_false rfl ?_; refine gc_skip ?_; refine gx_block ?_; refine gx_next ?_; refine gc_region ?_; apply gw_d; exact det_ar rfl rfl rfl rfl rfl (by omega); refine gM rfl rfl (by conv => (lhs; whnf)) ?_; refine gw_nil ?_; rotate_left; refine gU rfl ?_; refine gU rfl ?_; apply gw_d; exact det_pick_f (v := .bool _) rfl rfl rfl rfl; refine gM rfl rfl (by conv => (lhs; whnf)) ?_; refine gN ?_; refine gM rfl rfl (by conv => (lhs; whnf)) ?_; apply gw_d; exact det_not_ rfl rfl rfl; refine gM rfl rfl (by conv => (lhs; whnf)) ?_; refine gM rfl rfl (by conv => (lhs; whnf)) ?_; refine gC rfl rfl rfl rfl rfl ?_; refine gM rfl rfl (by conv => (lhs; whnf)) ?_; refine gw_guard_dec rfl rfl (fun _ => ?_) (fun _ => ?_); refine gU rfl ?_; refine gU rfl ?_; refine gU rfl ?_; refine gU rfl ?_; refine gU rfl ?_; refine gU rfl ?_; refine gU rfl ?_; apply gw_d; exact det_pick_t (v := .bool _) rfl rfl rfl rfl; apply gw_d; exact det_pick_t (v := .bool _) rfl rfl rfl rfl; refine gO ?_; refine gc_if_true rfl ?_; refine gc_seq ?_; refine gc_region ?_; refine gM rfl rfl (by conv => (lhs; whnf)) ?_; refine gO ?_; refine gc_ret ?_; refine gx_block_ret ?_; refine gx_then_ret ?_; refine gx_then_ret ?_; refine gx_block_ret ?_; refine gx_then_ret ?_; rotate_left; refine gM rfl rfl (by conv => (lhs; whnf)) ?_; refine gC rfl rfl rfl rfl rfl ?_; refine gM rfl rfl (by conv => (lhs; whnf)) ?_; refine gw_guard_dec rfl rfl (fun _ => ?_) (fun _ => ?_); refine gM rfl rfl (by conv => (lhs; whnf)) ?_; apply gw_d; exact w_call rfl rfl (fun w s => isDigit_ok w _) rfl; apply gw_d; exact det_not_dec rfl rfl rfl; apply gw_d; exact det_pick_t (v := .bool _) rfl rfl rfl rfl; apply gw_d; exact det_pick_f (v := .bool _) rfl rfl rfl rfl; apply gw_d; exact det_pick_t (v := .bool _) rfl rfl rfl rfl; refine gO ?_; refine gc_if_dec rfl (fun _ => ?_) (fun _ => ?_); refine gc_seq ?_; refine gc_region ?_; refine gM rfl rfl (by conv => (lhs; whnf)) ?_; refine gO ?_; refine gc_ret ?_; refine gx_block_ret ?_; refine gx_then_ret ?_; refine gx_then_ret ?_; refine gx_block_ret ?_; refine gx_then_ret ?_; rotate_left; refine gc_skip ?_; refine gx_block ?_; refine gx_next ?_; refine gc_region ?_; apply gw_d; exact det_ar rfl rfl rfl rfl rfl (by omega); refine gM rfl rfl (by conv => (lhs; whnf)) ?_; refine gw_nil ?_; rotate_left; refine gU rfl ?_; refine gU rfl ?_; refine gU rfl ?_; apply gw_d; exact det_pick_f (v := .bool _) rfl rfl rfl rfl; apply gw_d; exact det_pick_f (v := .bool _) rfl rfl rfl rfl; apply gw_d; exact det_pick_t (v := .bool _) rfl rfl rfl rfl; refine gO ?_; refine gc_if_false rfl ?_; refine gc_skip ?_; refine gx_block ?_; refine gx_next ?_; refine gc_region ?_; apply gw_d; exact det_ar rfl rfl rfl rfl rfl (by omega); refine gM rfl rfl (by conv => (lhs; whnf)) ?_; refine gw_nil ?_; rotate_left; refine gc_exit ?_; refine gx_then_exit ?_; refine gx_then_exit ?_; refine gx_block_exit ?_; refine gx_next ?_; refine gc_seq ?_; refine gc_region ?_; refine gM rfl rfl (by conv => (lhs; whnf)) ?_; refine gO ?_; refine gc_ret ?_; rotate_left)
    all_goals first
      | exact gx_round (k + 1) ⟨by omega, chars_snoc hI (char_yes (by omega))⟩ (by omega) (by repeat (first | exact Keeps.refl | refine Keeps.upd rfl ?_ | refine Keeps.sets rfl ?_ | refine Keeps.havoc rfl ?_)) ⟨rfl, trivial⟩ .nil
      | (refine gx_ret1 (v := .bool _) rfl rfl (fun _ _ => ?_); rw [nameB_no (by omega) (char_no (k := k) (by omega))])
      | skip
    refine gx_ret1 (v := .bool _) rfl rfl (fun _ _ => ?_)
    obtain rfl : k = s.size := by omega
    have h2' : s.size ≤ 24 := by omega
    have h1' : ¬ s.size = 0 := by omega
    unfold nameB
    rw [h3, h4, hI]
    simp [h1', h2']

theorem right_ok (w : World) (s : ByteArray) (hs : s.size ≤ 9223372036854775807) : Ok Tryz.prog 99 [.agg #[.int .i64 2, .bool false, .slice none 0 0, .slice none 0 0, .string s, .slice none 0 0]].toArray w fun r _ => r = .bool (nameB s) := by
  refine ok_enter Tryz.func99 rfl Tryz.ntmps99 rfl ?_
  focus (refine gc_seq ?_; refine gc_region ?_; refine gw_boxd (v := .agg _) rfl rfl (fun _ => ?_); refine gM rfl rfl (by conv => (lhs; whnf)) ?_; refine gN ?_; refine gF rfl rfl rfl ?_; apply gw_d; exact w_load_box rfl rfl rfl .here rfl; apply gw_d; exact w_call rfl rfl (fun w s => operands2_ok w) rfl; refine gM rfl rfl (by conv => (lhs; whnf)) ?_; apply gw_d; exact det_extract rfl rfl rfl (by conv => (lhs; whnf)); apply gw_d; exact det_extract rfl rfl rfl (by conv => (lhs; whnf)); refine gM rfl rfl (by conv => (lhs; whnf)) ?_; refine gM rfl rfl (by conv => (lhs; whnf)) ?_; refine gO ?_; refine gc_seq ?_; refine gc_seq ?_; refine gc_region ?_; refine gF rfl rfl rfl ?_; apply gw_d; exact w_load_box rfl rfl rfl .here rfl; refine gL rfl rfl rfl ?_; refine gM rfl rfl (by conv => (lhs; whnf)) ?_; refine gC rfl rfl rfl rfl rfl ?_; refine gM rfl rfl (by conv => (lhs; whnf)) ?_; refine gF rfl rfl rfl ?_; apply gw_d; exact w_load_box rfl rfl rfl .here rfl; refine gL rfl rfl rfl ?_; refine gM rfl rfl (by conv => (lhs; whnf)) ?_; refine gC rfl rfl rfl rfl rfl ?_; apply gw_d; exact det_pick_f (v := .bool _) rfl rfl rfl rfl; refine gO ?_)
  refine gc_if_dec rfl (fun h => absurd h (by decide)) (fun _ => ?_)
  focus (refine gc_skip ?_; refine gx_next ?_; refine gc_seq ?_; refine gc_seq ?_; refine gc_region ?_; refine gF rfl rfl rfl ?_; apply gw_d; exact w_load_box rfl rfl rfl .here rfl; refine gC rfl rfl rfl rfl rfl ?_; refine gO ?_)
  refine gc_if_dec rfl (fun _ => ?_) (fun h => absurd rfl h)
  focus (refine gc_seq ?_; refine gc_region ?_; refine gF rfl rfl rfl ?_; apply gw_d; exact w_load_box rfl rfl rfl .here rfl; apply gw_d; exact w_call rfl rfl (fun w _ => fname_ok w s hs) rfl; apply gw_d; exact det_not_ rfl rfl rfl; refine gO ?_)
  refine gc_if rfl (fun h => ?_) (fun h => ?_)
  · focus (refine gc_seq ?_; refine gc_region ?_; refine gM rfl rfl (by conv => (lhs; whnf)) ?_; refine gO ?_; refine gc_ret ?_; refine gx_then_ret ?_)
    refine gx_ret1 (v := .bool _) rfl rfl (fun _ _ => ?_)
    simp at h
    rw [h]
  · focus (refine gc_skip ?_; refine gx_next ?_; refine gc_seq ?_; refine gc_seq ?_; refine gc_region ?_; refine gF rfl rfl rfl ?_; apply gw_d; exact w_load_box rfl rfl rfl .here rfl; refine gC rfl rfl rfl rfl rfl ?_; refine gO ?_)
    refine gc_if_dec rfl (fun h => absurd h (by decide)) (fun _ => ?_)
    focus (refine gc_skip ?_; refine gx_next ?_; refine gc_seq ?_; refine gc_region ?_; refine gF rfl rfl rfl ?_; apply gw_d; exact w_load_part rfl rfl rfl .here rfl rfl; apply gw_d; exact w_build (cells := #[.bool false, .slice none 0 0, .slice none 0 0]) rfl rfl (by kernel_rfl); apply gw_d; exact w_call rfl rfl (fun w _ => ratioCmp0_ok w) rfl; refine gC rfl rfl rfl rfl rfl ?_; refine gM rfl rfl (by conv => (lhs; whnf)) ?_; refine gO ?_; refine gc_ret ?_)
    refine gx_ret1 (v := .bool _) rfl rfl (fun _ _ => ?_)
    simp at h
    rw [h]
    rfl
theorem check_ok (w : World) (s : ByteArray) (hs : s.size ≤ 9223372036854775807) : Ok Tryz.prog 73 [.agg #[.int .i64 2, .bool false, .slice none 0 0, .slice none 0 0, .string s, .slice none 0 0], .int .i64 1].toArray w fun r _ => r = .int .i64 (if nameB s = true then 0 else 1) := by
  refine ok_enter Tryz.func73 rfl Tryz.ntmps73 rfl ?_
  focus (refine gc_seq ?_; refine gc_region ?_; refine gw_boxd (v := .agg _) rfl rfl (fun _ => ?_); refine gM rfl rfl (by conv => (lhs; whnf)) ?_; refine gO ?_; refine gc_seq ?_; refine gc_seq ?_; refine gc_region ?_; refine gM rfl rfl (by conv => (lhs; whnf)) ?_; refine gC rfl rfl rfl rfl rfl ?_; refine gO ?_)
  refine gc_if_dec rfl (fun h => absurd h (by decide)) (fun _ => ?_)
  focus (refine gc_skip ?_; refine gx_next ?_; refine gc_seq ?_; refine gc_seq ?_; refine gc_region ?_; apply gw_d; exact w_load_boxN rfl rfl rfl .here rfl; apply gw_d; exact w_call rfl rfl (fun w _ => right_ok w s hs) rfl; apply gw_d; exact det_not_ rfl rfl rfl; refine gO ?_)
  refine gc_if rfl (fun h => ?_) (fun h => ?_)
  · focus (refine gc_seq ?_; refine gc_region ?_; refine gM rfl rfl (by conv => (lhs; whnf)) ?_; refine gO ?_; refine gc_ret ?_; refine gx_then_ret ?_)
    refine gx_ret1 (v := .int _ _) rfl rfl (fun _ _ => ?_)
    simp at h
    rw [h]
    rfl
  · focus (refine gc_skip ?_; refine gx_next ?_; refine gc_seq ?_; refine gc_seq ?_; refine gc_region ?_; refine gF rfl rfl rfl ?_; apply gw_d; exact w_load_box rfl rfl rfl .here rfl; refine gL rfl rfl rfl ?_; refine gM rfl rfl (by conv => (lhs; whnf)) ?_; refine gO ?_; refine gc_block ?_)
    refine gc_loop (σ := Unit) [17, 18, 19, 6, 20, 21, 22, 23, 7, 24, 25, 26, 4, 27, 16] (fun _ => [(16, .int .i64 0)]) (fun _ => []) (fun _ => True) (fun _ => 0) () trivial ⟨rfl, trivial⟩ .nil ?_
    rintro k base -
    focus (refine gc_seq ?_; refine gc_region ?_; refine gC rfl rfl rfl rfl rfl ?_; refine gO ?_; refine gc_seq ?_)
    refine gc_if_dec rfl (fun h => absurd h (by decide)) (fun _ => ?_)
    focus (refine gc_exit ?_; refine gx_then_exit ?_; refine gx_then_exit ?_; refine gx_block_exit ?_; refine gx_next ?_; refine gc_seq ?_; refine gc_region ?_; refine gM rfl rfl (by conv => (lhs; whnf)) ?_; refine gO ?_; refine gc_ret ?_)
    refine gx_ret1 (v := .int _ _) rfl rfl (fun _ _ => ?_)
    simp at h
    rw [h]
    rfl
theorem fcheck_ok (w : World) (s : ByteArray) (hs : s.size ≤ 9223372036854775807) : Ok Tryz.prog 47 [.agg #[.int .i64 2, .bool false, .slice none 0 0, .slice none 0 0, .string s, .slice none 0 0]].toArray w fun r _ => r = .int .i64 (if nameB s = true then 0 else 1) := by
  refine ok_enter Tryz.func47 rfl Tryz.ntmps47 rfl ?_
  focus (refine gc_seq ?_; refine gc_region ?_; refine gw_boxd (v := .agg _) rfl rfl (fun _ => ?_); refine gM rfl rfl (by conv => (lhs; whnf)) ?_; refine gN ?_; apply gw_d; exact w_load_boxN rfl rfl rfl .here rfl; apply gw_d; exact w_call rfl rfl (fun w _ => check_ok w s hs) rfl; refine gM rfl rfl (by conv => (lhs; whnf)) ?_; refine gO ?_; refine gc_ret ?_)
  refine gx_ret1 (v := .int _ _) rfl rfl (fun _ _ => ?_)
  rfl
theorem name_eq (b : Bool) : decide ((if b = true then (0 : Int) else 1) = 0) = b := by cases b <;> rfl
theorem styleName_ok (w : World) (s : ByteArray) (hs : s.size ≤ 9223372036854775807) : Ok Tryz.prog 75 [.string s].toArray w fun r _ => r = .bool (nameB s) := by
  refine ok_enter Tryz.func75 rfl Tryz.ntmps75 rfl ?_
  focus (refine gc_seq ?_; refine gc_region ?_; refine gM rfl rfl (by conv => (lhs; whnf)) ?_; refine gN ?_; refine gM rfl rfl (by conv => (lhs; whnf)) ?_; apply gw_d; exact w_build (cells := #[.int .i64 2, .bool false, .slice none 0 0, .slice none 0 0, .string s, .slice none 0 0]) rfl rfl (by kernel_rfl); apply gw_d; exact w_call rfl rfl (fun w _ => fcheck_ok w s hs) rfl; refine gC rfl rfl rfl rfl rfl ?_; refine gM rfl rfl (by conv => (lhs; whnf)) ?_; refine gO ?_; refine gc_ret ?_)
  refine gx_ret1 (v := .bool _) rfl rfl (fun _ _ => ?_)
  rw [name_eq]
theorem outlineName_ok (w : World) (s : ByteArray) (hs : s.size ≤ 9223372036854775807) : Ok Tryz.prog 129 [.string s].toArray w fun r _ => r = .bool (nameB s) := by
  refine ok_enter Tryz.func129 rfl Tryz.ntmps129 rfl ?_
  focus (refine gc_seq ?_; refine gc_region ?_; refine gM rfl rfl (by conv => (lhs; whnf)) ?_; refine gN ?_; refine gM rfl rfl (by conv => (lhs; whnf)) ?_; apply gw_d; exact w_build (cells := #[.int .i64 2, .bool false, .slice none 0 0, .slice none 0 0, .string s, .slice none 0 0]) rfl rfl (by kernel_rfl); apply gw_d; exact w_call rfl rfl (fun w _ => fcheck_ok w s hs) rfl; refine gC rfl rfl rfl rfl rfl ?_; refine gM rfl rfl (by conv => (lhs; whnf)) ?_; refine gO ?_; refine gc_ret ?_)
  refine gx_ret1 (v := .bool _) rfl rfl (fun _ _ => ?_)
  rw [name_eq]
end Go.Proofs.YtckhibfbdnoigaaGreat
