/- Contracts: garmentlaw58.paid, first. -/
import Derived.Test.YtljibjlkjelpbaaGreatDoorJW
namespace Go.Proofs.YtljibjlkjelpbaaGreatDoor
open Go.RowKit
set_option maxRecDepth 100000
set_option maxHeartbeats 4000000

theorem paid58_ok (w : World) (v : Value) (c : Shp) (t : Int) (o : Nat) (b : Bun) (hc : ShopV w v c) (hb0 : bunAt c.bs t = some b) (ho : o < c.sty.ops.length) (hpl : 1 ≤ b.upto - b.fr ∧ b.upto - b.fr ≤ 40) :
    Ok Tryz.prog 29 [v, .int .i64 t, .int .i64 (o : Int)].toArray w fun y _ => y = .tuple #[.int .i64 (b.upto - b.fr), .int .i64 c.sty.ops[o].minutes, .bool true] := by
  obtain ⟨v0, v1, v2, v3, v4, v5, v6, vb, vw, vx, rfl, hs, hb, hw, hx⟩ := hc
  have h6 := sty_ops hs
  obtain ⟨ad, cl, rfl, hlc, hlm, hb1, hcell⟩ := h6.at' 5 rfl (by omega)
  obtain ⟨cs', hce, Aa, ca, Au, cu, rfl, hnm, q1, q2⟩ := hcell o ho
  have hce2 := hce 2 _ rfl
  obtain ⟨Ab, cb, rfl, hbc, hbm, hbcell⟩ := hb.bun
  refine ok_enter Tryz.func29 rfl Tryz.ntmps29 rfl ?_
  focus (refine gc_seq ?_; refine gc_region ?_; refine gw_boxd (v := .agg _) rfl rfl (fun _ => ?_); refine gM rfl rfl (by conv => (lhs; whnf)) ?_; refine gM rfl rfl (by conv => (lhs; whnf)) ?_; refine gM rfl rfl (by conv => (lhs; whnf)) ?_; refine gO ?_; refine gc_seq ?_; refine gc_seq ?_; refine gc_region ?_; refine gM rfl rfl (by conv => (lhs; whnf)) ?_; refine gO ?_; refine gc_block ?_)
  refine gc_loopK (σ := Nat) [10, 11, 12, 13, 14, 17, 18, 19, 20, 21, 22, 23, 24, 25, 26, 27, 28, 29, 30, 31, 32, 33, 34, 6, 7, 8, 35, 36, 37, 38, 39, 40, 41, 42, 43, 44, 45, 46, 47, 48, 49, 50, 51, 52, 53, 54, 15, 16, 9] (fun k => [(9, .int .i64 k)]) (fun k => k ≤ c.bs.length ∧ (c.bs.take k).find? (fun b => decide (b.tick = t)) = none) (fun k => c.bs.length - k) 0 ⟨Nat.zero_le _, rfl⟩ ⟨rfl, trivial⟩ ?_
  rintro k base ⟨hk, hI⟩
  focus (refine gc_seq ?_; refine gc_seq ?_; refine gc_region ?_; refine gM rfl rfl (by conv => (lhs; whnf)) ?_; refine gF rfl rfl rfl ?_; apply gw_d; exact w_load_box rfl rfl rfl .here rfl; refine gL rfl rfl rfl ?_; refine gC rfl rfl rfl rfl rfl ?_; refine gO ?_)
  refine gc_if_dec rfl (fun h => ?_) (fun h => ?_)
  · have hlt : k < c.bs.length := by omega
    obtain ⟨ad2, rfl, hbk, hcb, _⟩ := hbcell k hlt
    have hcb0 := hcb 0 _ rfl
    have hcb4 := hcb 4 _ rfl
    have hcb5 := hcb 5 _ rfl
    focus (refine gc_skip ?_; refine gx_next ?_; refine gc_seq ?_; refine gc_block ?_; refine gc_seq ?_; refine gc_region ?_; refine gF rfl rfl rfl ?_; apply gw_d; exact w_load_box rfl rfl rfl .here rfl; refine gM rfl rfl (by conv => (lhs; whnf)) ?_; apply gw_d; exact w_index rfl rfl rfl rfl (by with_reducible exact rfl) (by omega); refine gF rfl rfl rfl ?_; apply gw_d; exact w_load_fld rfl rfl rfl (by assumption) (by assumption); refine gM rfl rfl (by conv => (lhs; whnf)) ?_; refine gC rfl rfl rfl rfl rfl ?_; refine gO ?_)
    refine gc_if_dec rfl (fun h2 => ?_) (fun h2 => ?_)
    · have hbe : c.bs[k] = b := by
        have : bunAt c.bs t = some c.bs[k] := find_take hlt hI (decide_eq_true h2)
        rw [hb0] at this
        exact (Option.some.inj this).symm
      rw [hbe] at hcb4 hcb5
      focus (refine gc_seq ?_; refine gc_seq ?_; refine gc_region ?_; refine gM rfl rfl (by conv => (lhs; whnf)) ?_; refine gC rfl rfl rfl rfl rfl ?_; refine gM rfl rfl (by conv => (lhs; whnf)) ?_; refine gM rfl rfl (by conv => (lhs; whnf)) ?_; refine gF rfl rfl rfl ?_; refine gF rfl rfl rfl ?_; apply gw_d; exact w_load_box rfl rfl rfl .here rfl; refine gL rfl rfl rfl ?_; refine gC rfl rfl rfl rfl rfl ?_; apply gw_d; exact det_pick_f (v := .bool _) rfl rfl rfl rfl; refine gO ?_; refine gc_if_dec rfl (fun _ => ?_) (fun _ => ?_); refine gc_seq ?_; refine gc_region ?_; refine gM rfl rfl (by conv => (lhs; whnf)) ?_; refine gM rfl rfl (by conv => (lhs; whnf)) ?_; refine gM rfl rfl (by conv => (lhs; whnf)) ?_; refine gO ?_; refine gc_ret ?_; refine gx_then_ret ?_; refine gx_block_ret ?_; refine gx_then_ret ?_; refine gx_then_ret ?_; refine gx_block_ret ?_; refine gx_then_ret ?_; rotate_left; refine gc_skip ?_; refine gx_next ?_; refine gc_seq ?_; rotate_left)
      all_goals first | (exfalso; omega) | skip
      refine gc_draw 21 (by kernel_rfl) (by kernel_rfl) ?_
      focus (apply gd_d; exact w_field rfl rfl rfl; apply gd_d; exact w_load_box rfl rfl rfl .here rfl; apply gd_d; exact det_m rfl rfl (by conv => (lhs; whnf)); apply gd_d; exact w_index rfl rfl rfl rfl (by with_reducible exact rfl) (by omega); apply gd_d; exact w_field rfl rfl rfl; apply gd_d; exact w_load_fld rfl rfl rfl (by assumption) (by assumption); apply gd_d; exact w_field rfl rfl rfl; apply gd_d; exact w_load_box rfl rfl rfl .here rfl; apply gd_d; exact det_m rfl rfl (by conv => (lhs; whnf)); apply gd_d; exact w_index rfl rfl rfl rfl (by with_reducible exact rfl) (by omega); apply gd_d; exact w_field rfl rfl rfl; apply gd_d; exact w_load_fld rfl rfl rfl (by assumption) (by assumption); apply gd_d; exact det_ar rfl rfl rfl rfl rfl (by omega); apply gd_d; exact w_field rfl rfl rfl; apply gd_d; exact w_field rfl rfl rfl; apply gd_d; exact w_load_box rfl rfl rfl .here rfl; apply gd_d; exact det_m rfl rfl (by conv => (lhs; whnf)); apply gd_d; exact w_index (m := o) rfl rfl rfl rfl rfl ho; apply gd_d; exact w_field rfl rfl rfl; apply gd_d; exact w_load_fld rfl rfl rfl (by assumption) (by assumption); apply gd_d; exact det_m rfl rfl (by conv => (lhs; whnf)); refine gd_nil ?_; refine gM rfl rfl (by conv => (lhs; whnf)) ?_; refine gM rfl rfl (by conv => (lhs; whnf)) ?_; refine gO ?_; refine gc_ret ?_; refine gx_block_ret ?_; refine gx_then_ret ?_; refine gx_then_ret ?_; refine gx_block_ret ?_; refine gx_then_ret ?_)
      refine gx_ret3 (u := .int _ _) (v := .int _ _) (x := .bool _) rfl rfl rfl rfl (fun _ _ => ?_)
      rfl
    · focus (refine gc_skip ?_; refine gx_block ?_; refine gx_next ?_; refine gc_region ?_; refine gM rfl rfl (by conv => (lhs; whnf)) ?_; apply gw_d; exact det_ar rfl rfl rfl rfl rfl (by omega); refine gM rfl rfl (by conv => (lhs; whnf)) ?_; refine gw_nil ?_)
      exact gx_round (k + 1) ⟨hlt, find_snoc hlt hI (decide_eq_false h2)⟩ (by omega) (by repeat (first | exact Keeps.refl | refine Keeps.upd rfl ?_ | refine Keeps.sets rfl ?_ | refine Keeps.havoc rfl ?_)) ⟨rfl, trivial⟩ (Sub.all _)
  · exfalso
    obtain rfl : k = c.bs.length := by omega
    rw [List.take_length] at hI
    unfold bunAt at hb0
    rw [hI] at hb0
    cases hb0
theorem first58_ok (w : World) (v : Value) (c : Shp) (t : Int) (hc : ShopV w v c) : Ok Tryz.prog 32 [v, .int .i64 t].toArray w fun y _ => y = .int .i64 (frAt c.bs t) := by
  obtain ⟨v0, v1, v2, v3, v4, v5, v6, vb, vw, vx, rfl, hs, hb, hw, hx⟩ := hc
  obtain ⟨Ab, cb, rfl, hbc, hbm, hbcell⟩ := hb.bun
  refine ok_enter Tryz.func32 rfl Tryz.ntmps32 rfl ?_
  focus (refine gc_seq ?_; refine gc_region ?_; refine gw_boxd (v := .agg _) rfl rfl (fun _ => ?_); refine gM rfl rfl (by conv => (lhs; whnf)) ?_; refine gO ?_; refine gc_seq ?_; refine gc_seq ?_; refine gc_region ?_; refine gM rfl rfl (by conv => (lhs; whnf)) ?_; refine gO ?_; refine gc_block ?_)
  refine gc_loopK (σ := Nat) [6, 7, 8, 9, 10, 13, 14, 15, 16, 17, 18, 19, 20, 21, 22, 23, 24, 25, 26, 4, 11, 12, 5] (fun k => [(5, .int .i64 k)]) (fun k => k ≤ c.bs.length ∧ (c.bs.take k).find? (fun b => decide (b.tick = t)) = none) (fun k => c.bs.length - k) 0 ⟨Nat.zero_le _, rfl⟩ ⟨rfl, trivial⟩ ?_
  rintro k base ⟨hk, hI⟩
  focus (refine gc_seq ?_; refine gc_seq ?_; refine gc_region ?_; refine gM rfl rfl (by conv => (lhs; whnf)) ?_; refine gF rfl rfl rfl ?_; apply gw_d; exact w_load_box rfl rfl rfl .here rfl; refine gL rfl rfl rfl ?_; refine gC rfl rfl rfl rfl rfl ?_; refine gO ?_)
  refine gc_if_dec rfl (fun h => ?_) (fun h => ?_)
  · have hlt : k < c.bs.length := by omega
    obtain ⟨ad2, rfl, hbk, hcb, _⟩ := hbcell k hlt
    have hcb0 := hcb 0 _ rfl
    have hcb4 := hcb 4 _ rfl
    focus (refine gc_skip ?_; refine gx_next ?_; refine gc_seq ?_; refine gc_block ?_; refine gc_seq ?_; refine gc_region ?_; refine gF rfl rfl rfl ?_; apply gw_d; exact w_load_box rfl rfl rfl .here rfl; refine gM rfl rfl (by conv => (lhs; whnf)) ?_; apply gw_d; exact w_index rfl rfl rfl rfl (by with_reducible exact rfl) (by omega); refine gF rfl rfl rfl ?_; apply gw_d; exact w_load_fld rfl rfl rfl (by assumption) (by assumption); refine gM rfl rfl (by conv => (lhs; whnf)) ?_; refine gC rfl rfl rfl rfl rfl ?_; refine gO ?_)
    refine gc_if_dec rfl (fun h2 => ?_) (fun h2 => ?_)
    · have hbe : bunAt c.bs t = some c.bs[k] := find_take hlt hI (decide_eq_true h2)
      have hfr : frAt c.bs t = c.bs[k].fr := by unfold frAt; rw [hbe]; rfl
      rw [hfr]
      focus (refine gc_seq ?_; refine gc_region ?_; refine gF rfl rfl rfl ?_; apply gw_d; exact w_load_box rfl rfl rfl .here rfl; refine gM rfl rfl (by conv => (lhs; whnf)) ?_; apply gw_d; exact w_index rfl rfl rfl rfl (by with_reducible exact rfl) (by omega); refine gF rfl rfl rfl ?_; apply gw_d; exact w_load_fld rfl rfl rfl (by assumption) (by assumption); refine gM rfl rfl (by conv => (lhs; whnf)) ?_; refine gO ?_; refine gc_ret ?_; refine gx_block_ret ?_; refine gx_then_ret ?_; refine gx_then_ret ?_; refine gx_block_ret ?_; refine gx_then_ret ?_)
      refine gx_ret1 (v := .int _ _) rfl rfl (fun _ _ => ?_)
      rfl
    · focus (refine gc_skip ?_; refine gx_block ?_; refine gx_next ?_; refine gc_region ?_; refine gM rfl rfl (by conv => (lhs; whnf)) ?_; apply gw_d; exact det_ar rfl rfl rfl rfl rfl (by omega); refine gM rfl rfl (by conv => (lhs; whnf)) ?_; refine gw_nil ?_)
      exact gx_round (k + 1) ⟨hlt, find_snoc hlt hI (decide_eq_false h2)⟩ (by omega) (by repeat (first | exact Keeps.refl | refine Keeps.upd rfl ?_ | refine Keeps.sets rfl ?_ | refine Keeps.havoc rfl ?_)) ⟨rfl, trivial⟩ (Sub.all _)
  · obtain rfl : k = c.bs.length := by omega
    rw [List.take_length] at hI
    have hfr : frAt c.bs t = 0 := by unfold frAt bunAt; rw [hI]; rfl
    rw [hfr]
    focus (refine gc_exit ?_; refine gx_then_exit ?_; refine gx_then_exit ?_; refine gx_block_exit ?_; refine gx_next ?_; refine gc_seq ?_; refine gc_region ?_; refine gM rfl rfl (by conv => (lhs; whnf)) ?_; refine gO ?_; refine gc_ret ?_)
    refine gx_ret1 (v := .int _ _) rfl rfl (fun _ _ => ?_)
    rfl
end Go.Proofs.YtljibjlkjelpbaaGreatDoor
