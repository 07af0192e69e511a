/- The law ReturnsNets: the walk. -/
import Derived.Test.YtljibjlkjelpbaaGreatDoorJW
import Derived.Test.YtljibjlkjelpbaaGreatDoorYV8
namespace Go.Proofs.YtljibjlkjelpbaaGreatDoor
open Go.RowKit
set_option maxRecDepth 100000
set_option maxHeartbeats 4000000

section
variable {w : World} {vp vc : Value} {ps : List Pay} {cs : List Chg}
theorem rNet_good (hp : Sl rPay w w.heap.size vp ps) (hc : Sl rChg w w.heap.size vc cs) (h60 : ps.length ≤ 1000) (he : netE cs ps = 0) : OkM Tryz.prog 24 [vp, vc].toArray w (fun x : Option Addr × Nat => .tuple #[.slice x.1 ps.length x.2, .int .i64 0]) (fun x => [Own x.1 ps.length x.2 3 1 ((netL cs ps).map (Value.int .i64))]) := by
  have h := rNet_all w vp vc ps cs hp hc h60
  unfold netResR netOwnR at h
  simp only [if_pos he] at h
  exact h
theorem rNet_bad (hp : Sl rPay w w.heap.size vp ps) (hc : Sl rChg w w.heap.size vc cs) (h60 : ps.length ≤ 1000) (he : ¬ netE cs ps = 0) : OkM Tryz.prog 24 [vp, vc].toArray w (fun _ : Option Addr × Nat => .tuple #[.slice none 0 0, .int .i64 (netE cs ps)]) (fun _ => []) := by
  have h := rNet_all w vp vc ps cs hp hc h60
  unfold netResR netOwnR at h
  simp only [if_neg he] at h
  exact h
end
theorem lawReturnsNets_ok (w : World) (hL : Lay w) (vp : Value) (ps : List Pay) (vc : Value) (cs : List Chg) (hp : Sl rPay w w.heap.size vp ps) (hc : Sl rChg w w.heap.size vc cs) : Ok Tryz.prog 8 [vp, vc].toArray w fun r _ => r = .bool true := by
  have hp' := hp
  have hc' := hc
  obtain ⟨Ap, cp, rfl, hpc, hpm, _⟩ := hp.pay
  obtain ⟨Ac, cc, rfl, hcc, hcm, _⟩ := hc.chg
  have hA : ∀ (L : List Res) (w' : World), St w L w' → Ok Tryz.prog 22 [].toArray w' fun r _ => r = .bool true := fun L w' s => alive_ok w' (hL.later s)
  refine ok_enter Tryz.func8 rfl Tryz.ntmps8 rfl ?_
  focus (refine gc_seq ?_; refine gc_region ?_; refine gM rfl rfl (by conv => (lhs; whnf)) ?_; refine gO ?_; refine gc_seq ?_; refine gc_seq ?_; refine gc_region ?_; refine gM rfl rfl (by conv => (lhs; whnf)) ?_; refine gL rfl rfl rfl ?_; refine gC rfl rfl rfl rfl rfl ?_; refine gM rfl rfl (by conv => (lhs; whnf)) ?_; refine gw_guard_dec rfl rfl (fun _ => ?_) (fun _ => ?_); refine gU rfl ?_; refine gU rfl ?_; refine gU rfl ?_; apply gw_d; exact det_pick_t (v := .bool _) rfl rfl rfl rfl; refine gO ?_; refine gc_if_true rfl ?_; refine gc_seq ?_; refine gc_region ?_; apply gw_d; exact w_call rfl rfl (hA _) rfl; refine gM rfl rfl (by conv => (lhs; whnf)) ?_; refine gO ?_; refine gc_ret ?_; refine gx_then_ret ?_; rotate_left; refine gM rfl rfl (by conv => (lhs; whnf)) ?_; refine gL rfl rfl rfl ?_; refine gC rfl rfl rfl rfl rfl ?_; apply gw_d; exact det_pick_f (v := .bool _) rfl rfl rfl rfl; refine gO ?_; refine gc_if_dec rfl (fun _ => ?_) (fun _ => ?_); refine gc_seq ?_; refine gc_region ?_; apply gw_d; exact w_call rfl rfl (hA _) rfl; refine gM rfl rfl (by conv => (lhs; whnf)) ?_; refine gO ?_; refine gc_ret ?_; refine gx_then_ret ?_; rotate_left; refine gc_skip ?_; refine gx_next ?_; refine gc_seq ?_; refine gc_region ?_; refine gM rfl rfl (by conv => (lhs; whnf)) ?_; refine gM rfl rfl (by conv => (lhs; whnf)) ?_; rotate_left)
  all_goals first | (refine gx_ret1 (v := .bool _) rfl rfl (fun _ _ => ?_); rfl) | skip
  have h60 : ps.length ≤ 1000 := by omega
  by_cases he : netE cs ps = 0
  · have hin := net_in he
    have hnl : (netL cs ps).length = ps.length := by unfold netL; rw [List.length_map]
    have h1 := fun (L : List Res) (w' : World) (s' : St w L w') => Net_good (hp'.later s') (hc'.later s') h60 he
    have h2 := fun (L : List Res) (w' : World) (s' : St w L w') => rNet_good (hp'.later s') (hc'.later s') h60 he
    refine gw_callm rfl (h1 _) rfl (fun b => ?_)
    focus (refine gM rfl rfl (by conv => (lhs; whnf)) ?_; apply gw_d; exact det_extract rfl rfl rfl (by conv => (lhs; whnf)); apply gw_d; exact det_extract rfl rfl rfl (by conv => (lhs; whnf)); refine gM rfl rfl (by conv => (lhs; whnf)) ?_; refine gM rfl rfl (by conv => (lhs; whnf)) ?_; refine gN ?_; refine gM rfl rfl (by conv => (lhs; whnf)) ?_; refine gM rfl rfl (by conv => (lhs; whnf)) ?_)
    refine gw_callm rfl (h2 _) rfl (fun x => ?_)
    obtain ⟨A, ca⟩ := x
    have hS : ∀ (L : List Res) (w' : World), St w (Own A ps.length ca 3 1 ((netL cs ps).map (Value.int .i64)) :: Box b 3 ((netL cs ps).map (Value.int .i64)).toArray :: L) w' → Ok Tryz.prog 25 [.slice (some ⟨b, 0, none⟩) ps.length ps.length, .slice A ps.length ca].toArray w' fun r _ => r = .bool true := fun L w' s' => by
      have := sameInts_ok w' _ _ (netL cs ps) (netL cs ps) (Sl.boxI' s'.drop.head hnl.symm h60 hin) (Sl.ownI s' .here hnl.symm hin)
      simpa using this
    focus (refine gM rfl rfl (by conv => (lhs; whnf)) ?_; apply gw_d; exact det_extract rfl rfl rfl (by conv => (lhs; whnf)); apply gw_d; exact det_extract rfl rfl rfl (by conv => (lhs; whnf)); refine gM rfl rfl (by conv => (lhs; whnf)) ?_; refine gM rfl rfl (by conv => (lhs; whnf)) ?_; refine gN ?_; refine gM rfl rfl (by conv => (lhs; whnf)) ?_; refine gM rfl rfl (by conv => (lhs; whnf)) ?_; apply gw_d; exact w_call rfl rfl (hS _) rfl; refine gM rfl rfl (by conv => (lhs; whnf)) ?_; refine gM rfl rfl (by conv => (lhs; whnf)) ?_; refine gM rfl rfl (by conv => (lhs; whnf)) ?_; refine gC rfl rfl rfl rfl rfl ?_; apply gw_d; exact det_pick_t (v := .bool _) rfl rfl rfl rfl; refine gM rfl rfl (by conv => (lhs; whnf)) ?_; apply gw_d; exact w_call rfl rfl (hA _) rfl; apply gw_d; exact det_pick_t (v := .bool _) rfl rfl rfl rfl; refine gM rfl rfl (by conv => (lhs; whnf)) ?_; refine gO ?_; refine gc_ret ?_)
    refine gx_ret1 (v := .bool _) rfl rfl (fun _ _ => ?_)
    rfl
  · have h1 := fun (L : List Res) (w' : World) (s' : St w L w') => Net_bad (hp'.later s') (hc'.later s') h60 he
    have h2 := fun (L : List Res) (w' : World) (s' : St w L w') => rNet_bad (hp'.later s') (hc'.later s') h60 he
    generalize netE cs ps = er at he h1 h2
    refine gw_callm rfl (h1 _) rfl (fun b => ?_)
    focus (refine gM rfl rfl (by conv => (lhs; whnf)) ?_; apply gw_d; exact det_extract rfl rfl rfl (by conv => (lhs; whnf)); apply gw_d; exact det_extract rfl rfl rfl (by conv => (lhs; whnf)); refine gM rfl rfl (by conv => (lhs; whnf)) ?_; refine gM rfl rfl (by conv => (lhs; whnf)) ?_; refine gN ?_; refine gM rfl rfl (by conv => (lhs; whnf)) ?_; refine gM rfl rfl (by conv => (lhs; whnf)) ?_)
    refine gw_callm rfl (h2 _) rfl (fun x => ?_)
    have hS : ∀ (L : List Res) (w' : World), St w L w' → Ok Tryz.prog 25 [.slice none 0 0, .slice none 0 0].toArray w' fun r _ => r = .bool true := fun L w' s' => by
      have := sameInts_ok w' _ _ [] [] (Sl.nil _ _) (Sl.nil _ _)
      simpa using this
    focus (refine gM rfl rfl (by conv => (lhs; whnf)) ?_; apply gw_d; exact det_extract rfl rfl rfl (by conv => (lhs; whnf)); apply gw_d; exact det_extract rfl rfl rfl (by conv => (lhs; whnf)); refine gM rfl rfl (by conv => (lhs; whnf)) ?_; refine gM rfl rfl (by conv => (lhs; whnf)) ?_; refine gN ?_; refine gM rfl rfl (by conv => (lhs; whnf)) ?_; refine gM rfl rfl (by conv => (lhs; whnf)) ?_; apply gw_d; exact w_call rfl rfl (hS _) rfl; refine gM rfl rfl (by conv => (lhs; whnf)) ?_; refine gM rfl rfl (by conv => (lhs; whnf)) ?_; refine gM rfl rfl (by conv => (lhs; whnf)) ?_; refine gC rfl rfl rfl rfl rfl ?_; apply gw_d; exact det_pick_t (v := .bool _) rfl rfl rfl rfl; refine gM rfl rfl (by conv => (lhs; whnf)) ?_; refine gw_guard_dec rfl rfl (fun _ => ?_) (fun _ => ?_); apply gw_d; exact w_call rfl rfl (hA _) rfl; apply gw_d; exact det_pick_t (v := .bool _) rfl rfl rfl rfl; refine gM rfl rfl (by conv => (lhs; whnf)) ?_; refine gO ?_; refine gc_ret ?_; rotate_left; refine gU rfl ?_; apply gw_d; exact det_pick_f (v := .bool _) rfl rfl rfl rfl; refine gM rfl rfl (by conv => (lhs; whnf)) ?_; refine gO ?_; refine gc_ret ?_; rotate_left)
    all_goals first | (exfalso; rename_i hne; exact hne rfl) | skip
    all_goals (refine gx_ret1 (v := .bool _) rfl rfl (fun _ _ => ?_); rfl)
end Go.Proofs.YtljibjlkjelpbaaGreatDoor
