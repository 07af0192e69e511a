/- The law WageRecords: the walk. -/
import Derived.Test.YtljibjlkjelpbaaGreatDoorKL
import Derived.Test.YtljibjlkjelpbaaGreatDoorKF
namespace Go.Proofs.YtljibjlkjelpbaaGreatDoor
open Go.RowKit
set_option maxRecDepth 100000
set_option maxHeartbeats 4000000

theorem lawWageRecords_ok (w : World) (hL : Lay w) (v : Value) (c : Cse) (r le : Int) (hc : CaseV w v c) : Ok Tryz.prog 7 [v, .agg #[.int .i64 r, .int .i64 le]].toArray w fun r _ => r = .bool true := by
  have hc' := hc
  obtain ⟨v0, v1, v2, v3, v4, v5, v6, vb, vw, vx, rfl, hs, hb, hw, hx⟩ := hc
  have hA : ∀ (L : List Res) (w' : World), St w L w' → Ok Tryz.prog 16 [].toArray w' fun r _ => r = .bool true := fun L w' s => awake57_ok w' (hL.later s)
  have hF : ∀ (L : List Res) (w' : World), St w L w' → OkM Tryz.prog 15 [.agg #[v0, v1, v2, v3, v4, v5, v6, vb, vw, vx]].toArray w' (fun b : Bool => .bool b) (fun _ => []) := fun L w' s' => few57_ok w' _ c (hc'.later s')
  refine ok_enter Tryz.func7 rfl Tryz.ntmps7 rfl ?_
  focus (refine gc_seq ?_; refine gc_region ?_; refine gw_boxd (v := .agg _) rfl rfl (fun _ => ?_); refine gw_boxd (v := .agg _) rfl rfl (fun _ => ?_); apply gw_d; exact det_m rfl rfl (by conv => (lhs; whnf)); refine gw_nil ?_; refine gx_next ?_; refine gc_seq ?_; refine gc_seq ?_; refine gc_region ?_; apply gw_d; exact w_load_boxN rfl rfl rfl (.there .here) rfl)
  refine gw_callm rfl (hF _) rfl (fun b => ?_)
  focus (apply gw_d; exact det_not_ rfl rfl rfl; refine gw_nil ?_; refine gx_next ?_)
  refine gc_if rfl (fun _ => ?_) (fun _ => ?_)
  · focus (refine gc_seq ?_; refine gc_region ?_; apply gw_d; exact w_call rfl rfl (hA _) rfl; apply gw_d; exact det_m rfl rfl (by conv => (lhs; whnf)); refine gw_nil ?_; refine gx_next ?_; refine gc_ret ?_; refine gx_then_ret ?_)
    refine gx_ret1 (v := .bool _) rfl rfl (fun _ _ => ?_)
    rfl
  by_cases he : paysE r le (opCheckE c.sty plE) c.bs c.ws c.xs.length = 0
  · have hP : ∀ (L : List Res) (w' : World), St w L w' → OkM Tryz.prog 17 [.agg #[v0, v1, v2, v3, v4, v5, v6], vb, vw, vx, .agg #[.int .i64 r, .int .i64 le]].toArray w' (fun x : Option Addr × Nat => .tuple #[.slice x.1 (paysL r le c.sty.ops c.bs c.ws c.xs).length x.2, .int .i64 0]) (fun x => [Own x.1 (paysL r le c.sty.ops c.bs c.ws c.xs).length x.2 44 3 ((paysL r le c.sty.ops c.bs c.ws c.xs).flatMap encP)]) := fun L w' s' => cPays_ok (hL.later s') (StyV.later s' hs) (hb.later s') (hw.later s') (hx.later s') he
    obtain ⟨h1, h2⟩ := pays_zero he
    obtain ⟨h3, h4⟩ := judge_zero h2
    obtain ⟨hr, hle⟩ := tar_zero h1
    have h12 := skill_len h3.skill
    have hin := pays_in (r := r) (l := c.sty.ops) (bs := c.bs) hle h12 h4
    have hD : ∀ (L : List Res) (w' : World), St w L w' → OkM Tryz.prog 20 [.agg #[v0, v1, v2, v3, v4, v5, v6], vb, vw, vx].toArray w' (fun x : Option Addr × Nat => .tuple #[.slice x.1 (paidL c.sty.ops c.ws (ticks c.bs) c.xs).length x.2, .int .i64 0]) (fun x => [Own x.1 (paidL c.sty.ops c.ws (ticks c.bs) c.xs).length x.2 51 4 ((paidL c.sty.ops c.ws (ticks c.bs) c.xs).flatMap encX)]) := fun L w' s' => cPaid_ok (StyV.later s' hs) (hb.later s') (hw.later s') (hx.later s') h2
    have hpl := paidL_len c.sty.ops c.ws (ticks c.bs) c.xs
    have hK : ∀ (L : List Res) (w' : World) (A : Option Addr) (k : Nat), St w (Own A (paidL c.sty.ops c.ws (ticks c.bs) c.xs).length k 51 4 ((paidL c.sty.ops c.ws (ticks c.bs) c.xs).flatMap encX) :: L) w' → OkM Tryz.prog 17 [.agg #[v0, v1, v2, v3, v4, v5, v6], vb, vw, .slice A (paidL c.sty.ops c.ws (ticks c.bs) c.xs).length k, .agg #[.int .i64 r, .int .i64 le]].toArray w' (fun x : Option Addr × Nat => .tuple #[.slice x.1 (paysL r le c.sty.ops c.bs c.ws c.xs).length x.2, .int .i64 0]) (fun x => [Own x.1 (paysL r le c.sty.ops c.bs c.ws c.xs).length x.2 44 3 ((paysL r le c.sty.ops c.bs c.ws c.xs).flatMap encP)]) := fun L w' A k s' => by
      have hx2 : Sl rScn w' w'.heap.size (.slice A (paidL c.sty.ops c.ws (ticks c.bs) c.xs).length k) (paidL c.sty.ops c.ws (ticks c.bs) c.xs) := Sl.own (R := rScn) (enc := encX) s' .here rfl (fun q hq => paid_rep hx (paid_mem hq))
      have := cPays_ok (r := r) (le := le) (hL.later s') (StyV.later s' hs) (hb.later s') (hw.later s') hx2 (pays_mk h1 (judge_fewer h2 (by omega)))
      rw [pays_idem] at this
      exact this
    have hS : ∀ (L : List Res) (w' : World) (A B : Option Addr) (a b : Nat), St w (Own B (paysL r le c.sty.ops c.bs c.ws c.xs).length b 44 3 ((paysL r le c.sty.ops c.bs c.ws c.xs).flatMap encP) :: Own A (paysL r le c.sty.ops c.bs c.ws c.xs).length a 44 3 ((paysL r le c.sty.ops c.bs c.ws c.xs).flatMap encP) :: L) w' → Ok Tryz.prog 21 [.slice A (paysL r le c.sty.ops c.bs c.ws c.xs).length a, .slice B (paysL r le c.sty.ops c.bs c.ws c.xs).length b].toArray w' fun r _ => r = .bool true := fun L w' A B a b s' => by
      have := same57_ok w' _ _ _ _ (Sl.own (R := rPay) (enc := encP) s' (.there .here) rfl (fun q hq => pay_rep hle (hin q hq))) (Sl.own (R := rPay) (enc := encP) s' .here rfl (fun q hq => pay_rep hle (hin q hq)))
      simpa using this
    generalize paysL r le c.sty.ops c.bs c.ws c.xs = pl at hP hin hK hS
    generalize paidL c.sty.ops c.ws (ticks c.bs) c.xs = ps at hD hK hpl
    focus (refine gc_skip ?_; refine gx_next ?_; refine gc_seq ?_; refine gc_region ?_; apply gw_d; exact w_field rfl rfl rfl; apply gw_d; exact w_load_part rfl rfl rfl (.there .here) rfl rfl; apply gw_d; exact w_field rfl rfl rfl; apply gw_d; exact w_load_box rfl rfl rfl (.there .here) rfl; apply gw_d; exact w_field rfl rfl rfl; apply gw_d; exact w_load_box rfl rfl rfl (.there .here) rfl; apply gw_d; exact w_field rfl rfl rfl; apply gw_d; exact w_load_box rfl rfl rfl (.there .here) rfl; apply gw_d; exact w_load_boxN rfl rfl rfl .here rfl)
    refine gw_callm rfl (hP _) rfl (fun x => ?_)
    obtain ⟨A, ca⟩ := x
    focus (apply gw_d; exact det_m rfl rfl (by conv => (lhs; whnf)); apply gw_d; exact det_extract rfl rfl rfl (by conv => (lhs; whnf)); apply gw_d; exact det_extract rfl rfl rfl (by conv => (lhs; whnf)); apply gw_d; exact det_m rfl rfl (by conv => (lhs; whnf)); apply gw_d; exact det_m rfl rfl (by conv => (lhs; whnf)); refine gw_nil ?_; refine gx_next ?_; refine gc_seq ?_; refine gc_seq ?_; refine gc_region ?_; apply gw_d; exact det_m rfl rfl (by conv => (lhs; whnf)); apply gw_d; exact det_cmp rfl rfl rfl rfl rfl; refine gw_nil ?_; refine gx_next ?_)
    refine gc_if_dec rfl (fun h => absurd rfl h) (fun _ => ?_)
    focus (refine gc_skip ?_; refine gx_next ?_; refine gc_seq ?_; refine gc_region ?_; apply gw_d; exact w_field rfl rfl rfl; apply gw_d; exact w_load_part rfl rfl rfl (.there (.there .here)) rfl rfl; apply gw_d; exact w_field rfl rfl rfl; apply gw_d; exact w_load_box rfl rfl rfl (.there (.there .here)) rfl; apply gw_d; exact w_field rfl rfl rfl; apply gw_d; exact w_load_box rfl rfl rfl (.there (.there .here)) rfl; apply gw_d; exact w_field rfl rfl rfl; apply gw_d; exact w_load_box rfl rfl rfl (.there (.there .here)) rfl)
    refine gw_callm rfl (hD _) rfl (fun x => ?_)
    obtain ⟨B, cb⟩ := x
    focus (apply gw_d; exact det_m rfl rfl (by conv => (lhs; whnf)); apply gw_d; exact det_extract rfl rfl rfl (by conv => (lhs; whnf)); apply gw_d; exact det_extract rfl rfl rfl (by conv => (lhs; whnf)); apply gw_d; exact det_m rfl rfl (by conv => (lhs; whnf)); apply gw_d; exact det_m rfl rfl (by conv => (lhs; whnf)); refine gw_nil ?_; refine gx_next ?_; refine gc_seq ?_; refine gc_region ?_; apply gw_d; exact w_field rfl rfl rfl; apply gw_d; exact w_load_part rfl rfl rfl (.there (.there (.there .here))) rfl rfl; apply gw_d; exact w_field rfl rfl rfl; apply gw_d; exact w_load_box rfl rfl rfl (.there (.there (.there .here))) rfl; apply gw_d; exact w_field rfl rfl rfl; apply gw_d; exact w_load_box rfl rfl rfl (.there (.there (.there .here))) rfl; apply gw_d; exact det_m rfl rfl (by conv => (lhs; whnf)); apply gw_d; exact w_load_boxN rfl rfl rfl (.there (.there .here)) rfl)
    refine gw_callm rfl (fun w' s' => hK _ w' B cb s') rfl (fun x => ?_)
    obtain ⟨D, cd⟩ := x
    refine gw_ent (Sub.ent (.cons .here (.cons (.there .here) .nil))) ?_
    focus (apply gw_d; exact det_m rfl rfl (by conv => (lhs; whnf)); apply gw_d; exact det_extract rfl rfl rfl (by conv => (lhs; whnf)); apply gw_d; exact det_extract rfl rfl rfl (by conv => (lhs; whnf)); apply gw_d; exact det_m rfl rfl (by conv => (lhs; whnf)); apply gw_d; exact det_m rfl rfl (by conv => (lhs; whnf)); refine gw_nil ?_; refine gx_next ?_; refine gc_seq ?_; refine gc_region ?_; apply gw_d; exact det_m rfl rfl (by conv => (lhs; whnf)); apply gw_d; exact det_cmp rfl rfl rfl rfl rfl; apply gw_d; exact det_m rfl rfl (by conv => (lhs; whnf)); apply gw_d; exact det_m rfl rfl (by conv => (lhs; whnf)); apply gw_d; exact det_cmp rfl rfl rfl rfl rfl; apply gw_d; exact det_pick_t (v := .bool _) rfl rfl rfl rfl; apply gw_d; exact det_m rfl rfl (by conv => (lhs; whnf)); apply gw_d; exact det_m rfl rfl (by conv => (lhs; whnf)); apply gw_d; exact det_m rfl rfl (by conv => (lhs; whnf)); apply gw_d; exact w_call rfl rfl (fun w' s' => hS _ w' A D ca cd s') rfl; apply gw_d; exact det_pick_t (v := .bool _) rfl rfl rfl rfl; apply gw_d; exact det_m rfl rfl (by conv => (lhs; whnf)); apply gw_d; exact w_call rfl rfl (hA _) rfl; apply gw_d; exact det_pick_t (v := .bool _) rfl rfl rfl rfl; apply gw_d; exact det_m rfl rfl (by conv => (lhs; whnf)); refine gw_nil ?_; refine gx_next ?_; refine gc_ret ?_)
    refine gx_ret1 (v := .bool _) rfl rfl (fun _ _ => ?_)
    rfl
  · have hP : ∀ (L : List Res) (w' : World), St w L w' → Ok Tryz.prog 17 [.agg #[v0, v1, v2, v3, v4, v5, v6], vb, vw, vx, .agg #[.int .i64 r, .int .i64 le]].toArray w' fun x _ => x = .tuple #[.slice none 0 0, .int .i64 (paysE r le (opCheckE c.sty plE) c.bs c.ws c.xs.length)] := fun L w' s' => cPays_bad (hL.later s') (StyV.later s' hs) (hb.later s') (hw.later s') (hx.later s') he
    focus (refine gc_skip ?_; refine gx_next ?_; refine gc_seq ?_; refine gc_region ?_; apply gw_d; exact w_field rfl rfl rfl; apply gw_d; exact w_load_part rfl rfl rfl (.there .here) rfl rfl; apply gw_d; exact w_field rfl rfl rfl; apply gw_d; exact w_load_box rfl rfl rfl (.there .here) rfl; apply gw_d; exact w_field rfl rfl rfl; apply gw_d; exact w_load_box rfl rfl rfl (.there .here) rfl; apply gw_d; exact w_field rfl rfl rfl; apply gw_d; exact w_load_box rfl rfl rfl (.there .here) rfl; apply gw_d; exact w_load_boxN rfl rfl rfl .here rfl; apply gw_d; exact w_call rfl rfl (hP _) rfl; apply gw_d; exact det_m rfl rfl (by conv => (lhs; whnf)); apply gw_d; exact det_extract rfl rfl rfl (by conv => (lhs; whnf)); apply gw_d; exact det_extract rfl rfl rfl (by conv => (lhs; whnf)); apply gw_d; exact det_m rfl rfl (by conv => (lhs; whnf)); apply gw_d; exact det_m rfl rfl (by conv => (lhs; whnf)); refine gw_nil ?_; refine gx_next ?_; refine gc_seq ?_; refine gc_seq ?_; refine gc_region ?_; apply gw_d; exact det_m rfl rfl (by conv => (lhs; whnf)); apply gw_d; exact det_cmp rfl rfl rfl rfl rfl; refine gw_nil ?_; refine gx_next ?_)
    refine gc_if_dec rfl (fun _ => ?_) (fun h => absurd he h)
    focus (refine gc_seq ?_; refine gc_region ?_; apply gw_d; exact det_m rfl rfl (by conv => (lhs; whnf)); apply gw_d; exact w_len rfl rfl rfl; apply gw_d; exact det_cmp rfl rfl rfl rfl rfl; apply gw_d; exact det_m rfl rfl (by conv => (lhs; whnf)); apply gw_d; exact w_call rfl rfl (hA _) rfl; apply gw_d; exact det_pick_t (v := .bool _) rfl rfl rfl rfl; apply gw_d; exact det_m rfl rfl (by conv => (lhs; whnf)); refine gw_nil ?_; refine gx_next ?_; refine gc_ret ?_; refine gx_then_ret ?_)
    refine gx_ret1 (v := .bool _) rfl rfl (fun _ _ => ?_)
    rfl
end Go.Proofs.YtljibjlkjelpbaaGreatDoor
