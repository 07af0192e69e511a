/- Texts in one file: MT Open57 Open Open2 Open3. -/
import Derived.Test.YtckhibfbdnoigaaGreatDoorTR5
import Derived.Test.YtckhibfbdnoigaaGreatDoorTR2
import Derived.Lib.LaidTab
import Derived.LaidByTextLater
import Derived.Test.YtckhibfbdnoigaaGreatDoorTR4
/- The law TopReturns: the walk. -/
namespace Go.Proofs.YtckhibfbdnoigaaGreatDoor
open Go.RowKit
set_option maxRecDepth 100000
set_option maxHeartbeats 4000000

/-! ### The example -/
def rets3 : List Ret := [⟨7, 0, 0⟩, ⟨7, 0, 0⟩, ⟨8, 0, 0⟩]
def chgs1 : List Chg := [⟨0, 7, 0, 0, 3⟩]
theorem e60a : opCheckE twoSty plE = 0 := by kernel_rfl
theorem e60b : chgErr 250 0 0 twoBuns twoWrks 3 3 = 0 := by kernel_rfl
theorem e60c : chgL 250 0 twoOps twoBuns (paidL twoOps twoWrks (ticks twoBuns) twoScns) rets3 = chgs1 := by kernel_rfl
theorem e60d : outsR (okR twoOps.length twoBuns (paidL twoOps twoWrks (ticks twoBuns) twoScns)) [] rets3 = [1, 2, 3] := by kernel_rfl
def ret9 : Array Value := #[.int .i64 7, .int .i64 0, .int .i64 0, .int .i64 7, .int .i64 0, .int .i64 0, .int .i64 8, .int .i64 0, .int .i64 0]
section
variable {w0 w : World} {L : List Res} {x : Nat → Nat} {b : Nat} {r : Res}
theorem two_charges (s : St w0 (Box b 46 ret9 :: r :: (twoR x ++ L)) w) (hL : Lay w) : OkM Tryz.prog 10 [twoStyV x, .slice (some ⟨x 13, 0, none⟩) 1 1, .slice (some ⟨x 15, 0, none⟩) 1 1, .slice (some ⟨x 16, 0, none⟩) 3 3, .agg #[.int .i64 250, .int .i64 0], .slice (some ⟨b, 0, none⟩) 3 3].toArray w (fun y : (Option Addr × Nat) × Nat => .tuple #[.slice y.1.1 1 y.1.2, .slice (some ⟨y.2, 0, none⟩) 3 3, .int .i64 0]) (fun y => [Own y.1.1 1 y.1.2 57 5 (chgs1.flatMap encC), Box y.2 3 #[.int .i64 1, .int .i64 2, .int .i64 3]]) := by
  have hl : Sl rRet w w.heap.size (.slice (some ⟨b, 0, none⟩) 3 3) rets3 := Sl.ofCells s.head rfl (by decide) (by decide) ⟨⟨rfl, inI rfl, inI rfl, inI rfl⟩, ⟨rfl, inI rfl, inI rfl, inI rfl⟩, ⟨rfl, inI rfl, inI rfl, inI rfl⟩, trivial⟩
  have h := Charges_ok (r := 250) (le := 0) hL (two_sty s.drop.drop) (two_buns s.drop.drop) (two_wrks s.drop.drop) (two_scns s.drop.drop) hl (by rw [e60a]; exact e60b)
  change OkM _ _ _ _ (fun y : (Option Addr × Nat) × Nat => .tuple #[.slice y.1.1 (chgL 250 0 twoOps twoBuns (paidL twoOps twoWrks (ticks twoBuns) twoScns) rets3).length y.1.2, _, _]) (fun y => [Own y.1.1 (chgL 250 0 twoOps twoBuns (paidL twoOps twoWrks (ticks twoBuns) twoScns) rets3).length y.1.2 _ _ ((chgL 250 0 twoOps twoBuns (paidL twoOps twoWrks (ticks twoBuns) twoScns) rets3).flatMap encC), Box y.2 _ ((outsR (okR twoOps.length twoBuns (paidL twoOps twoWrks (ticks twoBuns) twoScns)) [] rets3).map (Value.int .i64)).toArray]) at h
  rw [e60c, e60d] at h
  exact h
end
theorem charged_ok (w : World) (hL : Lay w) : Ok Tryz.prog 7 [].toArray w fun r _ => r = .bool true := by
  refine ok_enter Tryz.func7 rfl Tryz.ntmps7 rfl ?_
  focus (refine gc_seq ?_; refine gc_region ?_; refine gM rfl rfl (by conv => (lhs; whnf)) ?_; refine gN ?_)
  refine gw_callm rfl (fun w s => two_ok w) rfl (fun x => ?_)
  focus (refine w_alloc rfl (fun _ => ?_); refine w_store_all rfl rfl rfl rfl rfl .here rfl ?_; refine gN ?_; refine gF rfl rfl rfl ?_; apply gw_d; exact w_load_part rfl rfl rfl .here rfl rfl; refine gF rfl rfl rfl ?_; apply gw_d; exact w_load_box rfl rfl rfl .here rfl; refine gF rfl rfl rfl ?_; apply gw_d; exact w_load_box rfl rfl rfl .here rfl; refine gF rfl rfl rfl ?_; apply gw_d; exact w_load_box rfl rfl rfl .here rfl)
  rename_i bc
  refine gw_ent (K := Box bc 34 (twoV x).cells :: (twoR x ++ [])) (Sub.ent (.cons .here (Sub.all _))) ?_
  focus (apply gw_d; exact w_buildP [(0, .int .i64 250)] (cells := #[.int .i64 250, .int .i64 0]) (by kernel_rfl) rfl rfl rfl; apply gw_d; exact w_buildP [(0, .int .i64 7)] (cells := #[.int .i64 7, .int .i64 0, .int .i64 0]) (by kernel_rfl) rfl rfl rfl; apply gw_d; exact w_buildP [(0, .int .i64 7)] (cells := #[.int .i64 7, .int .i64 0, .int .i64 0]) (by kernel_rfl) rfl rfl rfl; apply gw_d; exact w_buildP [(0, .int .i64 8)] (cells := #[.int .i64 8, .int .i64 0, .int .i64 0]) (by kernel_rfl) rfl rfl rfl)
  refine gw_bslice (cells := ret9) rfl ?_ ?_ ?_ (fun b4 => ?_)
  · rfl
  · rfl
  · kernel_rfl
  refine gw_callm rfl (fun w s => two_charges s (hL.later s)) rfl (fun y => ?_)
  obtain ⟨⟨A, ca⟩, bo⟩ := y
  refine gw_ent (K := [Own A 1 ca 57 5 (chgs1.flatMap encC), Box bo 3 #[.int .i64 1, .int .i64 2, .int .i64 3]]) (Sub.ent (.cons .here (.cons .here .nil))) ?_
  have hc : ∀ j u, (encC ⟨0, 7, 0, 0, 3⟩)[j]? = some u → (chgs1.flatMap encC)[0 * 5 + j]? = some u := flat_at (enc := encC) (l := chgs1) (fun _ _ => rfl) (k := 0) (by decide)
  focus (refine gM rfl rfl (by conv => (lhs; whnf)) ?_; apply gw_d; exact det_extract rfl rfl rfl (by conv => (lhs; whnf)); apply gw_d; exact det_extract rfl rfl rfl (by conv => (lhs; whnf)); apply gw_d; exact det_extract rfl rfl rfl (by conv => (lhs; whnf)); refine gM rfl rfl (by conv => (lhs; whnf)) ?_; refine gM rfl rfl (by conv => (lhs; whnf)) ?_; refine gM rfl rfl (by conv => (lhs; whnf)) ?_; refine gN ?_; refine gM rfl rfl (by conv => (lhs; whnf)) ?_; refine gC rfl rfl rfl rfl rfl ?_; refine gM rfl rfl (by conv => (lhs; whnf)) ?_; refine gM rfl rfl (by conv => (lhs; whnf)) ?_; refine gL rfl rfl rfl ?_; refine gC rfl rfl rfl rfl rfl ?_; apply gw_d; exact det_pick_t (v := .bool _) rfl rfl rfl rfl; refine gM rfl rfl (by conv => (lhs; whnf)) ?_; refine gM rfl rfl (by conv => (lhs; whnf)) ?_; apply gw_d; exact w_indexO (m := 0) rfl rfl rfl rfl rfl (by decide) .here; apply gw_d; exact w_loadON (l := encC ⟨0, 7, 0, 0, 3⟩) rfl rfl rfl .here (by decide) hc rfl; apply gw_d; exact w_buildP [(1, .int .i64 7), (4, .int .i64 3)] (cells := #[.int .i64 0, .int .i64 7, .int .i64 0, .int .i64 0, .int .i64 3]) (by kernel_rfl) rfl rfl rfl; apply gw_d; exact w_eqs (xs := [0, 7, 0, 0, 3]) (ys := [0, 7, 0, 0, 3]) rfl rfl rfl rfl rfl rfl; apply gw_d; exact det_pick_t (v := .bool _) rfl rfl rfl rfl; refine gM rfl rfl (by conv => (lhs; whnf)) ?_; refine gM rfl rfl (by conv => (lhs; whnf)) ?_; refine gL rfl rfl rfl ?_; refine gC rfl rfl rfl rfl rfl ?_; apply gw_d; exact det_pick_t (v := .bool _) rfl rfl rfl rfl; refine gM rfl rfl (by conv => (lhs; whnf)) ?_; refine gM rfl rfl (by conv => (lhs; whnf)) ?_; apply gw_d; exact w_index (m := 0) rfl rfl rfl rfl rfl (by decide); apply gw_d; exact w_load_box rfl rfl rfl (.there .here) rfl; refine gC rfl rfl rfl rfl rfl ?_; apply gw_d; exact det_pick_t (v := .bool _) rfl rfl rfl rfl; refine gM rfl rfl (by conv => (lhs; whnf)) ?_; refine gM rfl rfl (by conv => (lhs; whnf)) ?_; apply gw_d; exact w_index (m := 1) rfl rfl rfl rfl rfl (by decide); apply gw_d; exact w_load_box rfl rfl rfl (.there .here) rfl; refine gC rfl rfl rfl rfl rfl ?_; apply gw_d; exact det_pick_t (v := .bool _) rfl rfl rfl rfl; refine gM rfl rfl (by conv => (lhs; whnf)) ?_; refine gM rfl rfl (by conv => (lhs; whnf)) ?_; apply gw_d; exact w_index (m := 2) rfl rfl rfl rfl rfl (by decide); apply gw_d; exact w_load_box rfl rfl rfl (.there .here) rfl; refine gC rfl rfl rfl rfl rfl ?_; apply gw_d; exact det_pick_t (v := .bool _) rfl rfl rfl rfl; refine gM rfl rfl (by conv => (lhs; whnf)) ?_; refine gO ?_; refine gc_ret ?_)
  refine gx_ret1 (v := .bool _) rfl rfl (fun _ _ => ?_)
  rfl

theorem lawTopReturns_ok (w : World) (hL : Lay w) (v : Value) (c : Cse) (r le : Int) (hc : CaseV w v c) : Ok Tryz.prog 3 [v, .agg #[.int .i64 r, .int .i64 le]].toArray w fun r _ => r = .bool true := by
  obtain ⟨v0, v1, v2, v3, v4, v5, v6, vb, vw, vx, rfl, hs, hb, hw, hx⟩ := hc
  have hs' := hs
  obtain ⟨As, cs, Am, cm, Ap, cp, Au, cu, Ae, ce, Ao, co, he, hnm, h1, h2, h3, h4, h5, h6⟩ := hs
  obtain ⟨rfl, rfl, rfl, rfl, rfl, rfl, rfl⟩ : v0 = _ ∧ v1 = _ ∧ v2 = _ ∧ v3 = _ ∧ v4 = _ ∧ v5 = _ ∧ v6 = _ := by simpa using he
  clear he
  obtain ⟨Ab, cb, rfl, hbc, hbm, hbcell⟩ := hb.bun
  obtain ⟨Aw, cw, rfl, hwc, hwm⟩ := len_small hw
  obtain ⟨Ax, cx, rfl, hxc, hxm, _⟩ := hx.scn
  have hA : ∀ (L : List Res) (w' : World), St w L w' → Ok Tryz.prog 7 [].toArray w' fun r _ => r = .bool true := fun L w' s => charged_ok w' (hL.later s)
  refine ok_enter Tryz.func3 rfl Tryz.ntmps3 rfl ?_
  focus (refine gc_seq ?_; refine gc_region ?_; refine gw_boxd (v := .agg _) rfl rfl (fun _ => ?_); refine gw_boxd (v := .agg _) rfl rfl (fun _ => ?_); refine gM rfl rfl (by conv => (lhs; whnf)) ?_; refine gO ?_; refine gc_seq ?_; refine gc_seq ?_; refine gc_region ?_; refine gF rfl rfl rfl ?_; apply gw_d; exact w_load_box rfl rfl rfl (.there .here) rfl; refine gL rfl rfl rfl ?_; refine gC rfl rfl rfl rfl rfl ?_; refine gM rfl rfl (by conv => (lhs; whnf)) ?_)
  rename_i bC bT
  focus (refine gw_guard_dec rfl rfl (fun _ => ?_) (fun _ => ?_); refine gU rfl ?_; refine gU rfl ?_; refine gU rfl ?_; refine gU rfl ?_; apply gw_d; exact det_pick_t (v := .bool _) rfl rfl rfl rfl; refine gM rfl rfl (by conv => (lhs; whnf)) ?_; refine gU rfl ?_; refine gU rfl ?_; refine gU rfl ?_; refine gU rfl ?_; apply gw_d; exact det_pick_t (v := .bool _) rfl rfl rfl rfl; refine gM rfl rfl (by conv => (lhs; whnf)) ?_; refine gU rfl ?_; refine gU rfl ?_; refine gU rfl ?_; refine gU rfl ?_; refine gU rfl ?_; apply gw_d; exact det_pick_t (v := .bool _) rfl rfl rfl rfl; refine gM rfl rfl (by conv => (lhs; whnf)) ?_; refine gU rfl ?_; refine gU rfl ?_; refine gU rfl ?_; refine gU rfl ?_; refine gU rfl ?_; apply gw_d; exact det_pick_t (v := .bool _) rfl rfl rfl rfl; refine gM rfl rfl (by conv => (lhs; whnf)) ?_; refine gU rfl ?_; refine gU rfl ?_; refine gU rfl ?_; refine gU rfl ?_; refine gU rfl ?_; apply gw_d; exact det_pick_t (v := .bool _) rfl rfl rfl rfl; refine gO ?_; refine gc_if_true rfl ?_; refine gc_seq ?_; refine gc_region ?_; apply gw_d; exact w_call rfl rfl (hA _) rfl; refine gM rfl rfl (by conv => (lhs; whnf)) ?_; refine gO ?_; refine gc_ret ?_; refine gx_then_ret ?_; rotate_left; refine gF rfl rfl rfl ?_; apply gw_d; exact w_load_box rfl rfl rfl (.there .here) rfl; refine gL rfl rfl rfl ?_; refine gC rfl rfl rfl rfl rfl ?_; apply gw_d; exact det_pick_f (v := .bool _) rfl rfl rfl rfl; refine gM rfl rfl (by conv => (lhs; whnf)) ?_; refine gw_guard_dec rfl rfl (fun _ => ?_) (fun _ => ?_); refine gU rfl ?_; refine gU rfl ?_; refine gU rfl ?_; refine gU rfl ?_; apply gw_d; exact det_pick_t (v := .bool _) rfl rfl rfl rfl; refine gM rfl rfl (by conv => (lhs; whnf)) ?_; refine gU rfl ?_; refine gU rfl ?_; refine gU rfl ?_; refine gU rfl ?_; refine gU rfl ?_; apply gw_d; exact det_pick_t (v := .bool _) rfl rfl rfl rfl; refine gM rfl rfl (by conv => (lhs; whnf)) ?_; refine gU rfl ?_; refine gU rfl ?_; refine gU rfl ?_; refine gU rfl ?_; refine gU rfl ?_; apply gw_d; exact det_pick_t (v := .bool _) rfl rfl rfl rfl; refine gM rfl rfl (by conv => (lhs; whnf)) ?_; refine gU rfl ?_; refine gU rfl ?_; refine gU rfl ?_; refine gU rfl ?_; refine gU rfl ?_; apply gw_d; exact det_pick_t (v := .bool _) rfl rfl rfl rfl; refine gO ?_; refine gc_if_true rfl ?_; refine gc_seq ?_; refine gc_region ?_; apply gw_d; exact w_call rfl rfl (hA _) rfl; refine gM rfl rfl (by conv => (lhs; whnf)) ?_; refine gO ?_; refine gc_ret ?_; refine gx_then_ret ?_; rotate_left; refine gF rfl rfl rfl ?_; apply gw_d; exact w_load_box rfl rfl rfl (.there .here) rfl; refine gL rfl rfl rfl ?_; refine gC rfl rfl rfl rfl rfl ?_; apply gw_d; exact det_pick_f (v := .bool _) rfl rfl rfl rfl; refine gM rfl rfl (by conv => (lhs; whnf)) ?_; refine gw_guard_dec rfl rfl (fun _ => ?_) (fun _ => ?_); refine gU rfl ?_; refine gU rfl ?_; refine gU rfl ?_; refine gU rfl ?_; refine gU rfl ?_; apply gw_d; exact det_pick_t (v := .bool _) rfl rfl rfl rfl; refine gM rfl rfl (by conv => (lhs; whnf)) ?_; refine gU rfl ?_; refine gU rfl ?_; refine gU rfl ?_; refine gU rfl ?_; refine gU rfl ?_; apply gw_d; exact det_pick_t (v := .bool _) rfl rfl rfl rfl; refine gM rfl rfl (by conv => (lhs; whnf)) ?_; refine gU rfl ?_; refine gU rfl ?_; refine gU rfl ?_; refine gU rfl ?_; refine gU rfl ?_; apply gw_d; exact det_pick_t (v := .bool _) rfl rfl rfl rfl; refine gO ?_; refine gc_if_true rfl ?_; refine gc_seq ?_; refine gc_region ?_; apply gw_d; exact w_call rfl rfl (hA _) rfl; refine gM rfl rfl (by conv => (lhs; whnf)) ?_; refine gO ?_; refine gc_ret ?_; refine gx_then_ret ?_; rotate_left; refine gF rfl rfl rfl ?_; refine gF rfl rfl rfl ?_; apply gw_d; exact w_load_box rfl rfl rfl (.there .here) rfl; refine gL rfl rfl rfl ?_; refine gC rfl rfl rfl rfl rfl ?_; apply gw_d; exact det_pick_f (v := .bool _) rfl rfl rfl rfl; refine gM rfl rfl (by conv => (lhs; whnf)) ?_; refine gw_guard_dec rfl rfl (fun _ => ?_) (fun _ => ?_); refine gU rfl ?_; refine gU rfl ?_; refine gU rfl ?_; refine gU rfl ?_; refine gU rfl ?_; apply gw_d; exact det_pick_t (v := .bool _) rfl rfl rfl rfl; refine gM rfl rfl (by conv => (lhs; whnf)) ?_; refine gU rfl ?_; refine gU rfl ?_; refine gU rfl ?_; refine gU rfl ?_; refine gU rfl ?_; apply gw_d; exact det_pick_t (v := .bool _) rfl rfl rfl rfl; refine gO ?_; refine gc_if_true rfl ?_; refine gc_seq ?_; refine gc_region ?_; apply gw_d; exact w_call rfl rfl (hA _) rfl; refine gM rfl rfl (by conv => (lhs; whnf)) ?_; refine gO ?_; refine gc_ret ?_; refine gx_then_ret ?_; rotate_left; refine gF rfl rfl rfl ?_; refine gF rfl rfl rfl ?_; apply gw_d; exact w_load_box rfl rfl rfl (.there .here) rfl; refine gL rfl rfl rfl ?_; refine gC rfl rfl rfl rfl rfl ?_; apply gw_d; exact det_pick_f (v := .bool _) rfl rfl rfl rfl; refine gM rfl rfl (by conv => (lhs; whnf)) ?_; refine gw_guard_dec rfl rfl (fun _ => ?_) (fun _ => ?_); refine gU rfl ?_; refine gU rfl ?_; refine gU rfl ?_; refine gU rfl ?_; refine gU rfl ?_; apply gw_d; exact det_pick_t (v := .bool _) rfl rfl rfl rfl; refine gO ?_; refine gc_if_true rfl ?_; refine gc_seq ?_; refine gc_region ?_; apply gw_d; exact w_call rfl rfl (hA _) rfl; refine gM rfl rfl (by conv => (lhs; whnf)) ?_; refine gO ?_; refine gc_ret ?_; refine gx_then_ret ?_; rotate_left; refine gF rfl rfl rfl ?_; refine gF rfl rfl rfl ?_; apply gw_d; exact w_load_box rfl rfl rfl (.there .here) rfl; refine gL rfl rfl rfl ?_; refine gC rfl rfl rfl rfl rfl ?_; apply gw_d; exact det_pick_f (v := .bool _) rfl rfl rfl rfl; refine gO ?_; refine gc_if_dec rfl (fun _ => ?_) (fun _ => ?_); refine gc_seq ?_; refine gc_region ?_; apply gw_d; exact w_call rfl rfl (hA _) rfl; refine gM rfl rfl (by conv => (lhs; whnf)) ?_; refine gO ?_; refine gc_ret ?_; refine gx_then_ret ?_; rotate_left; refine gc_skip ?_; refine gx_next ?_; refine gc_seq ?_; refine gc_region ?_; refine gF rfl rfl rfl ?_; apply gw_d; exact w_load_part rfl rfl rfl (.there .here) rfl rfl; refine gF rfl rfl rfl ?_; apply gw_d; exact w_load_box rfl rfl rfl (.there .here) rfl; refine gF rfl rfl rfl ?_; apply gw_d; exact w_load_box rfl rfl rfl (.there .here) rfl; refine gF rfl rfl rfl ?_; apply gw_d; exact w_load_box rfl rfl rfl (.there .here) rfl; rotate_left)
  all_goals first | (refine gx_ret1 (v := .bool _) rfl rfl (fun _ _ => ?_); rfl) | skip
  have hCk : ∀ (L : List Res) (w' : World), St w L w' → Ok Tryz.prog 9 [.agg #[.int .i64 r, .int .i64 le]].toArray w' fun x _ => x = .int .i64 (tarE r le) := fun L w' s => wCheck_ok w' r le (hL.later s)
  by_cases hj : ¬ judgeAllE (opCheckE c.sty plE) c.bs c.ws c.xs.length = 0
  · have hP := fun (L : List Res) (w' : World) (s' : St w L w') => cPaid_bad (StyV.later s' hs') (hb.later s') (hw.later s') (hx.later s') hj
    focus (apply gw_d; exact w_call rfl rfl (hP _) rfl; refine gM rfl rfl (by conv => (lhs; whnf)) ?_; apply gw_d; exact det_extract rfl rfl rfl (by conv => (lhs; whnf)); apply gw_d; exact det_extract rfl rfl rfl (by conv => (lhs; whnf)); refine gM rfl rfl (by conv => (lhs; whnf)) ?_; refine gM rfl rfl (by conv => (lhs; whnf)) ?_; refine gO ?_; refine gc_seq ?_; refine gc_seq ?_; refine gc_region ?_; refine gM rfl rfl (by conv => (lhs; whnf)) ?_; refine gC rfl rfl rfl rfl rfl ?_; refine gM rfl rfl (by conv => (lhs; whnf)) ?_; refine gw_guard_dec rfl rfl (fun _ => ?_) (fun _ => ?_); refine gU rfl ?_; refine gU rfl ?_; refine gU rfl ?_; apply gw_d; exact det_pick_t (v := .bool _) rfl rfl rfl rfl; refine gO ?_; refine gc_if_true rfl ?_; refine gc_seq ?_; refine gc_region ?_; apply gw_d; exact w_call rfl rfl (hA _) rfl; refine gM rfl rfl (by conv => (lhs; whnf)) ?_; refine gO ?_; refine gc_ret ?_; refine gx_then_ret ?_; rotate_left; apply gw_d; exact w_load_boxN rfl rfl rfl .here rfl; rotate_left)
    all_goals first | (refine gx_ret1 (v := .bool _) rfl rfl (fun _ _ => ?_); rfl) | (exfalso; omega)
  have hj := Classical.not_not.1 hj
  obtain ⟨hOk, hx300⟩ := judge_zero hj
  have hPl := hOk.bundles
  have hMin := (scan_ops hOk).2
  have hTx := hOk.tix
  have hD := fun (L : List Res) (w' : World) (s' : St w L w') => cPaid_ok (StyV.later s' hs') (hb.later s') (hw.later s') (hx.later s') hj
  have hfine := paid_fine (l := c.sty.ops) (ws := c.ws) (tk := ticks c.bs) c.xs
  have hap := paid_apart (l := c.sty.ops) (ws := c.ws) (tk := ticks c.bs) c.xs
  have hpl := paidL_len c.sty.ops c.ws (ticks c.bs) c.xs
  have hC := fun (L : List Res) (w' : World) (vl : Value) (l : List Ret) (hl : Sl rRet w' w'.heap.size vl l) (he : chgErr r le (opCheckE c.sty plE) c.bs c.ws c.xs.length l.length = 0) (s' : St w L w') => Charges_ok (r := r) (le := le) (hL.later s') (StyV.later s' hs') (hb.later s') (hw.later s') (hx.later s') hl he
  generalize paidL c.sty.ops c.ws (ticks c.bs) c.xs = ps at hD hfine hap hpl hC
  have hep : ∀ x ∈ ps, (encX x).length = 4 := fun _ _ => rfl
  focus (skip)
  refine gw_callm rfl (hD _) rfl (fun x => ?_)
  obtain ⟨B, cb2⟩ := x
  by_cases ht : ¬ tarE r le = 0
  · focus (refine gM rfl rfl (by conv => (lhs; whnf)) ?_; apply gw_d; exact det_extract rfl rfl rfl (by conv => (lhs; whnf)); apply gw_d; exact det_extract rfl rfl rfl (by conv => (lhs; whnf)); refine gM rfl rfl (by conv => (lhs; whnf)) ?_; refine gM rfl rfl (by conv => (lhs; whnf)) ?_; refine gO ?_; refine gc_seq ?_; refine gc_seq ?_; refine gc_region ?_; refine gM rfl rfl (by conv => (lhs; whnf)) ?_; refine gC rfl rfl rfl rfl rfl ?_; refine gM rfl rfl (by conv => (lhs; whnf)) ?_; apply gw_d; exact w_load_boxN rfl rfl rfl (.there .here) rfl; apply gw_d; exact w_call rfl rfl (hCk _) rfl; refine gC rfl rfl rfl rfl rfl ?_; apply gw_d; exact det_pick_f (v := .bool _) rfl rfl rfl rfl; refine gO ?_; refine gc_if_dec rfl (fun _ => ?_) (fun _ => ?_); refine gc_seq ?_; refine gc_region ?_; apply gw_d; exact w_call rfl rfl (hA _) rfl; refine gM rfl rfl (by conv => (lhs; whnf)) ?_; refine gO ?_; refine gc_ret ?_; refine gx_then_ret ?_; rotate_left; refine gc_skip ?_; refine gx_next ?_; refine gc_seq ?_; refine gc_region ?_; refine gM rfl rfl (by conv => (lhs; whnf)) ?_; refine gO ?_; refine gc_seq ?_; refine gc_seq ?_; refine gc_region ?_; refine gM rfl rfl (by conv => (lhs; whnf)) ?_; refine gO ?_; refine gc_block ?_; rotate_left)
    all_goals first | (refine gx_ret1 (v := .bool _) rfl rfl (fun _ _ => ?_); rfl) | (exfalso; omega)
  have ht := Classical.not_not.1 ht
  rw [ht] at hCk
  focus (refine gM rfl rfl (by conv => (lhs; whnf)) ?_; apply gw_d; exact det_extract rfl rfl rfl (by conv => (lhs; whnf)); apply gw_d; exact det_extract rfl rfl rfl (by conv => (lhs; whnf)); refine gM rfl rfl (by conv => (lhs; whnf)) ?_; refine gM rfl rfl (by conv => (lhs; whnf)) ?_; refine gO ?_; refine gc_seq ?_; refine gc_seq ?_; refine gc_region ?_; refine gM rfl rfl (by conv => (lhs; whnf)) ?_; refine gC rfl rfl rfl rfl rfl ?_; refine gM rfl rfl (by conv => (lhs; whnf)) ?_; apply gw_d; exact w_load_boxN rfl rfl rfl (.there .here) rfl; apply gw_d; exact w_call rfl rfl (hCk _) rfl; refine gC rfl rfl rfl rfl rfl ?_; apply gw_d; exact det_pick_f (v := .bool _) rfl rfl rfl rfl; refine gO ?_; refine gc_if_dec rfl (fun _ => ?_) (fun _ => ?_); refine gc_seq ?_; refine gc_region ?_; rotate_left; refine gc_skip ?_; refine gx_next ?_; refine gc_seq ?_; refine gc_region ?_; refine gM rfl rfl (by conv => (lhs; whnf)) ?_; refine gO ?_; refine gc_seq ?_; refine gc_seq ?_; refine gc_region ?_; refine gM rfl rfl (by conv => (lhs; whnf)) ?_; refine gO ?_; refine gc_block ?_; rotate_left)
  all_goals first | (exfalso; omega) | skip
  have hbk4 : c.bs.length ≤ 4 := by omega
  have hol4 : c.sty.ops.length ≤ 4 := by omega
  refine gc_own0 46 3 ?_
  refine gc_loop1 (σ := Nat × Option Addr × Nat) [81, 82, 83, 84, 85, 88, 89, 90, 91, 92, 9, 93, 94, 95, 96, 97, 98, 99, 100, 101, 102, 103, 104, 105, 106, 107, 108, 109, 110, 111, 4, 112, 113, 10, 114, 115, 116, 117, 11, 120, 121, 122, 123, 124, 125, 128, 129, 130, 131, 132, 133, 134, 135, 7, 126, 127, 118, 119, 86, 87, 8] (fun q => [(8, .int .i64 q.1), (7, .slice q.2.1 (allR (c.bs.take q.1) c.sty.ops.length).length q.2.2)]) (fun q => Own q.2.1 (allR (c.bs.take q.1) c.sty.ops.length).length q.2.2 46 3 ((allR (c.bs.take q.1) c.sty.ops.length).flatMap encR)) (fun q => q.1 ≤ c.bs.length ∧ (allR (c.bs.take q.1) c.sty.ops.length).length ≤ 40 * q.1) (fun q => c.bs.length - q.1) (0, none, 0) ⟨Nat.zero_le _, by rw [List.take_zero]; exact Nat.le_refl 0⟩ ⟨rfl, by rw [List.take_zero]; rfl, trivial⟩ (by rw [List.take_zero]; rfl) ?_
  rintro ⟨i, A, ca⟩ base ⟨hi, hlen⟩
  dsimp only at hi hlen ⊢
  focus (refine gc_seq ?_; refine gc_seq ?_; refine gc_region ?_; refine gM rfl rfl (by conv => (lhs; whnf)) ?_; refine gF rfl rfl rfl ?_; apply gw_d; exact w_load_box rfl rfl rfl (.there (.there (.there .here))) rfl; refine gL rfl rfl rfl ?_; refine gC rfl rfl rfl rfl rfl ?_; refine gO ?_)
  refine gc_if_dec rfl (fun h => ?_) (fun h => ?_)
  · have hil : i < c.bs.length := by omega
    obtain ⟨adb, rfl, hbk, hcb, hin⟩ := hbcell i hil
    have hpl := hOk.plies i hil
    generalize hbi : c.bs[i] = b at hcb hin hpl
    focus (refine gc_skip ?_; refine gx_next ?_; refine gc_seq ?_; refine gc_block ?_; refine gc_seq ?_; refine gc_region ?_; refine gF rfl rfl rfl ?_; apply gw_d; exact w_load_box rfl rfl rfl (.there (.there (.there .here))) rfl; refine gM rfl rfl (by conv => (lhs; whnf)) ?_; apply gw_d; exact w_index (m := i) rfl rfl rfl rfl rfl hil; apply gw_d; exact w_load_elem rfl rfl rfl (by assumption) (by assumption) (by rfl); refine w_alloc rfl (fun _ => ?_); refine w_store_all rfl rfl rfl rfl rfl .here rfl ?_; refine gO ?_; refine gc_seq ?_; refine gc_seq ?_; refine gc_region ?_; refine gF rfl rfl rfl ?_; apply gw_d; exact w_load_box rfl rfl rfl .here rfl; refine gC rfl rfl rfl rfl rfl ?_; refine gM rfl rfl (by conv => (lhs; whnf)) ?_)
    rename_i bb
    focus (refine gw_guard_dec rfl rfl (fun _ => ?_) (fun _ => ?_); refine gU rfl ?_; refine gU rfl ?_; refine gU rfl ?_; refine gU rfl ?_; refine gU rfl ?_; apply gw_d; exact det_pick_t (v := .bool _) rfl rfl rfl rfl; refine gM rfl rfl (by conv => (lhs; whnf)) ?_; refine gU rfl ?_; refine gU rfl ?_; refine gU rfl ?_; refine gU rfl ?_; refine gU rfl ?_; refine gU rfl ?_; apply gw_d; exact det_pick_t (v := .bool _) rfl rfl rfl rfl; refine gO ?_; refine gc_if_true rfl ?_; refine gc_seq ?_; refine gc_region ?_; apply gw_d; exact w_call rfl rfl (hA _) rfl; refine gM rfl rfl (by conv => (lhs; whnf)) ?_; refine gO ?_; refine gc_ret ?_; refine gx_then_ret ?_; refine gx_block_ret ?_; refine gx_then_ret ?_; refine gx_then_ret ?_; refine gx_block_ret ?_; refine gx_then_ret ?_; rotate_left; refine gF rfl rfl rfl ?_; apply gw_d; exact w_load_box rfl rfl rfl .here rfl; refine gF rfl rfl rfl ?_; apply gw_d; exact w_load_box rfl rfl rfl .here rfl; refine gC rfl rfl rfl rfl rfl ?_; apply gw_d; exact det_pick_f (v := .bool _) rfl rfl rfl rfl; refine gM rfl rfl (by conv => (lhs; whnf)) ?_; refine gw_guard_dec rfl rfl (fun _ => ?_) (fun _ => ?_); refine gU rfl ?_; refine gU rfl ?_; refine gU rfl ?_; refine gU rfl ?_; refine gU rfl ?_; refine gU rfl ?_; apply gw_d; exact det_pick_t (v := .bool _) rfl rfl rfl rfl; refine gO ?_; refine gc_if_true rfl ?_; refine gc_seq ?_; refine gc_region ?_; apply gw_d; exact w_call rfl rfl (hA _) rfl; refine gM rfl rfl (by conv => (lhs; whnf)) ?_; refine gO ?_; refine gc_ret ?_; refine gx_then_ret ?_; refine gx_block_ret ?_; refine gx_then_ret ?_; refine gx_then_ret ?_; refine gx_block_ret ?_; refine gx_then_ret ?_; rotate_left; refine gF rfl rfl rfl ?_; apply gw_d; exact w_load_box rfl rfl rfl .here rfl; refine gF rfl rfl rfl ?_; apply gw_d; exact w_load_box rfl rfl rfl .here rfl; apply gw_d; exact det_ar rfl rfl rfl rfl rfl (by omega); refine gC rfl rfl rfl rfl rfl ?_; apply gw_d; exact det_pick_f (v := .bool _) rfl rfl rfl rfl; refine gO ?_; refine gc_if_dec rfl (fun _ => ?_) (fun _ => ?_); refine gc_seq ?_; refine gc_region ?_; apply gw_d; exact w_call rfl rfl (hA _) rfl; refine gM rfl rfl (by conv => (lhs; whnf)) ?_; refine gO ?_; refine gc_ret ?_; refine gx_then_ret ?_; refine gx_block_ret ?_; refine gx_then_ret ?_; refine gx_then_ret ?_; refine gx_block_ret ?_; refine gx_then_ret ?_; rotate_left; refine gc_skip ?_; refine gx_next ?_; refine gc_seq ?_; refine gc_region ?_; refine gF rfl rfl rfl ?_; apply gw_d; exact w_load_box rfl rfl rfl .here rfl; refine gM rfl rfl (by conv => (lhs; whnf)) ?_; refine gO ?_; refine gc_block ?_; rotate_left)
    all_goals first | (refine gx_ret1 (v := .bool _) rfl rfl (fun _ _ => ?_); rfl) | skip
    have hin2 := hin.2.1
    have hin3 := hin.2.2
    unfold inI64 at hin2 hin3
    obtain ⟨m, hm⟩ : ∃ m : Nat, b.upto - b.fr = m := ⟨(b.upto - b.fr).toNat, by omega⟩
    have hm10 : m ≤ 10 := by omega
    have hz := accR_zero c.bs c.sty.ops.length i b
    refine gc_ent (Sub.ent (.cons (.there .here) (.cons .here (Sub.all _)))) ?_
    refine gc_loop1 (σ := Nat × Option Addr × Nat) [114, 115, 116, 117, 11, 120, 121, 122, 123, 124, 125, 128, 129, 130, 131, 132, 133, 134, 135, 7, 126, 127, 118, 119, 10] (fun q => [(10, .int .i64 (b.fr + (q.1 : Int))), (7, .slice q.2.1 (accR c.bs c.sty.ops.length i b q.1 0).length q.2.2)]) (fun q => Own q.2.1 (accR c.bs c.sty.ops.length i b q.1 0).length q.2.2 46 3 ((accR c.bs c.sty.ops.length i b q.1 0).flatMap encR)) (fun q => q.1 ≤ m) (fun q => m - q.1) (0, A, ca) (Nat.zero_le _) ⟨congrArg (Value.int .i64) (show b.fr = b.fr + ((0 : Nat) : Int) by omega), by rw [hz]; rfl, trivial⟩ (by rw [hz]) ?_
    rintro ⟨p, A2, ca2⟩ base2 hp
    dsimp only at hp ⊢
    focus (refine gc_seq ?_; refine gc_seq ?_; refine gc_region ?_; refine gM rfl rfl (by conv => (lhs; whnf)) ?_; refine gF rfl rfl rfl ?_; apply gw_d; exact w_load_box rfl rfl rfl (.there .here) rfl; refine gC rfl rfl rfl rfl rfl ?_; refine gO ?_)
    refine gc_if_dec rfl (fun hpu => ?_) (fun hpu => ?_)
    · have hpm : p < m := by omega
      focus (refine gc_skip ?_; refine gx_next ?_; refine gc_seq ?_; refine gc_block ?_; refine gc_seq ?_; refine gc_region ?_; refine gM rfl rfl (by conv => (lhs; whnf)) ?_; refine gO ?_; refine gc_block ?_)
      refine gc_loop1 (σ := Nat × Option Addr × Nat) [120, 121, 122, 123, 124, 125, 128, 129, 130, 131, 132, 133, 134, 135, 7, 126, 127, 11] (fun q => [(11, .int .i64 q.1), (7, .slice q.2.1 (accR c.bs c.sty.ops.length i b p q.1).length q.2.2)]) (fun q => Own q.2.1 (accR c.bs c.sty.ops.length i b p q.1).length q.2.2 46 3 ((accR c.bs c.sty.ops.length i b p q.1).flatMap encR)) (fun q => q.1 ≤ c.sty.ops.length) (fun q => c.sty.ops.length - q.1) (0, A2, ca2) (Nat.zero_le _) ⟨rfl, rfl, trivial⟩ rfl ?_
      rintro ⟨o, A3, ca3⟩ base3 ho
      dsimp only at ho ⊢
      focus (refine gc_seq ?_; refine gc_seq ?_; refine gc_region ?_; refine gM rfl rfl (by conv => (lhs; whnf)) ?_; refine gF rfl rfl rfl ?_; refine gF rfl rfl rfl ?_; apply gw_d; exact w_load_box rfl rfl rfl (.there (.there (.there (.there .here)))) rfl; refine gL rfl rfl rfl ?_; refine gC rfl rfl rfl rfl rfl ?_; refine gO ?_)
      refine gc_if_dec rfl (fun h4 => ?_) (fun h4 => ?_)
      · have hol : o < c.sty.ops.length := by omega
        have hsu := accR_op c.bs c.sty.ops.length i b p o
        have hal := accR_len c.bs c.sty.ops.length i b p o
        have hmul : p * c.sty.ops.length ≤ 10 * 4 := Nat.mul_le_mul (by omega) hol4
        have h200 : (accR c.bs c.sty.ops.length i b p o).length ≤ 400 := by omega
        focus (refine gc_skip ?_; refine gx_next ?_; refine gc_seq ?_; refine gc_block ?_; refine gc_region ?_; refine gM rfl rfl (by conv => (lhs; whnf)) ?_; refine gF rfl rfl rfl ?_; apply gw_d; exact w_load_box rfl rfl rfl (.there .here) rfl; refine gM rfl rfl (by conv => (lhs; whnf)) ?_; refine gM rfl rfl (by conv => (lhs; whnf)) ?_; apply gw_d; exact w_buildP [(0, .int .i64 b.tick), (1, .int .i64 (b.fr + (p : Int))), (2, .int .i64 (o : Int))] (cells := #[.int .i64 b.tick, .int .i64 (b.fr + (p : Int)), .int .i64 (o : Int)]) (by kernel_rfl) rfl rfl rfl)
        refine gw_bslice1 (v := .agg #[.int .i64 b.tick, .int .i64 (b.fr + (p : Int)), .int .i64 (o : Int)]) rfl rfl rfl rfl rfl (fun b1 => ?_)
        refine gw_append (news := encR ⟨b.tick, b.fr + (p : Int), (o : Int)⟩) rfl rfl rfl (.there .here) rfl (fun w' s _ => ?_) (fun u hu => ?_) (by unfold maxLen; omega) (by omega) (by decide) rfl (fun A4 ca4 => ?_)
        · refine ⟨⟨b1, 0, none⟩, rfl, fun j u hu => ?_⟩
          rw [add_zero]
          refine (Box.cell s.head j).trans ?_
          change (#[Value.int .i64 b.tick, .int .i64 (b.fr + (p : Int)), .int .i64 (o : Int)] : Array Value)[j]? = some u
          rw [List.getElem?_toArray]
          exact hu
        · unfold encR at hu
          simp only [List.mem_cons, List.not_mem_nil, or_false] at hu
          rcases hu with rfl | rfl | rfl <;> rfl
        · focus (refine gM rfl rfl (by conv => (lhs; whnf)) ?_; refine gw_nil ?_; refine gx_block ?_; refine gx_next ?_; refine gc_region ?_; refine gM rfl rfl (by conv => (lhs; whnf)) ?_; apply gw_d; exact det_ar rfl rfl rfl rfl rfl (by omega); refine gM rfl rfl (by conv => (lhs; whnf)) ?_; refine gw_nil ?_)
          refine gx_round (o + 1, A4, ca4) hol (by dsimp only; omega) (by repeat (first | exact Keeps.refl | refine Keeps.upd rfl ?_ | refine Keeps.sets rfl ?_ | refine Keeps.havoc rfl ?_)) ⟨rfl, by rw [hsu, List.length_append]; rfl, trivial⟩ ?_
          dsimp only
          rw [hsu, List.length_append, List.flatMap_append]
          simp only [List.flatMap_cons, List.flatMap_nil, List.append_nil]
          exact .cons .here Sub.tail
      · obtain rfl : o = c.sty.ops.length := by omega
        have hsp := accR_ply c.bs c.sty.ops.length i b p
        focus (refine gc_exit ?_; refine gx_then_exit ?_; refine gx_then_exit ?_; refine gx_block_exit ?_; refine gx_block ?_; refine gx_next ?_; refine gc_region ?_; refine gM rfl rfl (by conv => (lhs; whnf)) ?_; apply gw_d; exact det_ar rfl rfl rfl rfl rfl (by omega); refine gM rfl rfl (by conv => (lhs; whnf)) ?_; refine gw_nil ?_)
        refine gx_round (p + 1, A3, ca3) hpm (by dsimp only; omega) (by repeat (first | exact Keeps.refl | refine Keeps.upd rfl ?_ | refine Keeps.sets rfl ?_ | refine Keeps.havoc rfl ?_)) ⟨congrArg (Value.int .i64) (show b.fr + (p : Int) + 1 = b.fr + ((p + 1 : Nat) : Int) by omega), by rw [hsp]; rfl, trivial⟩ ?_
        dsimp only
        rw [hsp]
        exact Sub.all _
    · obtain rfl : p = m := by omega
      have hsb := accR_bun c.sty.ops.length hil hbi hm
      have hal := accR_len c.bs c.sty.ops.length i b p 0
      have hmul : p * c.sty.ops.length ≤ 10 * 4 := Nat.mul_le_mul (by omega) hol4
      focus (refine gc_exit ?_; refine gx_then_exit ?_; refine gx_then_exit ?_; refine gx_block_exit ?_; refine gx_block ?_; refine gx_next ?_; refine gc_region ?_; refine gM rfl rfl (by conv => (lhs; whnf)) ?_; apply gw_d; exact det_ar rfl rfl rfl rfl rfl (by omega); refine gM rfl rfl (by conv => (lhs; whnf)) ?_; refine gw_nil ?_)
      refine gx_round (i + 1, A2, ca2) ⟨hil, by dsimp only; rw [← hsb]; omega⟩ (by dsimp only; omega) (by repeat (first | exact Keeps.refl | refine Keeps.upd rfl ?_ | refine Keeps.sets rfl ?_ | refine Keeps.havoc rfl ?_)) ⟨rfl, by rw [hsb]; rfl, trivial⟩ ?_
      dsimp only
      rw [hsb]
      exact .cons .here Sub.tail
  obtain rfl : i = c.bs.length := by omega
  rw [List.take_length]
  rw [List.take_length] at hlen
  focus (refine gc_exit ?_; refine gx_then_exit ?_; refine gx_then_exit ?_; refine gx_block_exit ?_; refine gx_next ?_; refine gc_seq ?_; refine gc_seq ?_; refine gc_region ?_; refine gM rfl rfl (by conv => (lhs; whnf)) ?_; refine gL rfl rfl rfl ?_; refine gC rfl rfl rfl rfl rfl ?_; refine gO ?_; refine gc_if_dec rfl (fun _ => ?_) (fun _ => ?_); refine gc_seq ?_; refine gc_region ?_; apply gw_d; exact w_call rfl rfl (hA _) rfl; refine gM rfl rfl (by conv => (lhs; whnf)) ?_; refine gO ?_; refine gc_ret ?_; refine gx_then_ret ?_; rotate_left; refine gc_skip ?_; refine gx_next ?_; refine gc_seq ?_; refine gc_region ?_; refine gM rfl rfl (by conv => (lhs; whnf)) ?_; refine gM rfl rfl (by conv => (lhs; whnf)) ?_; rotate_left)
  all_goals first | (refine gx_ret1 (v := .bool _) rfl rfl (fun _ _ => ?_); rfl) | skip
  have hxr : ∀ (w' : World) (S : Nat → Prop), ∀ q ∈ allR c.bs c.sty.ops.length ++ allR c.bs c.sty.ops.length, rRet.rep w' S q (encR q) := fun w' S q hq => by
    have hq : q ∈ allR c.bs c.sty.ops.length := by rcases List.mem_append.1 hq with h | h <;> exact h
    obtain ⟨b, hb1, e1, e2, e3⟩ := allR_mem.1 hq
    obtain ⟨kb, hkb, hke⟩ := List.getElem_of_mem hb1
    obtain ⟨_, _, _, _, i1, i2, i3⟩ := hbcell kb hkb
    rw [hke] at i1 i2 i3
    refine ⟨rfl, by rw [e1]; exact i1, ?_, ?_⟩ <;> unfold inI64 at * <;> omega
  have hW : ∀ y ∈ ps, sumTO (chgL r le c.sty.ops c.bs ps (allR c.bs c.sty.ops.length ++ allR c.bs c.sty.ops.length)) y.tick y.op = amtF r le c.sty.ops c.bs (y.tick, y.op) := fun y hy => sum_whole hTx hPl hap hy (hfine y hy).1 (hfine y hy).known.1
  have hWho : ∀ y ∈ ps, ∀ q ∈ chgL r le c.sty.ops c.bs ps (allR c.bs c.sty.ops.length ++ allR c.bs c.sty.ops.length), q.tick = y.tick → q.op = y.op → q.who = y.who := fun y hy q hq e1 e2 => chg_who hap hy hq e1 e2
  have hAll : totS (chgL r le c.sty.ops c.bs ps (allR c.bs c.sty.ops.length ++ allR c.bs c.sty.ops.length)) ps = sumA (chgL r le c.sty.ops c.bs ps (allR c.bs c.sty.ops.length ++ allR c.bs c.sty.ops.length)) := totS_all hap fun q hq => chg_paid hq
  have hcr : ∀ q ∈ chgL r le c.sty.ops c.bs ps (allR c.bs c.sty.ops.length ++ allR c.bs c.sty.ops.length), 0 ≤ q.amt ∧ q.amt ≤ 1000000000 := fun q hq => chg_range hPl hq
  have hcl := chgL_len (r := r) (le := le) (l := c.sty.ops) (bs := c.bs) (ps := ps) (allR c.bs c.sty.ops.length ++ allR c.bs c.sty.ops.length)
  have hXX : (allR c.bs c.sty.ops.length ++ allR c.bs c.sty.ops.length).length = (allR c.bs c.sty.ops.length).length + (allR c.bs c.sty.ops.length).length := List.length_append
  have hC2 := fun (L L' : List Res) (w' : World) (A : Option Addr) (ca : Nat) (hp : Pick L (Own A ((allR c.bs c.sty.ops.length).length + (allR c.bs c.sty.ops.length).length) ca 46 3 ((allR c.bs c.sty.ops.length ++ allR c.bs c.sty.ops.length).flatMap encR)) L') (s' : St w L w') => hC L w' (.slice A ((allR c.bs c.sty.ops.length).length + (allR c.bs c.sty.ops.length).length) ca) (allR c.bs c.sty.ops.length ++ allR c.bs c.sty.ops.length) (Sl.own (R := rRet) (enc := encR) s' hp hXX.symm (hxr _ _)) (chgErr_mk (by omega) hj ht) s'
  rw [List.flatMap_append] at hC2
  generalize chgL r le c.sty.ops c.bs ps (allR c.bs c.sty.ops.length ++ allR c.bs c.sty.ops.length) = ch at hC2 hW hWho hAll hcr hcl
  generalize outsR (okR c.sty.ops.length c.bs ps) [] (allR c.bs c.sty.ops.length ++ allR c.bs c.sty.ops.length) = os at hC2
  generalize hX : allR c.bs c.sty.ops.length = X at *
  have hec : ∀ x ∈ ch, (encC x).length = 5 := fun _ _ => rfl
  refine gw_append (news := X.flatMap encR) rfl rfl rfl .here (flat_len' fun _ _ => rfl) (fun w' s hpos => ?_) encR_one (by unfold maxLen; omega) (by omega) (by decide) rfl (fun A5 ca5 => ?_)
  · obtain ⟨g, cs9, hg, _, _⟩ := own_some s .here hpos
    refine ⟨⟨g, 0, none⟩, hg, fun j u hu => ?_⟩
    have := own_cell s .here hpos hu
    rw [hg] at this
    exact this
  focus (refine gM rfl rfl (by conv => (lhs; whnf)) ?_; refine gN ?_; refine gF rfl rfl rfl ?_; apply gw_d; exact w_load_part rfl rfl rfl (.there (.there (.there .here))) rfl rfl; refine gF rfl rfl rfl ?_; apply gw_d; exact w_load_box rfl rfl rfl (.there (.there (.there .here))) rfl; refine gF rfl rfl rfl ?_; apply gw_d; exact w_load_box rfl rfl rfl (.there (.there (.there .here))) rfl; refine gF rfl rfl rfl ?_; apply gw_d; exact w_load_box rfl rfl rfl (.there (.there (.there .here))) rfl; apply gw_d; exact w_load_boxN rfl rfl rfl (.there (.there .here)) rfl; refine gM rfl rfl (by conv => (lhs; whnf)) ?_)
  refine gw_callm rfl (fun w' s' => hC2 _ _ w' A5 ca5 .here s') rfl (fun x => ?_)
  obtain ⟨⟨B1, d1⟩, o1⟩ := x
  refine gw_ent (K := [Own B1 ch.length d1 57 5 (ch.flatMap encC), Own B ps.length cb2 51 4 (ps.flatMap encX), Box bT _ _, Box bC _ _]) (Sub.ent (.cons .here (.cons (.there (.there .here)) (.cons (.there (.there .here)) (.cons (.there (.there .here)) .nil))))) ?_
  focus (refine gM rfl rfl (by conv => (lhs; whnf)) ?_; apply gw_d; exact det_extract rfl rfl rfl (by conv => (lhs; whnf)); apply gw_d; exact det_extract rfl rfl rfl (by conv => (lhs; whnf)); apply gw_d; exact det_extract rfl rfl rfl (by conv => (lhs; whnf)); refine gM rfl rfl (by conv => (lhs; whnf)) ?_; refine gM rfl rfl (by conv => (lhs; whnf)) ?_; refine gM rfl rfl (by conv => (lhs; whnf)) ?_; refine gO ?_; refine gc_seq ?_; refine gc_seq ?_; refine gc_region ?_; refine gM rfl rfl (by conv => (lhs; whnf)) ?_; refine gC rfl rfl rfl rfl rfl ?_; refine gO ?_)
  refine gc_if_dec rfl (fun h => absurd rfl h) (fun _ => ?_)
  focus (refine gc_skip ?_; refine gx_next ?_; refine gc_seq ?_; refine gc_region ?_; refine gM rfl rfl (by conv => (lhs; whnf)) ?_; refine gO ?_; refine gc_seq ?_; refine gc_seq ?_; refine gc_region ?_; refine gM rfl rfl (by conv => (lhs; whnf)) ?_; refine gO ?_; refine gc_block ?_)
  have h300 : ch.length ≤ 300 := by omega
  refine gc_loopK (σ := Nat) [160, 161, 162, 163, 17, 18, 19, 166, 167, 168, 169, 170, 173, 174, 175, 176, 177, 178, 179, 180, 181, 182, 183, 184, 185, 186, 187, 188, 189, 190, 191, 192, 193, 194, 195, 196, 197, 198, 199, 200, 201, 202, 203, 204, 206, 207, 208, 209, 210, 211, 212, 213, 214, 215, 216, 217, 218, 219, 220, 221, 222, 223, 224, 225, 226, 227, 228, 229, 230, 231, 205, 232, 233, 171, 172, 20, 234, 235, 236, 237, 240, 241, 242, 243, 244, 245, 246, 247, 248, 249, 250, 251, 252, 253, 254, 255, 256, 257, 258, 259, 260, 261, 262, 263, 264, 265, 266, 267, 268, 269, 270, 271, 272, 273, 274, 275, 276, 277, 15, 278, 279, 280, 281, 282, 283, 284, 285, 286, 287, 288, 4, 238, 239, 289, 290, 291, 164, 165, 16] (fun i => [(16, .int .i64 i), (15, .int .i64 (totS ch (ps.take i)))]) (fun i => i ≤ ps.length) (fun i => ps.length - i) 0 (Nat.zero_le _) ⟨rfl, by rw [List.take_zero]; rfl, trivial⟩ ?_
  rintro i base hi
  focus (refine gc_seq ?_; refine gc_seq ?_; refine gc_region ?_; refine gM rfl rfl (by conv => (lhs; whnf)) ?_; refine gM rfl rfl (by conv => (lhs; whnf)) ?_; refine gL rfl rfl rfl ?_; refine gC rfl rfl rfl rfl rfl ?_; refine gO ?_)
  refine gc_if_dec rfl (fun h => ?_) (fun h => ?_)
  · have hil : i < ps.length := by omega
    have hym := List.getElem_mem hil
    have hci := flat_at hep hil
    have hc0 := hci 0 _ rfl
    have hc1 := hci 1 _ rfl
    have hc2 := hci 2 _ rfl
    have htr := totS_range hcr h300 ps i (by omega)
    have hts : totS ch (ps.take (i + 1)) = totS ch (ps.take i) + sumTO ch ps[i].tick ps[i].op := by rw [List.take_succ_eq_append_getElem hil, totS_snoc]
    obtain ⟨hk1, hk2, _⟩ := (hfine ps[i] hym).known
    have hT := (hfine ps[i] hym).1
    have hWi := hW ps[i] hym
    have hWhoi := hWho ps[i] hym
    generalize hy : ps[i] = y at hci hc0 hc1 hc2 hts hk1 hk2 hT hWi hWhoi
    obtain ⟨o, ho⟩ : ∃ o : Nat, y.op = (o : Int) := ⟨y.op.toNat, by omega⟩
    have hol : o < c.sty.ops.length := by omega
    obtain ⟨ado, _, hv, _, _, hbo, hocell⟩ := h6.at' 5 rfl (by omega)
    injection hv with e1 e2 e3
    subst e1 e3
    obtain ⟨cs9, hoce, Aa, caa, Auu, cuu, rfl, _, _, _⟩ := hocell o hol
    have hoc2 := hoce 2 _ rfl
    have hMo := hMin o hol
    have hmin : minAt c.sty.ops y.op = c.sty.ops[o].minutes := by
      unfold minAt
      rw [ho, Int.toNat_natCast, List.getElem?_eq_getElem hol]
      rfl
    have har := amtF_range r le c.sty.ops c.bs (y.tick, y.op)
    focus (refine gc_skip ?_; refine gx_next ?_; refine gc_seq ?_; refine gc_block ?_; refine gc_seq ?_; refine gc_region ?_; refine gM rfl rfl (by conv => (lhs; whnf)) ?_; refine gM rfl rfl (by conv => (lhs; whnf)) ?_; refine gO ?_; refine gc_seq ?_; refine gc_seq ?_; refine gc_region ?_; refine gM rfl rfl (by conv => (lhs; whnf)) ?_; refine gO ?_; refine gc_block ?_)
    refine gc_loopK (σ := Nat) [166, 167, 168, 169, 170, 173, 174, 175, 176, 177, 178, 179, 180, 181, 182, 183, 184, 185, 186, 187, 188, 189, 190, 191, 192, 193, 194, 195, 196, 197, 198, 199, 200, 201, 202, 203, 204, 206, 207, 208, 209, 210, 211, 212, 213, 214, 215, 216, 217, 218, 219, 220, 221, 222, 223, 224, 225, 226, 227, 228, 229, 230, 231, 205, 232, 233, 17, 171, 172, 19] (fun k => [(19, .int .i64 k), (17, .int .i64 (wantF (amtF r le c.sty.ops c.bs (y.tick, y.op)) y.tick (c.bs.take k)))]) (fun k => k ≤ c.bs.length) (fun k => c.bs.length - k) 0 (Nat.zero_le _) ⟨rfl, by rw [List.take_zero]; rfl, trivial⟩ ?_
    rintro k base2 hk
    focus (refine gc_seq ?_; refine gc_seq ?_; refine gc_region ?_; refine gM rfl rfl (by conv => (lhs; whnf)) ?_; refine gF rfl rfl rfl ?_; apply gw_d; exact w_load_box rfl rfl rfl (.there (.there (.there .here))) rfl; refine gL rfl rfl rfl ?_; refine gC rfl rfl rfl rfl rfl ?_; refine gO ?_)
    refine gc_if_dec rfl (fun h2 => ?_) (fun h2 => ?_)
    · have hkl : k < c.bs.length := by omega
      obtain ⟨adb, rfl, hbk, hcb, _, hbi1, hbi2⟩ := hbcell k hkl
      have hb0 := hcb 0 _ rfl
      have hb4 := hcb 4 _ rfl
      have hb5 := hcb 5 _ rfl
      have hplk := hOk.plies k hkl
      have hcn := cnt_at hTx hkl
      have hws : wantF (amtF r le c.sty.ops c.bs (y.tick, y.op)) y.tick (c.bs.take (k + 1)) = if c.bs[k].tick = y.tick then amtF r le c.sty.ops c.bs (y.tick, y.op) else wantF (amtF r le c.sty.ops c.bs (y.tick, y.op)) y.tick (c.bs.take k) := by rw [List.take_succ_eq_append_getElem hkl, wantF_snoc]
      unfold inI64 at hbi1 hbi2
      focus (refine gc_skip ?_; refine gx_next ?_; refine gc_seq ?_; refine gc_block ?_; refine gc_seq ?_)
      refine gc_draw 32 (by kernel_rfl) (by kernel_rfl) ?_
      focus (apply gd_d; exact w_field rfl rfl rfl; apply gd_d; exact w_load_box rfl rfl rfl (.there (.there (.there .here))) rfl; apply gd_d; exact det_m rfl rfl (by conv => (lhs; whnf)); apply gd_d; exact w_index (m := k) rfl rfl rfl rfl rfl hkl; apply gd_d; exact w_field rfl rfl rfl; apply gd_d; exact w_load_fld rfl rfl rfl (by assumption) (by assumption); apply gd_d; exact det_m rfl rfl (by conv => (lhs; whnf)); apply gd_d; exact det_m rfl rfl (by conv => (lhs; whnf)); apply gd_d; exact w_indexO (m := i) rfl rfl rfl rfl rfl hil (.there .here); apply gd_d; exact w_field rfl rfl rfl; apply gd_d; exact w_loadOF rfl rfl rfl (.there .here) (by omega) hc0; apply gd_d; exact det_cmp rfl rfl rfl rfl rfl; apply gd_d; exact det_m rfl rfl (by conv => (lhs; whnf)); refine gd_guard_dec rfl rfl (fun _ => ?_) (fun _ => ?_); apply gd_d; exact det_m rfl rfl (by conv => (lhs; whnf)); apply gd_d; exact det_m rfl rfl (by conv => (lhs; whnf)); apply gd_d; exact w_indexO (m := i) rfl rfl rfl rfl rfl hil (.there .here); apply gd_d; exact w_field rfl rfl rfl; apply gd_d; exact w_loadOF rfl rfl rfl (.there .here) (by omega) hc1; apply gd_d; exact det_cmp rfl rfl rfl rfl rfl; apply gd_d; exact det_pick_t (v := .bool _) rfl rfl rfl rfl; apply gd_d; exact det_m rfl rfl (by conv => (lhs; whnf)); refine gd_guard_dec rfl rfl (fun _ => ?_) (fun _ => ?_); apply gd_d; exact det_m rfl rfl (by conv => (lhs; whnf)); apply gd_d; exact det_m rfl rfl (by conv => (lhs; whnf)); apply gd_d; exact w_indexO (m := i) rfl rfl rfl rfl rfl hil (.there .here); apply gd_d; exact w_field rfl rfl rfl; apply gd_d; exact w_loadOF rfl rfl rfl (.there .here) (by omega) hc1; apply gd_d; exact w_field rfl rfl rfl; apply gd_d; exact w_field rfl rfl rfl; apply gd_d; exact w_load_box rfl rfl rfl (.there (.there (.there .here))) rfl; apply gd_d; exact w_len rfl rfl rfl; apply gd_d; exact det_cmp rfl rfl rfl rfl rfl; apply gd_d; exact det_pick_t (v := .bool _) rfl rfl rfl rfl; refine gd_nil ?_; refine gO ?_; refine gc_if_dec rfl (fun _ => ?_) (fun _ => ?_); rotate_left; refine gc_skip ?_; refine gx_block ?_; refine gx_next ?_; refine gc_region ?_; refine gM rfl rfl (by conv => (lhs; whnf)) ?_; apply gw_d; exact det_ar rfl rfl rfl rfl rfl (by omega); refine gM rfl rfl (by conv => (lhs; whnf)) ?_; refine gw_nil ?_; rotate_left; apply gd_d; exact det_not rfl; apply gd_d; exact det_not rfl; apply gd_d; exact det_not rfl; apply gd_d; exact det_not rfl; apply gd_d; exact det_not rfl; apply gd_d; exact det_not rfl; apply gd_d; exact det_not rfl; apply gd_d; exact det_not rfl; apply gd_d; exact det_not rfl; apply gd_d; exact det_not rfl; apply gd_d; exact det_pick_f (v := .bool _) rfl rfl rfl rfl; refine gd_nil ?_; refine gO ?_; refine gc_if_false rfl ?_; refine gc_skip ?_; refine gx_block ?_; refine gx_next ?_; refine gc_region ?_; refine gM rfl rfl (by conv => (lhs; whnf)) ?_; apply gw_d; exact det_ar rfl rfl rfl rfl rfl (by omega); refine gM rfl rfl (by conv => (lhs; whnf)) ?_; refine gw_nil ?_; rotate_left; apply gd_d; exact det_not rfl; apply gd_d; exact det_not rfl; apply gd_d; exact det_not rfl; apply gd_d; exact det_not rfl; apply gd_d; exact det_not rfl; apply gd_d; exact det_not rfl; apply gd_d; exact det_pick_f (v := .bool _) rfl rfl rfl rfl; apply gd_d; exact det_m rfl rfl (by conv => (lhs; whnf)); apply gd_d; exact det_not rfl; apply gd_d; exact det_not rfl; apply gd_d; exact det_not rfl; apply gd_d; exact det_not rfl; apply gd_d; exact det_not rfl; apply gd_d; exact det_not rfl; apply gd_d; exact det_not rfl; apply gd_d; exact det_not rfl; apply gd_d; exact det_not rfl; apply gd_d; exact det_not rfl; apply gd_d; exact det_pick_f (v := .bool _) rfl rfl rfl rfl; refine gd_nil ?_; refine gO ?_; refine gc_if_false rfl ?_; refine gc_skip ?_; refine gx_block ?_; refine gx_next ?_; refine gc_region ?_; refine gM rfl rfl (by conv => (lhs; whnf)) ?_; apply gw_d; exact det_ar rfl rfl rfl rfl rfl (by omega); refine gM rfl rfl (by conv => (lhs; whnf)) ?_; refine gw_nil ?_; rotate_left)
      all_goals first | (exfalso; omega) | skip
      · have hAm : ∀ (L : List Res) (w' : World), St w L w' → Ok Tryz.prog 11 [.agg #[.int .i64 r, .int .i64 le], .int .i64 c.sty.ops[o].minutes, .int .i64 (c.bs[k].upto - c.bs[k].fr)].toArray w' fun y2 _ => y2 = .tuple #[.int .i64 (amtF r le c.sty.ops c.bs (y.tick, y.op)), .int .i64 0] := fun L w' s => by
          have h9 := wAmount_ok w' r le c.sty.ops[o].minutes (c.bs[k].upto - c.bs[k].fr) (hL.later s)
          have hamE : amtE r le c.sty.ops[o].minutes (c.bs[k].upto - c.bs[k].fr) = 0 := by
            unfold amtE
            rw [if_neg (by rw [ht]; decide), if_neg (by omega)]
          have hamV : amtV r le c.sty.ops[o].minutes (c.bs[k].upto - c.bs[k].fr) = amtF r le c.sty.ops c.bs (y.tick, y.op) := by
            unfold amtF
            rw [hmin]
            rename_i hte _ _
            rw [← hte, hcn]
          rw [hamE, hamV] at h9
          exact h9
        refine gc_draw 30 (by kernel_rfl) (by kernel_rfl) ?_
        focus (apply gd_d; exact w_load_boxN rfl rfl rfl (.there (.there .here)) rfl; apply gd_d; exact w_field rfl rfl rfl; apply gd_d; exact w_field rfl rfl rfl; apply gd_d; exact w_load_box rfl rfl rfl (.there (.there (.there .here))) rfl; apply gd_d; exact det_m rfl rfl (by conv => (lhs; whnf)); apply gd_d; exact det_m rfl rfl (by conv => (lhs; whnf)); apply gd_d; exact w_indexO (m := i) rfl rfl rfl rfl rfl hil (.there .here); apply gd_d; exact w_field rfl rfl rfl; apply gd_d; exact w_loadOF rfl rfl rfl (.there .here) (by omega) hc1; apply gd_d; exact w_index (m := o) rfl rfl rfl rfl ho hol; apply gd_d; exact w_field rfl rfl rfl; apply gd_d; exact w_load_fld rfl rfl rfl (by assumption) (by assumption); apply gd_d; exact w_field rfl rfl rfl; apply gd_d; exact w_load_box rfl rfl rfl (.there (.there (.there .here))) rfl; apply gd_d; exact det_m rfl rfl (by conv => (lhs; whnf)); apply gd_d; exact w_index (m := k) rfl rfl rfl rfl rfl hkl; apply gd_d; exact w_field rfl rfl rfl; apply gd_d; exact w_load_fld rfl rfl rfl (by assumption) (by assumption); apply gd_d; exact w_field rfl rfl rfl; apply gd_d; exact w_load_box rfl rfl rfl (.there (.there (.there .here))) rfl; apply gd_d; exact det_m rfl rfl (by conv => (lhs; whnf)); apply gd_d; exact w_index (m := k) rfl rfl rfl rfl rfl hkl; apply gd_d; exact w_field rfl rfl rfl; apply gd_d; exact w_load_fld rfl rfl rfl (by assumption) (by assumption); apply gd_d; exact det_ar rfl rfl rfl rfl rfl (by omega); apply gd_d; exact w_call rfl rfl (hAm _) rfl; apply gd_d; exact det_m rfl rfl (by conv => (lhs; whnf)); apply gd_d; exact det_extract rfl rfl rfl (by conv => (lhs; whnf)); apply gd_d; exact det_extract rfl rfl rfl (by conv => (lhs; whnf)); apply gd_d; exact det_m rfl rfl (by conv => (lhs; whnf)); refine gd_nil ?_; refine gw_nil ?_; refine gx_block ?_; refine gx_next ?_; refine gc_region ?_; refine gM rfl rfl (by conv => (lhs; whnf)) ?_; apply gw_d; exact det_ar rfl rfl rfl rfl rfl (by omega); refine gM rfl rfl (by conv => (lhs; whnf)) ?_; refine gw_nil ?_)
        rename_i hte _ _
        rw [if_pos hte] at hws
        exact gx_round (k + 1) hkl (by omega) (by repeat (first | exact Keeps.refl | refine Keeps.upd rfl ?_ | refine Keeps.sets rfl ?_ | refine Keeps.havoc rfl ?_)) ⟨rfl, by rw [hws]; rfl, trivial⟩ (Sub.all _)
      · rename_i hte
        rw [if_neg hte] at hws
        exact gx_round (k + 1) hkl (by omega) (by repeat (first | exact Keeps.refl | refine Keeps.upd rfl ?_ | refine Keeps.sets rfl ?_ | refine Keeps.havoc rfl ?_)) ⟨rfl, by rw [hws]; rfl, trivial⟩ (Sub.all _)
    · obtain rfl : k = c.bs.length := by omega
      rw [List.take_length]
      have hwant : wantF (amtF r le c.sty.ops c.bs (y.tick, y.op)) y.tick c.bs = amtF r le c.sty.ops c.bs (y.tick, y.op) := by unfold wantF; rw [if_pos hT]
      rw [hwant]
      focus (refine gc_exit ?_; refine gx_then_exit ?_; refine gx_then_exit ?_; refine gx_block_exit ?_; refine gx_next ?_; refine gc_seq ?_; refine gc_seq ?_; refine gc_region ?_; refine gM rfl rfl (by conv => (lhs; whnf)) ?_; refine gO ?_; refine gc_block ?_)
      refine gc_loopK (σ := Nat) [234, 235, 236, 237, 240, 241, 242, 243, 244, 245, 246, 247, 248, 249, 250, 251, 252, 253, 254, 255, 256, 257, 258, 259, 260, 261, 262, 263, 264, 265, 266, 267, 268, 269, 270, 18, 271, 272, 273, 274, 275, 276, 277, 15, 278, 279, 280, 281, 282, 283, 284, 285, 286, 287, 288, 4, 238, 239, 20] (fun k => [(20, .int .i64 k), (18, .int .i64 (sumTO (ch.take k) y.tick y.op)), (15, .int .i64 (totS ch (ps.take i) + sumTO (ch.take k) y.tick y.op))]) (fun k => k ≤ ch.length) (fun k => ch.length - k) 0 (Nat.zero_le _) ⟨rfl, by rw [List.take_zero]; rfl, by rw [List.take_zero]; exact congrArg (Value.int .i64) (show totS ch (ps.take i) = totS ch (ps.take i) + 0 by omega), trivial⟩ ?_
      rintro k base3 hk3
      focus (refine gc_seq ?_; refine gc_seq ?_; refine gc_region ?_; refine gM rfl rfl (by conv => (lhs; whnf)) ?_; refine gM rfl rfl (by conv => (lhs; whnf)) ?_; refine gL rfl rfl rfl ?_; refine gC rfl rfl rfl rfl rfl ?_; refine gO ?_)
      refine gc_if_dec rfl (fun h3 => ?_) (fun h3 => ?_)
      · have hkl : k < ch.length := by omega
        have hcm := List.getElem_mem hkl
        have hdi := flat_at hec hkl
        have hd0 := hdi 0 _ rfl
        have hd1 := hdi 1 _ rfl
        have hd3 := hdi 3 _ rfl
        have hd4 := hdi 4 _ rfl
        have hqr := hcr ch[k] hcm
        have hwho := hWhoi ch[k] hcm
        have hsr := sumTO_range (cs := ch.take k) (fun q hq => hcr q (List.mem_of_mem_take hq)) y.tick y.op
        rw [List.length_take] at hsr
        have hst : sumTO (ch.take (k + 1)) y.tick y.op = if ch[k].tick = y.tick ∧ ch[k].op = y.op then sumTO (ch.take k) y.tick y.op + ch[k].amt else sumTO (ch.take k) y.tick y.op := by rw [List.take_succ_eq_append_getElem hkl, sumTO_snoc]
        have hno : ¬ (ch[k].tick = y.tick ∧ ch[k].op = y.op) → sumTO (ch.take (k + 1)) y.tick y.op = sumTO (ch.take k) y.tick y.op := fun h9 => by rw [hst, if_neg h9]
        have hyes : ch[k].tick = y.tick → ch[k].op = y.op → sumTO (ch.take (k + 1)) y.tick y.op = sumTO (ch.take k) y.tick y.op + ch[k].amt := fun h9 h8 => by rw [hst, if_pos ⟨h9, h8⟩]
        generalize ch[k] = q at hdi hd0 hd1 hd3 hd4 hqr hwho hst hno hyes
        focus (refine gc_skip ?_; refine gx_next ?_; refine gc_seq ?_; refine gc_block ?_; refine gc_seq ?_)
        refine gc_draw 24 (by kernel_rfl) (by kernel_rfl) ?_
        focus (apply gd_d; exact det_m rfl rfl (by conv => (lhs; whnf)); apply gd_d; exact det_m rfl rfl (by conv => (lhs; whnf)); apply gd_d; exact w_indexO (m := k) rfl rfl rfl rfl rfl hkl .here; apply gd_d; exact w_field rfl rfl rfl; apply gd_d; exact w_loadOF rfl rfl rfl .here (by omega) hd1; apply gd_d; exact det_m rfl rfl (by conv => (lhs; whnf)); apply gd_d; exact det_m rfl rfl (by conv => (lhs; whnf)); apply gd_d; exact w_indexO (m := i) rfl rfl rfl rfl rfl hil (.there .here); apply gd_d; exact w_field rfl rfl rfl; apply gd_d; exact w_loadOF rfl rfl rfl (.there .here) (by omega) hc0; apply gd_d; exact det_cmp rfl rfl rfl rfl rfl; apply gd_d; exact det_m rfl rfl (by conv => (lhs; whnf)); refine gd_guard_dec rfl rfl (fun _ => ?_) (fun _ => ?_); apply gd_d; exact det_m rfl rfl (by conv => (lhs; whnf)); apply gd_d; exact det_m rfl rfl (by conv => (lhs; whnf)); apply gd_d; exact w_indexO (m := k) rfl rfl rfl rfl rfl hkl .here; apply gd_d; exact w_field rfl rfl rfl; apply gd_d; exact w_loadOF rfl rfl rfl .here (by omega) hd3; apply gd_d; exact det_m rfl rfl (by conv => (lhs; whnf)); apply gd_d; exact det_m rfl rfl (by conv => (lhs; whnf)); apply gd_d; exact w_indexO (m := i) rfl rfl rfl rfl rfl hil (.there .here); apply gd_d; exact w_field rfl rfl rfl; apply gd_d; exact w_loadOF rfl rfl rfl (.there .here) (by omega) hc1; apply gd_d; exact det_cmp rfl rfl rfl rfl rfl; apply gd_d; exact det_pick_t (v := .bool _) rfl rfl rfl rfl; refine gd_nil ?_; refine gO ?_; refine gc_if_dec rfl (fun _ => ?_) (fun _ => ?_); refine gc_seq ?_; refine gc_region ?_; refine gM rfl rfl (by conv => (lhs; whnf)) ?_; refine gM rfl rfl (by conv => (lhs; whnf)) ?_; refine gM rfl rfl (by conv => (lhs; whnf)) ?_; apply gw_d; exact w_indexO (m := k) rfl rfl rfl rfl rfl hkl .here; refine gF rfl rfl rfl ?_; apply gw_d; exact w_loadOF rfl rfl rfl .here (by omega) hd4; apply gw_d; exact det_ar rfl rfl rfl rfl rfl (by omega); refine gM rfl rfl (by conv => (lhs; whnf)) ?_; refine gN ?_; refine gM rfl rfl (by conv => (lhs; whnf)) ?_; refine gM rfl rfl (by conv => (lhs; whnf)) ?_; refine gM rfl rfl (by conv => (lhs; whnf)) ?_; apply gw_d; exact w_indexO (m := k) rfl rfl rfl rfl rfl hkl .here; refine gF rfl rfl rfl ?_; apply gw_d; exact w_loadOF rfl rfl rfl .here (by omega) hd4; apply gw_d; exact det_ar rfl rfl rfl rfl rfl (by omega); refine gM rfl rfl (by conv => (lhs; whnf)) ?_; refine gO ?_; refine gc_seq ?_; rotate_left; refine gc_skip ?_; refine gx_block ?_; refine gx_next ?_; refine gc_region ?_; refine gM rfl rfl (by conv => (lhs; whnf)) ?_; apply gw_d; exact det_ar rfl rfl rfl rfl rfl (by omega); refine gM rfl rfl (by conv => (lhs; whnf)) ?_; refine gw_nil ?_; rotate_left; apply gd_d; exact det_not rfl; apply gd_d; exact det_not rfl; apply gd_d; exact det_not rfl; apply gd_d; exact det_not rfl; apply gd_d; exact det_not rfl; apply gd_d; exact det_not rfl; apply gd_d; exact det_not rfl; apply gd_d; exact det_not rfl; apply gd_d; exact det_not rfl; apply gd_d; exact det_not rfl; apply gd_d; exact det_not rfl; apply gd_d; exact det_pick_f (v := .bool _) rfl rfl rfl rfl; refine gd_nil ?_; refine gO ?_; refine gc_if_false rfl ?_; refine gc_skip ?_; refine gx_block ?_; refine gx_next ?_; refine gc_region ?_; refine gM rfl rfl (by conv => (lhs; whnf)) ?_; apply gw_d; exact det_ar rfl rfl rfl rfl rfl (by omega); refine gM rfl rfl (by conv => (lhs; whnf)) ?_; refine gw_nil ?_; rotate_left)
        · rename_i e1 e2
          have hst2 := hyes e1 e2
          rw [hwho e1 e2] at hd0
          refine gc_draw 11 (by kernel_rfl) (by kernel_rfl) ?_
          focus (apply gd_d; exact det_m rfl rfl (by conv => (lhs; whnf)); apply gd_d; exact det_m rfl rfl (by conv => (lhs; whnf)); apply gd_d; exact w_indexO (m := k) rfl rfl rfl rfl rfl hkl .here; apply gd_d; exact w_field rfl rfl rfl; apply gd_d; exact w_loadOF rfl rfl rfl .here (by omega) hd0; apply gd_d; exact det_m rfl rfl (by conv => (lhs; whnf)); apply gd_d; exact det_m rfl rfl (by conv => (lhs; whnf)); apply gd_d; exact w_indexO (m := i) rfl rfl rfl rfl rfl hil (.there .here); apply gd_d; exact w_field rfl rfl rfl; apply gd_d; exact w_loadOF rfl rfl rfl (.there .here) (by omega) hc2; apply gd_d; exact det_cmp rfl rfl rfl rfl rfl; refine gd_nil ?_; refine gO ?_; refine gc_if_dec rfl (fun _ => ?_) (fun _ => ?_); refine gc_seq ?_; refine gc_region ?_; refine gM rfl rfl (by conv => (lhs; whnf)) ?_; refine gO ?_; refine gc_ret ?_; refine gx_block_ret ?_; refine gx_then_ret ?_; refine gx_then_ret ?_; refine gx_block_ret ?_; refine gx_then_ret ?_; refine gx_block_ret ?_; refine gx_then_ret ?_; refine gx_then_ret ?_; refine gx_block_ret ?_; refine gx_then_ret ?_; rotate_left; refine gc_skip ?_; refine gx_block ?_; refine gx_next ?_; refine gc_region ?_; refine gM rfl rfl (by conv => (lhs; whnf)) ?_; apply gw_d; exact det_ar rfl rfl rfl rfl rfl (by omega); refine gM rfl rfl (by conv => (lhs; whnf)) ?_; refine gw_nil ?_; rotate_left)
          all_goals first | (exfalso; omega) | skip
          exact gx_round (k + 1) hkl (by omega) (by repeat (first | exact Keeps.refl | refine Keeps.upd rfl ?_ | refine Keeps.sets rfl ?_ | refine Keeps.havoc rfl ?_)) ⟨rfl, by rw [hst2]; rfl, by rw [hst2]; exact congrArg (Value.int .i64) (show totS ch (ps.take i) + sumTO (ch.take k) y.tick y.op + q.amt = totS ch (ps.take i) + (sumTO (ch.take k) y.tick y.op + q.amt) by omega), trivial⟩ (Sub.all _)
        · rename_i e1 e2
          have hst2 := hno (fun h9 => e2 h9.2)
          exact gx_round (k + 1) hkl (by omega) (by repeat (first | exact Keeps.refl | refine Keeps.upd rfl ?_ | refine Keeps.sets rfl ?_ | refine Keeps.havoc rfl ?_)) ⟨rfl, by rw [hst2]; rfl, by rw [hst2]; rfl, trivial⟩ (Sub.all _)
        · rename_i e1
          have hst2 := hno (fun h9 => e1 h9.1)
          exact gx_round (k + 1) hkl (by omega) (by repeat (first | exact Keeps.refl | refine Keeps.upd rfl ?_ | refine Keeps.sets rfl ?_ | refine Keeps.havoc rfl ?_)) ⟨rfl, by rw [hst2]; rfl, by rw [hst2]; rfl, trivial⟩ (Sub.all _)
      · obtain rfl : k = ch.length := by omega
        rw [List.take_length, hWi, ← hWi, ← hts]
        focus (refine gc_exit ?_; refine gx_then_exit ?_; refine gx_then_exit ?_; refine gx_block_exit ?_; refine gx_next ?_; refine gc_seq ?_; refine gc_region ?_; refine gM rfl rfl (by conv => (lhs; whnf)) ?_; refine gM rfl rfl (by conv => (lhs; whnf)) ?_; refine gC rfl rfl rfl rfl rfl ?_; refine gO ?_; refine gc_if_dec rfl (fun _ => ?_) (fun _ => ?_); refine gc_seq ?_; refine gc_region ?_; refine gM rfl rfl (by conv => (lhs; whnf)) ?_; refine gO ?_; refine gc_ret ?_; refine gx_block_ret ?_; refine gx_then_ret ?_; refine gx_then_ret ?_; refine gx_block_ret ?_; refine gx_then_ret ?_; rotate_left; refine gc_skip ?_; refine gx_block ?_; refine gx_next ?_; refine gc_region ?_; refine gM rfl rfl (by conv => (lhs; whnf)) ?_; apply gw_d; exact det_ar rfl rfl rfl rfl rfl (by omega); refine gM rfl rfl (by conv => (lhs; whnf)) ?_; refine gw_nil ?_; rotate_left)
        all_goals first | (exfalso; omega) | skip
        exact gx_round (i + 1) hil (by omega) (by repeat (first | exact Keeps.refl | refine Keeps.upd rfl ?_ | refine Keeps.sets rfl ?_ | refine Keeps.havoc rfl ?_)) ⟨rfl, rfl, trivial⟩ (Sub.all _)
  · obtain rfl : i = ps.length := by omega
    rw [List.take_length, hAll]
    focus (refine gc_exit ?_; refine gx_then_exit ?_; refine gx_then_exit ?_; refine gx_block_exit ?_; refine gx_next ?_; refine gc_seq ?_; refine gc_region ?_; refine gM rfl rfl (by conv => (lhs; whnf)) ?_; refine gO ?_; refine gc_seq ?_; refine gc_seq ?_; refine gc_region ?_; refine gM rfl rfl (by conv => (lhs; whnf)) ?_; refine gO ?_; refine gc_block ?_)
    refine gc_loopK (σ := Nat) [292, 293, 294, 295, 298, 299, 300, 301, 302, 303, 304, 21, 296, 297, 22] (fun k => [(22, .int .i64 k), (21, .int .i64 (sumA (ch.take k)))]) (fun k => k ≤ ch.length) (fun k => ch.length - k) 0 (Nat.zero_le _) ⟨rfl, by rw [List.take_zero]; rfl, trivial⟩ ?_
    rintro k base3 hk3
    focus (refine gc_seq ?_; refine gc_seq ?_; refine gc_region ?_; refine gM rfl rfl (by conv => (lhs; whnf)) ?_; refine gM rfl rfl (by conv => (lhs; whnf)) ?_; refine gL rfl rfl rfl ?_; refine gC rfl rfl rfl rfl rfl ?_; refine gO ?_)
    refine gc_if_dec rfl (fun h3 => ?_) (fun h3 => ?_)
    · have hkl : k < ch.length := by omega
      have hdi := flat_at hec hkl
      have hd4 := hdi 4 _ rfl
      have hqr := hcr ch[k] (List.getElem_mem hkl)
      have hsr := sumA_range hcr k (by omega)
      have hst : sumA (ch.take (k + 1)) = sumA (ch.take k) + ch[k].amt := by rw [List.take_succ_eq_append_getElem hkl, sumA_snoc]
      focus (refine gc_skip ?_; refine gx_next ?_; refine gc_seq ?_; refine gc_block ?_; refine gc_region ?_; refine gM rfl rfl (by conv => (lhs; whnf)) ?_; refine gM rfl rfl (by conv => (lhs; whnf)) ?_; refine gM rfl rfl (by conv => (lhs; whnf)) ?_; apply gw_d; exact w_indexO (m := k) rfl rfl rfl rfl rfl hkl .here; refine gF rfl rfl rfl ?_; apply gw_d; exact w_loadOF rfl rfl rfl .here (by omega) hd4; apply gw_d; exact det_ar rfl rfl rfl rfl rfl (by omega); refine gM rfl rfl (by conv => (lhs; whnf)) ?_; refine gw_nil ?_; refine gx_block ?_; refine gx_next ?_; refine gc_region ?_; refine gM rfl rfl (by conv => (lhs; whnf)) ?_; apply gw_d; exact det_ar rfl rfl rfl rfl rfl (by omega); refine gM rfl rfl (by conv => (lhs; whnf)) ?_; refine gw_nil ?_)
      exact gx_round (k + 1) hkl (by omega) (by repeat (first | exact Keeps.refl | refine Keeps.upd rfl ?_ | refine Keeps.sets rfl ?_ | refine Keeps.havoc rfl ?_)) ⟨rfl, by rw [hst]; rfl, trivial⟩ (Sub.all _)
    · obtain rfl : k = ch.length := by omega
      rw [List.take_length]
      focus (refine gc_exit ?_; refine gx_then_exit ?_; refine gx_then_exit ?_; refine gx_block_exit ?_; refine gx_next ?_; refine gc_seq ?_; refine gc_region ?_; refine gM rfl rfl (by conv => (lhs; whnf)) ?_; refine gM rfl rfl (by conv => (lhs; whnf)) ?_; refine gC rfl rfl rfl rfl rfl ?_; refine gM rfl rfl (by conv => (lhs; whnf)) ?_; refine gw_guard_dec rfl rfl (fun _ => ?_) (fun _ => ?_); apply gw_d; exact w_call rfl rfl (hA _) rfl; apply gw_d; exact det_pick_t (v := .bool _) rfl rfl rfl rfl; refine gM rfl rfl (by conv => (lhs; whnf)) ?_; refine gO ?_; refine gc_ret ?_; rotate_left; refine gU rfl ?_; apply gw_d; exact det_pick_f (v := .bool _) rfl rfl rfl rfl; refine gM rfl rfl (by conv => (lhs; whnf)) ?_; refine gO ?_; refine gc_ret ?_; rotate_left)
      all_goals first | (exfalso; omega) | skip
      refine gx_ret1 (v := .bool _) rfl rfl (fun _ _ => ?_)
      rfl
end Go.Proofs.YtckhibfbdnoigaaGreatDoor

/- Arguments of the laws of chapter 57: tariffs, pays, as they came in; what the package-level variable holds. -/
namespace Go.Proofs.YtckhibfbdnoigaaGreatDoor
open Go.ChangeShapes Go.WideShapes Go.ChangeAt Go.RowKit
section
variable {H : Type} {enc : TypeId × Value → H} {w : World} {base : Nat} {spare : Nat → Bool} {held : Bool}
theorem tariff_trod {n : Nat} {cs : List Value} {x : DataW H × List MemPlace} (hl : cs.length = 2) (h : DataW.trod enc Tryz.prog w base spare held n 36 cs = some x) : ∃ r l, cs = [.int .i64 r, .int .i64 l] ∧ inI64 r ∧ inI64 l := by
  match cs, hl with
  | [c0, c1], _ =>
    obtain ⟨_, _, h0⟩ := field_trod (i := 0) (ft := 3) h (by kernel_rfl) rfl
    obtain ⟨_, _, h1⟩ := field_trod (i := 1) (ft := 3) h (by kernel_rfl) rfl
    obtain ⟨i0, rfl, hi0⟩ := int_trod (by kernel_rfl) h0
    obtain ⟨i1, rfl, hi1⟩ := int_trod (by kernel_rfl) h1
    exact ⟨i0, i1, rfl, hi0, hi1⟩
theorem tariff_Trod {v : Value} {d : DataW H} {p : List MemPlace} {cs : Array Value} (hv : v = .agg cs) (hn : cs.size = 2) (h : DataW.Trod enc Tryz.prog w base spare held 36 v d p) : ∃ r l, v = .agg #[.int .i64 r, .int .i64 l] ∧ inI64 r ∧ inI64 l := by
  subst hv
  obtain ⟨fuel, hf⟩ := h
  obtain ⟨r, l, h1, h2⟩ := tariff_trod (cs := cs.toList) (by simpa using hn) hf
  refine ⟨r, l, ?_, h2⟩
  congr 1
  apply Array.ext'
  exact h1
end
theorem gTab : Tryz.prog.globalNamed "garment/wage.bounds" = some 0 := by kernel_rfl
theorem gTabType : (Tryz.prog.globals[0]?).map (·.type) = some 76 := by kernel_rfl
theorem cellsTab : Tryz.prog.cellsOf 76 = 2 := by kernel_rfl
theorem cellsInt : Tryz.prog.cellsOf 3 = 1 := by kernel_rfl
/-- What the row's list gives. -/
theorem lay_of {W : World} (h : laidMetH Tryz.prog [("garment/wage.bounds", .agg [.lit (.int .i64 100000), .lit (.int .i64 1073741824)])] W) : Lay W := by
  have ht : Lib.TabIs Tryz.prog W "garment/wage.bounds" .i64 [100000, 1073741824] := Lib.tabIs_of_head (rest := []) gTab gTabType (by kernel_rfl) (by kernel_rfl) cellsInt cellsTab h
  have c0 : W.cell? ⟨0, 0, none⟩ = some (.int .i64 100000) := ht.cell gTab 0 (by decide)
  have c1 : W.cell? ⟨0, 1, none⟩ = some (.int .i64 1073741824) := ht.cell gTab 1 (by decide)
  exact ⟨cell_lt c0, c0, c1⟩
end Go.Proofs.YtckhibfbdnoigaaGreatDoor

/- Arguments of the laws: operations, as they came in. -/
namespace Go.Proofs.YtckhibfbdnoigaaGreatDoor
open Go.ChangeShapes Go.WideShapes Go.ChangeAt Go.RowKit
section
variable {H : Type} {enc : TypeId × Value → H} {w : World} {base : Nat} {spare : Nat → Bool} {held : Bool}
theorem ints23 {n : Nat} {c : Value} {x : DataW H × List MemPlace} (h : DataW.trod enc Tryz.prog w base spare held n 23 [c] = some x) : ∃ l, Sl rInt w w.heap.size c l :=
  ints_trod (e := 3) (by kernel_rfl) (by kernel_rfl) (by kernel_rfl) h
theorem op_trod {n : Nat} {cs : List Value} {x : DataW H × List MemPlace} (hl : cs.length = 5) (h : DataW.trod enc Tryz.prog w base spare held n 55 cs = some x) : ∃ o, rOp.rep w (fun b => b < w.heap.size) o cs := by
  match cs, hl with
  | [c0, c1, c2, c3, c4], _ =>
    obtain ⟨_, _, h0⟩ := field_trod (i := 0) (ft := 9) h (by kernel_rfl) rfl
    obtain ⟨_, _, h1⟩ := field_trod (i := 1) (ft := 3) h (by kernel_rfl) rfl
    obtain ⟨_, _, h2⟩ := field_trod (i := 2) (ft := 3) h (by kernel_rfl) rfl
    obtain ⟨_, _, h3⟩ := field_trod (i := 3) (ft := 23) h (by kernel_rfl) rfl
    obtain ⟨_, _, h4⟩ := field_trod (i := 4) (ft := 23) h (by kernel_rfl) rfl
    obtain ⟨s, rfl, hs⟩ := str_trod (by kernel_rfl) h0
    obtain ⟨i1, rfl, hi1⟩ := int_trod (by kernel_rfl) h1
    obtain ⟨i2, rfl, hi2⟩ := int_trod (by kernel_rfl) h2
    obtain ⟨la, ha⟩ := ints23 h3
    obtain ⟨lu, hu⟩ := ints23 h4
    obtain ⟨Aa, ca, rfl, _⟩ := len_small ha
    obtain ⟨Au, cu, rfl, _⟩ := len_small hu
    exact ⟨⟨s, i1, i2, la, lu⟩, Aa, ca, Au, cu, rfl, ⟨hs, hi1, hi2⟩, ha, hu⟩
theorem ops_trod {n : Nat} {c : Value} {x : DataW H × List MemPlace} (h : DataW.trod enc Tryz.prog w base spare held n 27 [c] = some x) : ∃ l, Sl rOp w w.heap.size c l :=
  sl_of_trod (R := rOp) (e := 55) (by kernel_rfl) (by kernel_rfl) (by decide) (fun _ _ _ hl hy => op_trod hl hy) h
end
end Go.Proofs.YtckhibfbdnoigaaGreatDoor

/- Arguments of the laws: styles, as they came in. -/
namespace Go.Proofs.YtckhibfbdnoigaaGreatDoor
open Go.ChangeShapes Go.WideShapes Go.ChangeAt Go.RowKit
section
variable {H : Type} {enc : TypeId × Value → H} {P : Program} {w : World} {base : Nat} {spare : Nat → Bool} {held : Bool}
/-- The type of a field of k cells, at its place. -/
def fieldK (P : Program) (e : TypeId) (i o k : Nat) : Option TypeId := match P.underlying e with
  | some (.struct fs) => match fs[i]? with
    | some f => bif Nat.beq f.offset o && Nat.beq (P.cellsOf f.type) k then some f.type else none
    | none => none
  | _ => none
theorem fieldK_trod {e ft : TypeId} {i o k n : Nat} {cs ds : List Value} {x : DataW H × List MemPlace} (h : DataW.trod enc P w base spare held n e cs = some x) (hf : fieldK P e i o k = some ft) (hc : (cs.drop o).take k = ds) :
    ∃ m y, DataW.trod enc P w base spare held m ft ds = some y := by
  unfold fieldK at hf
  split at hf
  · rename_i fs hu
    split at hf
    · rename_i f hfi
      cases hb : (Nat.beq f.offset o && Nat.beq (P.cellsOf f.type) k) with
      | false => rw [hb] at hf; cases hf
      | true =>
        rw [hb] at hf
        simp only [cond_true, Option.some.injEq] at hf
        subst hf
        rw [Bool.and_eq_true] at hb
        have h1 : f.offset = o := Nat.eq_of_beq_eq_true hb.1
        have h2 : P.cellsOf f.type = k := Nat.eq_of_beq_eq_true hb.2
        obtain ⟨xs, m, _, _, _, hlen, hg⟩ := DataW.trod_struct hu h
        have h3 := hg i f hfi
        have hi : i < fs.size := (Array.getElem?_eq_some_iff.1 hfi).1
        rw [h1, h2, List.getElem?_eq_getElem (by omega), hc] at h3
        exact ⟨m, _, h3⟩
    · cases hf
  · cases hf
end
section
variable {H : Type} {enc : TypeId × Value → H} {w : World} {base : Nat} {spare : Nat → Bool} {held : Bool}
theorem strs_trod {n : Nat} {c : Value} {x : DataW H × List MemPlace} (h : DataW.trod enc Tryz.prog w base spare held n 22 [c] = some x) : ∃ l, Sl rStr w w.heap.size c l :=
  sl_of_trod (R := rStr) (e := 9) (by kernel_rfl) (by kernel_rfl) (by decide) (fun _ cs _ hl hy => by
    match cs, hl with
    | [c0], _ =>
      obtain ⟨s, rfl, hs⟩ := str_trod (by kernel_rfl) hy
      exact ⟨s, rfl, hs⟩) h
theorem spots_trod {n : Nat} {c : Value} {x : DataW H × List MemPlace} (h : DataW.trod enc Tryz.prog w base spare held n 107 [c] = some x) : ∃ l, Sl rSpot w w.heap.size c l :=
  sl_of_trod (R := rSpot) (e := 106) (by kernel_rfl) (by kernel_rfl) (by decide) (fun _ cs _ hl hy => by
    match cs, hl with
    | [c0, c1], _ =>
      obtain ⟨_, _, h0⟩ := field_trod (i := 0) (ft := 3) hy (by kernel_rfl) rfl
      obtain ⟨_, _, h1⟩ := field_trod (i := 1) (ft := 3) hy (by kernel_rfl) rfl
      obtain ⟨i0, rfl, hi0⟩ := int_trod (by kernel_rfl) h0
      obtain ⟨i1, rfl, hi1⟩ := int_trod (by kernel_rfl) h1
      exact ⟨(i0, i1), rfl, hi0, hi1⟩) h
theorem notches_trod {n : Nat} {c : Value} {x : DataW H × List MemPlace} (h : DataW.trod enc Tryz.prog w base spare held n 111 [c] = some x) : ∃ l, Sl rSpot w w.heap.size c l :=
  sl_of_trod (R := rSpot) (e := 183) (by kernel_rfl) (by kernel_rfl) (by decide) (fun _ cs _ hl hy => by
    match cs, hl with
    | [c0, c1], _ =>
      obtain ⟨_, _, h0⟩ := field_trod (i := 0) (ft := 3) hy (by kernel_rfl) rfl
      obtain ⟨_, _, h1⟩ := field_trod (i := 1) (ft := 3) hy (by kernel_rfl) rfl
      obtain ⟨i0, rfl, hi0⟩ := int_trod (by kernel_rfl) h0
      obtain ⟨i1, rfl, hi1⟩ := int_trod (by kernel_rfl) h1
      exact ⟨(i0, i1), rfl, hi0, hi1⟩) h
theorem edges_trod {n : Nat} {c : Value} {x : DataW H × List MemPlace} (h : DataW.trod enc Tryz.prog w base spare held n 110 [c] = some x) : ∃ l, Sl rEdge w w.heap.size c l :=
  sl_of_trod (R := rEdge) (e := 109) (by kernel_rfl) (by kernel_rfl) (by decide) (fun _ cs _ hl hy => by
    match cs, hl with
    | [c0, c1], _ =>
      obtain ⟨_, _, h0⟩ := field_trod (i := 0) (ft := 9) hy (by kernel_rfl) rfl
      obtain ⟨_, _, h1⟩ := field_trod (i := 1) (ft := 107) hy (by kernel_rfl) rfl
      obtain ⟨s, rfl, hs⟩ := str_trod (by kernel_rfl) h0
      obtain ⟨l, hl⟩ := spots_trod h1
      exact ⟨(s, l), c1, rfl, hs, hl⟩) h
theorem piece_trod {n : Nat} {cs : List Value} {x : DataW H × List MemPlace} (hl : cs.length = 7) (h : DataW.trod enc Tryz.prog w base spare held n 113 cs = some x) : ∃ o, rPiece.rep w (fun b => b < w.heap.size) o cs := by
  match cs, hl with
  | [c0, c1, c2, c3, c4, c5, c6], _ =>
    obtain ⟨_, _, h0⟩ := field_trod (i := 0) (ft := 9) h (by kernel_rfl) rfl
    obtain ⟨_, _, h1⟩ := field_trod (i := 1) (ft := 110) h (by kernel_rfl) rfl
    obtain ⟨_, _, h2⟩ := field_trod (i := 2) (ft := 3) h (by kernel_rfl) rfl
    obtain ⟨_, _, h3⟩ := field_trod (i := 3) (ft := 111) h (by kernel_rfl) rfl
    obtain ⟨_, _, h4⟩ := field_trod (i := 4) (ft := 107) h (by kernel_rfl) rfl
    obtain ⟨_, _, h5⟩ := field_trod (i := 5) (ft := 23) h (by kernel_rfl) rfl
    obtain ⟨_, _, h6⟩ := field_trod (i := 6) (ft := 4) h (by kernel_rfl) rfl
    obtain ⟨s, rfl, hs⟩ := str_trod (by kernel_rfl) h0
    obtain ⟨le, he⟩ := edges_trod h1
    obtain ⟨i2, rfl, hi2⟩ := int_trod (by kernel_rfl) h2
    obtain ⟨ln, hn⟩ := notches_trod h3
    obtain ⟨lc, hc⟩ := spots_trod h4
    obtain ⟨lw, hw⟩ := ints23 h5
    obtain ⟨b6, rfl⟩ := bool_trod (by kernel_rfl) h6
    obtain ⟨Ae, ce, rfl, _⟩ := len_small he
    obtain ⟨An, cn, rfl, _⟩ := len_small hn
    obtain ⟨Ac, cc, rfl, _⟩ := len_small hc
    obtain ⟨Aw, cw, rfl, _⟩ := len_small hw
    exact ⟨⟨s, le, i2, ln, lc, lw, b6⟩, Ae, ce, An, cn, Ac, cc, Aw, cw, rfl, ⟨hs, hi2⟩, he, hn, hc, hw⟩
theorem use_trod {n : Nat} {cs : List Value} {x : DataW H × List MemPlace} (hl : cs.length = 3) (h : DataW.trod enc Tryz.prog w base spare held n 115 cs = some x) : ∃ o, rUse.rep w (fun b => b < w.heap.size) o cs := by
  match cs, hl with
  | [c0, c1, c2], _ =>
    obtain ⟨_, _, h0⟩ := field_trod (i := 0) (ft := 3) h (by kernel_rfl) rfl
    obtain ⟨_, _, h1⟩ := field_trod (i := 1) (ft := 3) h (by kernel_rfl) rfl
    obtain ⟨_, _, h2⟩ := field_trod (i := 2) (ft := 4) h (by kernel_rfl) rfl
    obtain ⟨i0, rfl, hi0⟩ := int_trod (by kernel_rfl) h0
    obtain ⟨i1, rfl, hi1⟩ := int_trod (by kernel_rfl) h1
    obtain ⟨b2, rfl⟩ := bool_trod (by kernel_rfl) h2
    exact ⟨(i0, i1, b2), rfl, hi0, hi1⟩
theorem seam_trod {n : Nat} {cs : List Value} {x : DataW H × List MemPlace} (hl : cs.length = 6) (h : DataW.trod enc Tryz.prog w base spare held n 163 cs = some x) : ∃ o, rSeam.rep w (fun b => b < w.heap.size) o cs := by
  match cs, hl with
  | [c0, c1, c2, c3, c4, c5], _ =>
    obtain ⟨_, _, h0⟩ := field_trod (i := 0) (ft := 3) h (by kernel_rfl) rfl
    obtain ⟨_, _, h1⟩ := field_trod (i := 1) (ft := 3) h (by kernel_rfl) rfl
    obtain ⟨_, _, h2⟩ := field_trod (i := 2) (ft := 3) h (by kernel_rfl) rfl
    obtain ⟨_, _, h3⟩ := field_trod (i := 3) (ft := 3) h (by kernel_rfl) rfl
    obtain ⟨_, _, h4⟩ := field_trod (i := 4) (ft := 4) h (by kernel_rfl) rfl
    obtain ⟨_, _, h5⟩ := field_trod (i := 5) (ft := 3) h (by kernel_rfl) rfl
    obtain ⟨i0, rfl, hi0⟩ := int_trod (by kernel_rfl) h0
    obtain ⟨i1, rfl, hi1⟩ := int_trod (by kernel_rfl) h1
    obtain ⟨i2, rfl, hi2⟩ := int_trod (by kernel_rfl) h2
    obtain ⟨i3, rfl, hi3⟩ := int_trod (by kernel_rfl) h3
    obtain ⟨b4, rfl⟩ := bool_trod (by kernel_rfl) h4
    obtain ⟨i5, rfl, hi5⟩ := int_trod (by kernel_rfl) h5
    exact ⟨(i0, i1, i2, i3, b4, i5), rfl⟩
theorem sty_trod {n : Nat} {cs : List Value} {x : DataW H × List MemPlace} (hl : cs.length = 7) (h : DataW.trod enc Tryz.prog w base spare held n 29 cs = some x) : ∃ s, StyV w w.heap.size (.agg cs.toArray) s := by
  match cs, hl with
  | [c0, c1, c2, c3, c4, c5, c6], _ =>
    obtain ⟨_, _, h0⟩ := field_trod (i := 0) (ft := 9) h (by kernel_rfl) rfl
    obtain ⟨_, _, h1⟩ := field_trod (i := 1) (ft := 22) h (by kernel_rfl) rfl
    obtain ⟨_, _, h2⟩ := field_trod (i := 2) (ft := 23) h (by kernel_rfl) rfl
    obtain ⟨_, _, h3⟩ := field_trod (i := 3) (ft := 24) h (by kernel_rfl) rfl
    obtain ⟨_, _, h4⟩ := field_trod (i := 4) (ft := 25) h (by kernel_rfl) rfl
    obtain ⟨_, _, h5⟩ := field_trod (i := 5) (ft := 26) h (by kernel_rfl) rfl
    obtain ⟨_, _, h6⟩ := field_trod (i := 6) (ft := 27) h (by kernel_rfl) rfl
    obtain ⟨s, rfl, hs⟩ := str_trod (by kernel_rfl) h0
    obtain ⟨l1, k1⟩ := strs_trod h1
    obtain ⟨l2, k2⟩ := ints23 h2
    obtain ⟨l3, k3⟩ := sl_of_trod (R := rPiece) (e := 113) (by kernel_rfl) (by kernel_rfl) (by decide) (fun _ _ _ hl hy => piece_trod hl hy) h3
    obtain ⟨l4, k4⟩ := sl_of_trod (R := rUse) (e := 115) (by kernel_rfl) (by kernel_rfl) (by decide) (fun _ _ _ hl hy => use_trod hl hy) h4
    obtain ⟨l5, k5⟩ := sl_of_trod (R := rSeam) (e := 163) (by kernel_rfl) (by kernel_rfl) (by decide) (fun _ _ _ hl hy => seam_trod hl hy) h5
    obtain ⟨l6, k6⟩ := ops_trod h6
    obtain ⟨A1, d1, rfl, _⟩ := len_small k1
    obtain ⟨A2, d2, rfl, _⟩ := len_small k2
    obtain ⟨A3, d3, rfl, _⟩ := len_small k3
    obtain ⟨A4, d4, rfl, _⟩ := len_small k4
    obtain ⟨A5, d5, rfl, _⟩ := len_small k5
    obtain ⟨A6, d6, rfl, _⟩ := len_small k6
    exact ⟨⟨s, l1, l2, l3, l4, l5, l6⟩, A1, d1, A2, d2, A3, d3, A4, d4, A5, d5, A6, d6, rfl, hs, k1, k2, k3, k4, k5, k6⟩
end
end Go.Proofs.YtckhibfbdnoigaaGreatDoor

/- Arguments of the laws of chapter 57: cases, lists of bytes, as they came in. -/
namespace Go.Proofs.YtckhibfbdnoigaaGreatDoor
open Go.ChangeShapes Go.WideShapes Go.ChangeAt Go.RowKit
section
variable {H : Type} {enc : TypeId × Value → H} {w : World} {base : Nat} {spare : Nat → Bool} {held : Bool}
theorem bun_trod {n : Nat} {cs : List Value} {x : DataW H × List MemPlace} (hl : cs.length = 6) (h : DataW.trod enc Tryz.prog w base spare held n 44 cs = some x) : ∃ o, rBun.rep w (fun b => b < w.heap.size) o cs := by
  match cs, hl with
  | [c0, c1, c2, c3, c4, c5], _ =>
    obtain ⟨_, _, h0⟩ := field_trod (i := 0) (ft := 3) h (by kernel_rfl) rfl
    obtain ⟨_, _, h1⟩ := field_trod (i := 1) (ft := 3) h (by kernel_rfl) rfl
    obtain ⟨_, _, h2⟩ := field_trod (i := 2) (ft := 3) h (by kernel_rfl) rfl
    obtain ⟨_, _, h3⟩ := field_trod (i := 3) (ft := 3) h (by kernel_rfl) rfl
    obtain ⟨_, _, h4⟩ := field_trod (i := 4) (ft := 3) h (by kernel_rfl) rfl
    obtain ⟨_, _, h5⟩ := field_trod (i := 5) (ft := 3) h (by kernel_rfl) rfl
    obtain ⟨i0, rfl, hi0⟩ := int_trod (by kernel_rfl) h0
    obtain ⟨i1, rfl, hi1⟩ := int_trod (by kernel_rfl) h1
    obtain ⟨i2, rfl, hi2⟩ := int_trod (by kernel_rfl) h2
    obtain ⟨i3, rfl, hi3⟩ := int_trod (by kernel_rfl) h3
    obtain ⟨i4, rfl, hi4⟩ := int_trod (by kernel_rfl) h4
    obtain ⟨i5, rfl, hi5⟩ := int_trod (by kernel_rfl) h5
    exact ⟨⟨i0, i1, i2, i3, i4, i5⟩, rfl, hi0, hi4, hi5⟩
theorem wrk_trod {n : Nat} {cs : List Value} {x : DataW H × List MemPlace} (hl : cs.length = 2) (h : DataW.trod enc Tryz.prog w base spare held n 85 cs = some x) : ∃ o, rWrk.rep w (fun b => b < w.heap.size) o cs := by
  match cs, hl with
  | [c0, c1], _ =>
    obtain ⟨_, _, h0⟩ := field_trod (i := 0) (ft := 9) h (by kernel_rfl) rfl
    obtain ⟨_, _, h1⟩ := field_trod (i := 1) (ft := 23) h (by kernel_rfl) rfl
    obtain ⟨s, rfl, hs⟩ := str_trod (by kernel_rfl) h0
    obtain ⟨l1, k1⟩ := ints23 h1
    obtain ⟨A1, d1, rfl, _⟩ := len_small k1
    exact ⟨⟨s, l1⟩, A1, d1, rfl, hs, k1⟩
theorem scn_trod {n : Nat} {cs : List Value} {x : DataW H × List MemPlace} (hl : cs.length = 4) (h : DataW.trod enc Tryz.prog w base spare held n 51 cs = some x) : ∃ o, rScn.rep w (fun b => b < w.heap.size) o cs := by
  match cs, hl with
  | [c0, c1, c2, c3], _ =>
    obtain ⟨_, _, h0⟩ := field_trod (i := 0) (ft := 3) h (by kernel_rfl) rfl
    obtain ⟨_, _, h1⟩ := field_trod (i := 1) (ft := 3) h (by kernel_rfl) rfl
    obtain ⟨_, _, h2⟩ := field_trod (i := 2) (ft := 3) h (by kernel_rfl) rfl
    obtain ⟨_, _, h3⟩ := field_trod (i := 3) (ft := 3) h (by kernel_rfl) rfl
    obtain ⟨i0, rfl, hi0⟩ := int_trod (by kernel_rfl) h0
    obtain ⟨i1, rfl, hi1⟩ := int_trod (by kernel_rfl) h1
    obtain ⟨i2, rfl, hi2⟩ := int_trod (by kernel_rfl) h2
    obtain ⟨i3, rfl, hi3⟩ := int_trod (by kernel_rfl) h3
    exact ⟨⟨i0, i1, i2, i3⟩, rfl, hi0, hi1, hi2, hi3⟩
theorem case_trod {n : Nat} {cs : List Value} {x : DataW H × List MemPlace} (hl : cs.length = 10) (h : DataW.trod enc Tryz.prog w base spare held n 34 cs = some x) : ∃ c, CaseV w (.agg cs.toArray) c := by
  match cs, hl with
  | [c0, c1, c2, c3, c4, c5, c6, c7, c8, c9], _ =>
    obtain ⟨_, _, h0⟩ := fieldK_trod (i := 0) (o := 0) (k := 7) (ft := 29) h (by kernel_rfl) rfl
    obtain ⟨_, _, h1⟩ := fieldK_trod (i := 1) (o := 7) (k := 1) (ft := 30) h (by kernel_rfl) rfl
    obtain ⟨_, _, h2⟩ := fieldK_trod (i := 2) (o := 8) (k := 1) (ft := 31) h (by kernel_rfl) rfl
    obtain ⟨_, _, h3⟩ := fieldK_trod (i := 3) (o := 9) (k := 1) (ft := 32) h (by kernel_rfl) rfl
    obtain ⟨s, hs⟩ := sty_trod rfl h0
    obtain ⟨l1, k1⟩ := sl_of_trod (R := rBun) (e := 44) (by kernel_rfl) (by kernel_rfl) (by decide) (fun _ _ _ hl hy => bun_trod hl hy) h1
    obtain ⟨l2, k2⟩ := sl_of_trod (R := rWrk) (e := 85) (by kernel_rfl) (by kernel_rfl) (by decide) (fun _ _ _ hl hy => wrk_trod hl hy) h2
    obtain ⟨l3, k3⟩ := sl_of_trod (R := rScn) (e := 51) (by kernel_rfl) (by kernel_rfl) (by decide) (fun _ _ _ hl hy => scn_trod hl hy) h3
    exact ⟨⟨s, l1, l2, l3⟩, c0, c1, c2, c3, c4, c5, c6, c7, c8, c9, rfl, hs, k1, k2, k3⟩
theorem case_Trod {v : Value} {d : DataW H} {p : List MemPlace} {cs : Array Value} (hv : v = .agg cs) (hn : cs.size = 10) (h : DataW.Trod enc Tryz.prog w base spare held 34 v d p) : ∃ c, CaseV w v c := by
  subst hv
  obtain ⟨fuel, hf⟩ := h
  exact case_trod (cs := cs.toList) (by simpa using hn) hf
end
end Go.Proofs.YtckhibfbdnoigaaGreatDoor
