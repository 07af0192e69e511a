/- The law ReturnsBounded: the walk. -/
import Derived.Test.YtljibjlkjelpbaaGreatDoorYV9
namespace Go.Proofs.YtljibjlkjelpbaaGreatDoor
open Go.RowKit
set_option maxRecDepth 100000
set_option maxHeartbeats 4000000

theorem sumTO_range {cs : List Chg} (h : ∀ q ∈ cs, 0 ≤ q.amt ∧ q.amt ≤ 1000000000) (t o : Int) : ∀ n, n ≤ cs.length → 0 ≤ sumTO (cs.take n) t o ∧ sumTO (cs.take n) t o ≤ 1000000000 * n
  | 0, _ => by rw [List.take_zero]; show (0 : Int) ≤ 0 ∧ (0 : Int) ≤ 1000000000 * ((0 : Nat) : Int); omega
  | n + 1, hn => by
    obtain ⟨h1, h2⟩ := sumTO_range h t o n (by omega)
    have ha := h cs[n] (List.getElem_mem (by omega))
    rw [List.take_succ_eq_append_getElem (by omega), sumTO_snoc]
    split <;> constructor <;> omega
theorem lawReturnsBounded_ok (w : World) (hL : Lay w) (v : Value) (c : Shp) (vl : Value) (l : List Ret) (hc : ShopV w v c) (hl : Sl rRet w w.heap.size vl l) : Ok Tryz.prog 9 [v, vl].toArray w fun r _ => r = .bool true := by
  have hc' := hc
  have hl' := hl
  obtain ⟨v0, v1, v2, v3, v4, v5, v6, vb, vw, vx, rfl, hs, hb, hw, hx⟩ := hc
  obtain ⟨Al, cl, rfl, hlc, hlm, hlcell⟩ := hl.ret
  have hA : ∀ (L : List Res) (w' : World), St w L w' → Ok Tryz.prog 22 [].toArray w' fun r _ => r = .bool true := fun L w' s => alive_ok w' (hL.later s)
  have hF : ∀ (L : List Res) (w' : World), St w L w' → OkM Tryz.prog 26 [.agg #[v0, v1, v2, v3, v4, v5, v6, vb, vw, vx, .int .i64 c.r, .int .i64 c.le]].toArray w' (fun b : Bool => .bool b) (fun _ => []) := fun L w' s' => light58_ok w' _ c (hc'.later s')
  refine ok_enter Tryz.func9 rfl Tryz.ntmps9 rfl ?_
  focus (refine gc_seq ?_; refine gc_region ?_; refine gw_boxd (v := .agg _) rfl rfl (fun _ => ?_); refine gM rfl rfl (by conv => (lhs; whnf)) ?_; refine gO ?_; refine gc_seq ?_; refine gc_seq ?_; refine gc_region ?_; apply gw_d; exact w_load_boxN rfl rfl rfl .here rfl)
  rename_i bS
  refine gw_callm rfl (hF _) rfl (fun b => ?_)
  focus (apply gw_d; exact det_not_ rfl rfl rfl; refine gM rfl rfl (by conv => (lhs; whnf)) ?_; refine gw_guard rfl rfl (fun _ => ?_) (fun _ => ?_); refine gU rfl ?_; refine gU rfl ?_; refine gU rfl ?_; apply gw_d; exact det_pick_t (v := .bool _) rfl rfl rfl rfl; refine gO ?_; refine gc_if_true rfl ?_; refine gc_seq ?_; refine gc_region ?_; apply gw_d; exact w_call rfl rfl (hA _) rfl; refine gM rfl rfl (by conv => (lhs; whnf)) ?_; refine gO ?_; refine gc_ret ?_; refine gx_then_ret ?_; rotate_left; refine gM rfl rfl (by conv => (lhs; whnf)) ?_; refine gL rfl rfl rfl ?_; refine gC rfl rfl rfl rfl rfl ?_; apply gw_d; exact det_pick_f (v := .bool _) rfl rfl rfl rfl; refine gO ?_; refine gc_if_dec rfl (fun _ => ?_) (fun _ => ?_); refine gc_seq ?_; refine gc_region ?_; apply gw_d; exact w_call rfl rfl (hA _) rfl; refine gM rfl rfl (by conv => (lhs; whnf)) ?_; refine gO ?_; refine gc_ret ?_; refine gx_then_ret ?_; rotate_left; refine gc_skip ?_; refine gx_next ?_; refine gc_seq ?_; refine gc_region ?_; apply gw_d; exact w_load_boxN rfl rfl rfl .here rfl; refine gM rfl rfl (by conv => (lhs; whnf)) ?_; rotate_left)
  all_goals first | (refine gx_ret1 (v := .bool _) rfl rfl (fun _ _ => ?_); rfl) | skip
  have h40 : l.length ≤ 40 := by omega
  by_cases he : chgErr c.r c.le (opCheckE c.sty plE) c.bs c.ws c.xs.length l.length = 0
  · obtain ⟨_, hj, ht⟩ := chgErr_zero he
    obtain ⟨hOk, _⟩ := judge_zero hj
    have hPl := hOk.bundles
    have hMin := (scan_ops hOk).2
    have hC1 := fun (L : List Res) (w' : World) (s' : St w L w') => charges_ok (r := c.r) (le := c.le) (hL.later s') (StyV.later s' hs) (hb.later s') (hw.later s') (hx.later s') (hl'.later s') he
    have hT := fun (L : List Res) (w' : World) (x : Ret) (s' : St w L w') => Trace_ok x (StyV.later s' hs) (hb.later s') (hw.later s') (hx.later s') hj
    have hcm : ∀ q ∈ chgL c.r c.le c.sty.ops c.bs (paidL c.sty.ops c.ws (ticks c.bs) c.xs) l, ∃ (x : Ret) (bn : Bun) (y : Scn), q = chgOf c.r c.le c.sty.ops c.bs (paidL c.sty.ops c.ws (ticks c.bs) c.xs) x ∧ Traced c.sty.ops.length c.bs (paidL c.sty.ops c.ws (ticks c.bs) c.xs) x bn y ∧ trE c.sty.ops.length c.bs (paidL c.sty.ops c.ws (ticks c.bs) c.xs) x = 0 := fun q hq => by
      obtain ⟨x, rfl, _, hok⟩ := chg_mem hq
      obtain ⟨bn, y, h⟩ := trE_zero (of_decide_eq_true hok)
      exact ⟨x, bn, y, rfl, h, of_decide_eq_true hok⟩
    have hcr : ∀ q ∈ chgL c.r c.le c.sty.ops c.bs (paidL c.sty.ops c.ws (ticks c.bs) c.xs) l, 0 ≤ q.amt ∧ q.amt ≤ 1000000000 := fun q hq => chg_range hPl hq
    have hmost := fun (t o : Int) (bn : Bun) (hbn : bunAt c.bs t = some bn) => sum_most (r := c.r) (le := c.le) (l := c.sty.ops) (ps := paidL c.sty.ops c.ws (ticks c.bs) c.xs) (o := o) hPl hbn l
    have hch40 : (chgL c.r c.le c.sty.ops c.bs (paidL c.sty.ops c.ws (ticks c.bs) c.xs) l).length ≤ 40 := by
      have := done_len (ok := okR c.sty.ops.length c.bs (paidL c.sty.ops c.ws (ticks c.bs) c.xs)) l
      unfold chgL
      rw [List.length_map]
      omega
    generalize outsR (okR c.sty.ops.length c.bs (paidL c.sty.ops c.ws (ticks c.bs) c.xs)) [] l = os at hC1
    generalize chgL c.r c.le c.sty.ops c.bs (paidL c.sty.ops c.ws (ticks c.bs) c.xs) l = ch at hC1 hcm hcr hmost hch40
    generalize paidL c.sty.ops c.ws (ticks c.bs) c.xs = ps at hT hcm
    have hec : ∀ x ∈ ch, (encC x).length = 5 := fun _ _ => rfl
    focus (skip)
    refine gw_callm rfl (hC1 _) rfl (fun x => ?_)
    obtain ⟨⟨B1, d1⟩, o1⟩ := x
    focus (refine gM rfl rfl (by conv => (lhs; whnf)) ?_; apply gw_d; exact det_extract rfl rfl rfl (by conv => (lhs; whnf)); apply gw_d; exact det_extract rfl rfl rfl (by conv => (lhs; whnf)); apply gw_d; exact det_extract rfl rfl rfl (by conv => (lhs; whnf)); refine gM rfl rfl (by conv => (lhs; whnf)) ?_; refine gM rfl rfl (by conv => (lhs; whnf)) ?_; refine gM rfl rfl (by conv => (lhs; whnf)) ?_; refine gO ?_; refine gc_seq ?_; refine gc_seq ?_; refine gc_region ?_; refine gM rfl rfl (by conv => (lhs; whnf)) ?_; refine gC rfl rfl rfl rfl rfl ?_; refine gO ?_)
    refine gc_if_dec rfl (fun h => absurd rfl h) (fun _ => ?_)
    focus (refine gc_skip ?_; refine gx_next ?_; refine gc_seq ?_; refine gc_seq ?_; refine gc_region ?_; refine gM rfl rfl (by conv => (lhs; whnf)) ?_; refine gO ?_; refine gc_block ?_)
    refine gc_loopK (σ := Nat) [45, 46, 47, 48, 52, 53, 54, 55, 56, 57, 58, 59, 60, 61, 62, 63, 64, 65, 66, 67, 68, 69, 70, 71, 72, 73, 74, 75, 76, 51, 77, 78, 9, 10, 80, 81, 82, 83, 84, 85, 86, 87, 88, 89, 90, 91, 79, 92, 93, 94, 11, 12, 13, 96, 97, 98, 99, 100, 95, 101, 102, 14, 15, 103, 104, 105, 106, 107, 108, 109, 110, 111, 112, 113, 114, 115, 116, 117, 118, 119, 120, 121, 122, 123, 124, 125, 126, 127, 128, 129, 4, 16, 17, 130, 131, 132, 133, 136, 137, 138, 139, 140, 141, 142, 143, 144, 145, 146, 147, 148, 149, 150, 151, 152, 153, 154, 155, 156, 157, 158, 159, 160, 161, 162, 163, 164, 165, 166, 134, 135, 167, 168, 169, 49, 50, 8] (fun i => [(8, .int .i64 i)]) (fun i => i ≤ ch.length) (fun i => ch.length - i) 0 (Nat.zero_le _) ⟨rfl, trivial⟩ ?_
    rintro i base2 hi
    focus (refine gc_seq ?_; refine gc_seq ?_; refine gc_region ?_; refine gM rfl rfl (by conv => (lhs; whnf)) ?_; refine gM rfl rfl (by conv => (lhs; whnf)) ?_; refine gL rfl rfl rfl ?_; refine gC rfl rfl rfl rfl rfl ?_; refine gO ?_)
    refine gc_if_dec rfl (fun h => ?_) (fun h => ?_)
    · have hil : i < ch.length := by omega
      have hci := flat_at hec hil
      obtain ⟨x, bn, y, hq, hTr, hE⟩ := hcm ch[i] (List.getElem_mem hil)
      have e1 : ch[i].tick = x.tick := by rw [hq]; rfl
      have e2 : ch[i].ply = x.ply := by rw [hq]; rfl
      have e3 : ch[i].op = x.op := by rw [hq]; rfl
      have e4 : ch[i].who = trW c.sty.ops.length c.bs ps x := by rw [hq]; rfl
      have har := hcr ch[i] (List.getElem_mem hil)
      have hmo := hmost x.tick x.op bn hTr.bun
      have hc0 := hci 0 _ rfl
      have hc1 := hci 1 _ rfl
      have hc2 := hci 2 _ rfl
      have hc3 := hci 3 _ rfl
      have hc4 := hci 4 _ rfl
      rw [e1] at hc1
      rw [e2] at hc2
      rw [e3] at hc3
      rw [e4] at hc0
      obtain ⟨o, hop⟩ : ∃ o : Nat, x.op = (o : Int) := ⟨x.op.toNat, by have := hTr.op; omega⟩
      have hol : o < c.sty.ops.length := by have := hTr.op; omega
      have hbp := hPl.h bn (bunAt_mem hTr.bun).1
      have hTx := fun L w' s' => hT L w' x s'
      rw [hE] at hTx
      have hPx := fun (L : List Res) (w' : World) (s' : St w L w') => paid58_ok w' _ c x.tick o bn (hc'.later s') hTr.bun hol hbp
      have hmin : minAt c.sty.ops x.op = c.sty.ops[o].minutes := by
        unfold minAt
        rw [hop, Int.toNat_natCast, List.getElem?_eq_getElem hol]
        rfl
      have hM := hMin o hol
      have hamE : amtE c.r c.le c.sty.ops[o].minutes (bn.upto - bn.fr) = 0 := by
        unfold amtE
        rw [if_neg (by rw [ht]; decide), if_neg (by omega)]
      have hamV : amtV c.r c.le c.sty.ops[o].minutes (bn.upto - bn.fr) = amtF c.r c.le c.sty.ops c.bs (x.tick, x.op) := by
        unfold amtF
        rw [hmin, cnt_bun hTr.bun]
      have hAm : ∀ (L : List Res) (w' : World), St w L w' → Ok Tryz.prog 30 [.agg #[.int .i64 c.r, .int .i64 c.le], .int .i64 c.sty.ops[o].minutes, .int .i64 (bn.upto - bn.fr)].toArray w' fun y _ => y = .tuple #[.int .i64 (amtF c.r c.le c.sty.ops c.bs (x.tick, x.op)), .int .i64 0] := fun L w' s => by
        have := wAmount_ok w' c.r c.le c.sty.ops[o].minutes (bn.upto - bn.fr) (hL.later s)
        rw [hamE, hamV] at this
        exact this
      have hfr := amtF_range c.r c.le c.sty.ops c.bs (x.tick, x.op)
      generalize trW c.sty.ops.length c.bs ps x = tw at hTx hc0
      generalize amtF c.r c.le c.sty.ops c.bs (x.tick, x.op) = am at hAm hmo hfr
      rw [hop] at hc3 hTx hmo
      focus (refine gc_skip ?_; refine gx_next ?_; refine gc_seq ?_; refine gc_block ?_; refine gc_seq ?_)
      refine gc_draw 29 (by kernel_rfl) (by kernel_rfl) ?_
      focus (apply gd_d; exact w_field rfl rfl rfl; apply gd_d; exact w_load_part rfl rfl rfl (.there (.there .here)) rfl rfl; apply gd_d; exact w_field rfl rfl rfl; apply gd_d; exact w_load_box rfl rfl rfl (.there (.there .here)) rfl; apply gd_d; exact w_field rfl rfl rfl; apply gd_d; exact w_load_box rfl rfl rfl (.there (.there .here)) rfl; apply gd_d; exact w_field rfl rfl rfl; apply gd_d; exact w_load_box rfl rfl rfl (.there (.there .here)) rfl; apply gd_d; exact det_m rfl rfl (by conv => (lhs; whnf)); apply gd_d; exact det_m rfl rfl (by conv => (lhs; whnf)); apply gd_d; exact w_indexO (m := i) rfl rfl rfl rfl rfl hil .here; apply gd_d; exact w_field rfl rfl rfl; apply gd_d; exact w_loadOF rfl rfl rfl .here (by omega) hc1; apply gd_d; exact det_m rfl rfl (by conv => (lhs; whnf)); apply gd_d; exact det_m rfl rfl (by conv => (lhs; whnf)); apply gd_d; exact w_indexO (m := i) rfl rfl rfl rfl rfl hil .here; apply gd_d; exact w_field rfl rfl rfl; apply gd_d; exact w_loadOF rfl rfl rfl .here (by omega) hc2; apply gd_d; exact det_m rfl rfl (by conv => (lhs; whnf)); apply gd_d; exact det_m rfl rfl (by conv => (lhs; whnf)); apply gd_d; exact w_indexO (m := i) rfl rfl rfl rfl rfl hil .here; apply gd_d; exact w_field rfl rfl rfl; apply gd_d; exact w_loadOF rfl rfl rfl .here (by omega) hc3; apply gd_d; exact w_buildP [(0, .int .i64 x.tick), (1, .int .i64 x.ply), (2, .int .i64 (o : Int))] (cells := #[.int .i64 x.tick, .int .i64 x.ply, .int .i64 (o : Int)]) (by kernel_rfl) rfl rfl rfl; apply gd_d; exact w_call rfl rfl (hTx _) rfl; apply gd_d; exact det_m rfl rfl (by conv => (lhs; whnf)); apply gd_d; exact det_extract rfl rfl rfl (by conv => (lhs; whnf)); apply gd_d; exact det_extract rfl rfl rfl (by conv => (lhs; whnf)); apply gd_d; exact det_m rfl rfl (by conv => (lhs; whnf)); refine gd_nil ?_; refine gM rfl rfl (by conv => (lhs; whnf)) ?_; refine gO ?_; refine gc_seq ?_)
      refine gc_draw 18 (by kernel_rfl) (by kernel_rfl) ?_
      focus (apply gd_d; exact w_load_boxN rfl rfl rfl (.there (.there .here)) rfl; apply gd_d; exact det_m rfl rfl (by conv => (lhs; whnf)); apply gd_d; exact det_m rfl rfl (by conv => (lhs; whnf)); apply gd_d; exact w_indexO (m := i) rfl rfl rfl rfl rfl hil .here; apply gd_d; exact w_field rfl rfl rfl; apply gd_d; exact w_loadOF rfl rfl rfl .here (by omega) hc1; apply gd_d; exact det_m rfl rfl (by conv => (lhs; whnf)); apply gd_d; exact det_m rfl rfl (by conv => (lhs; whnf)); apply gd_d; exact w_indexO (m := i) rfl rfl rfl rfl rfl hil .here; apply gd_d; exact w_field rfl rfl rfl; apply gd_d; exact w_loadOF rfl rfl rfl .here (by omega) hc3; apply gd_d; exact w_call rfl rfl (hPx _) rfl; apply gd_d; exact det_m rfl rfl (by conv => (lhs; whnf)); apply gd_d; exact det_extract rfl rfl rfl (by conv => (lhs; whnf)); apply gd_d; exact det_extract rfl rfl rfl (by conv => (lhs; whnf)); apply gd_d; exact det_extract rfl rfl rfl (by conv => (lhs; whnf)); apply gd_d; exact det_m rfl rfl (by conv => (lhs; whnf)); apply gd_d; exact det_m rfl rfl (by conv => (lhs; whnf)); refine gd_nil ?_; refine gM rfl rfl (by conv => (lhs; whnf)) ?_; refine gN ?_; refine gF rfl rfl rfl ?_; apply gw_d; exact w_load_part rfl rfl rfl (.there (.there .here)) rfl rfl; refine gM rfl rfl (by conv => (lhs; whnf)) ?_; refine gM rfl rfl (by conv => (lhs; whnf)) ?_)
      focus (apply gw_d; exact w_call rfl rfl (hAm _) rfl; refine gM rfl rfl (by conv => (lhs; whnf)) ?_; apply gw_d; exact det_extract rfl rfl rfl (by conv => (lhs; whnf)); apply gw_d; exact det_extract rfl rfl rfl (by conv => (lhs; whnf)); refine gM rfl rfl (by conv => (lhs; whnf)) ?_; refine gM rfl rfl (by conv => (lhs; whnf)) ?_; refine gO ?_; refine gc_seq ?_; refine gc_seq ?_; refine gc_region ?_; refine gM rfl rfl (by conv => (lhs; whnf)) ?_; refine gC rfl rfl rfl rfl rfl ?_; refine gM rfl rfl (by conv => (lhs; whnf)) ?_; refine gM rfl rfl (by conv => (lhs; whnf)) ?_; refine gM rfl rfl (by conv => (lhs; whnf)) ?_; refine gM rfl rfl (by conv => (lhs; whnf)) ?_)
      focus (apply gw_d; exact w_indexO (m := i) rfl rfl rfl rfl rfl hil .here; refine gF rfl rfl rfl ?_; apply gw_d; exact w_loadOF rfl rfl rfl .here (by omega) hc0; refine gC rfl rfl rfl rfl rfl ?_; apply gw_d; exact det_pick_f (v := .bool _) rfl rfl rfl rfl; refine gM rfl rfl (by conv => (lhs; whnf)) ?_; refine gw_guard_dec rfl rfl (fun _ => ?_) (fun _ => ?_); refine gU rfl ?_; refine gU rfl ?_; apply gw_d; exact det_pick_t (v := .bool _) rfl rfl rfl rfl; refine gM rfl rfl (by conv => (lhs; whnf)) ?_; refine gU rfl ?_; refine gU rfl ?_; apply gw_d; exact det_pick_t (v := .bool _) rfl rfl rfl rfl; refine gM rfl rfl (by conv => (lhs; whnf)) ?_; refine gU rfl ?_; refine gU rfl ?_; refine gU rfl ?_; refine gU rfl ?_; refine gU rfl ?_; refine gU rfl ?_; apply gw_d; exact det_pick_t (v := .bool _) rfl rfl rfl rfl; refine gO ?_; refine gc_if_true rfl ?_; refine gc_seq ?_; refine gc_region ?_; refine gM rfl rfl (by conv => (lhs; whnf)) ?_; refine gO ?_; refine gc_ret ?_; refine gx_then_ret ?_; refine gx_block_ret ?_; refine gx_then_ret ?_; refine gx_then_ret ?_; refine gx_block_ret ?_; refine gx_then_ret ?_; rotate_left; refine gM rfl rfl (by conv => (lhs; whnf)) ?_; apply gw_d; exact det_not_ rfl rfl rfl; apply gw_d; exact det_pick_f (v := .bool _) rfl rfl rfl rfl; refine gM rfl rfl (by conv => (lhs; whnf)) ?_; refine gM rfl rfl (by conv => (lhs; whnf)) ?_; refine gC rfl rfl rfl rfl rfl ?_; apply gw_d; exact det_pick_f (v := .bool _) rfl rfl rfl rfl; refine gM rfl rfl (by conv => (lhs; whnf)) ?_; refine gM rfl rfl (by conv => (lhs; whnf)) ?_; refine gM rfl rfl (by conv => (lhs; whnf)) ?_; apply gw_d; exact w_indexO (m := i) rfl rfl rfl rfl rfl hil .here; refine gF rfl rfl rfl ?_; apply gw_d; exact w_loadOF rfl rfl rfl .here (by omega) hc4; refine gC rfl rfl rfl rfl rfl ?_; apply gw_d; exact det_pick_f (v := .bool _) rfl rfl rfl rfl; refine gO ?_; refine gc_if_dec rfl (fun _ => ?_) (fun _ => ?_); refine gc_seq ?_; refine gc_region ?_; refine gM rfl rfl (by conv => (lhs; whnf)) ?_; refine gO ?_; refine gc_ret ?_; refine gx_then_ret ?_; refine gx_block_ret ?_; refine gx_then_ret ?_; refine gx_then_ret ?_; refine gx_block_ret ?_; refine gx_then_ret ?_; rotate_left; refine gc_skip ?_; refine gx_next ?_; refine gc_seq ?_; refine gc_region ?_; refine gM rfl rfl (by conv => (lhs; whnf)) ?_; refine gO ?_; refine gc_seq ?_; refine gc_seq ?_; refine gc_region ?_; refine gM rfl rfl (by conv => (lhs; whnf)) ?_; refine gO ?_; refine gc_block ?_; rotate_left)
      all_goals first | (exfalso; omega) | (exfalso; rename_i hne; exact hne rfl) | skip
      refine gc_loopK (σ := Nat) [130, 131, 132, 133, 136, 137, 138, 139, 140, 141, 142, 143, 144, 145, 146, 147, 148, 149, 150, 151, 152, 153, 154, 155, 156, 157, 158, 159, 160, 161, 162, 163, 164, 165, 166, 16, 134, 135, 17] (fun j => [(17, .int .i64 j), (16, .int .i64 (sumTO (ch.take j) x.tick (o : Int)))]) (fun j => j ≤ ch.length) (fun j => ch.length - j) 0 (Nat.zero_le _) ⟨rfl, rfl, trivial⟩ ?_
      rintro j base3 hj2
      have hsr := sumTO_range hcr x.tick (o : Int) j hj2
      focus (refine gc_seq ?_; refine gc_seq ?_; refine gc_region ?_; refine gM rfl rfl (by conv => (lhs; whnf)) ?_; refine gM rfl rfl (by conv => (lhs; whnf)) ?_; refine gL rfl rfl rfl ?_; refine gC rfl rfl rfl rfl rfl ?_; refine gO ?_)
      refine gc_if_dec rfl (fun h2 => ?_) (fun h2 => ?_)
      · have hjl : j < ch.length := by omega
        have hcj := flat_at hec hjl
        have hd1 := hcj 1 _ rfl
        have hd3 := hcj 3 _ rfl
        have hd4 := hcj 4 _ rfl
        have haj := hcr ch[j] (List.getElem_mem hjl)
        have hst : sumTO (ch.take (j + 1)) x.tick (o : Int) = if ch[j].tick = x.tick ∧ ch[j].op = (o : Int) then sumTO (ch.take j) x.tick (o : Int) + ch[j].amt else sumTO (ch.take j) x.tick (o : Int) := by rw [List.take_succ_eq_append_getElem hjl, sumTO_snoc]
        by_cases hm : ch[j].tick = x.tick ∧ ch[j].op = (o : Int)
        · rw [if_pos hm] at hst
          focus (refine gc_skip ?_; refine gx_next ?_; refine gc_seq ?_; refine gc_block ?_; refine gc_seq ?_)
          refine gc_draw 24 (by kernel_rfl) (by kernel_rfl) ?_
          focus (apply gd_d; exact det_m rfl rfl (by conv => (lhs; whnf)); apply gd_d; exact det_m rfl rfl (by conv => (lhs; whnf)); apply gd_d; exact w_indexO (m := j) rfl rfl rfl rfl rfl hjl .here; apply gd_d; exact w_field rfl rfl rfl; apply gd_d; exact w_loadOF rfl rfl rfl .here (by omega) hd1; apply gd_d; exact det_m rfl rfl (by conv => (lhs; whnf)); apply gd_d; exact det_m rfl rfl (by conv => (lhs; whnf)); apply gd_d; exact w_indexO (m := i) rfl rfl rfl rfl rfl hil .here; apply gd_d; exact w_field rfl rfl rfl; apply gd_d; exact w_loadOF rfl rfl rfl .here (by omega) hc1; apply gd_d; exact det_cmp rfl rfl rfl rfl rfl; apply gd_d; exact det_m rfl rfl (by conv => (lhs; whnf)); refine gd_guard_dec rfl rfl (fun _ => ?_) (fun _ => ?_); apply gd_d; exact det_m rfl rfl (by conv => (lhs; whnf)); apply gd_d; exact det_m rfl rfl (by conv => (lhs; whnf)); apply gd_d; exact w_indexO (m := j) rfl rfl rfl rfl rfl hjl .here; apply gd_d; exact w_field rfl rfl rfl; apply gd_d; exact w_loadOF rfl rfl rfl .here (by omega) hd3; apply gd_d; exact det_m rfl rfl (by conv => (lhs; whnf)); apply gd_d; exact det_m rfl rfl (by conv => (lhs; whnf)); apply gd_d; exact w_indexO (m := i) rfl rfl rfl rfl rfl hil .here; apply gd_d; exact w_field rfl rfl rfl; apply gd_d; exact w_loadOF rfl rfl rfl .here (by omega) hc3; apply gd_d; exact det_cmp rfl rfl rfl rfl rfl; apply gd_d; exact det_pick_t (v := .bool _) rfl rfl rfl rfl; refine gd_nil ?_; refine gO ?_; refine gc_if_dec rfl (fun _ => ?_) (fun _ => ?_); refine gc_region ?_; refine gM rfl rfl (by conv => (lhs; whnf)) ?_; refine gM rfl rfl (by conv => (lhs; whnf)) ?_; refine gM rfl rfl (by conv => (lhs; whnf)) ?_; apply gw_d; exact w_indexO (m := j) rfl rfl rfl rfl rfl hjl .here; refine gF rfl rfl rfl ?_; apply gw_d; exact w_loadOF rfl rfl rfl .here (by omega) hd4; apply gw_d; exact det_ar rfl rfl rfl rfl rfl (by omega); refine gM rfl rfl (by conv => (lhs; whnf)) ?_; refine gw_nil ?_; refine gx_block ?_; refine gx_next ?_; refine gc_region ?_; refine gM rfl rfl (by conv => (lhs; whnf)) ?_; apply gw_d; exact det_ar rfl rfl rfl rfl rfl (by omega); refine gM rfl rfl (by conv => (lhs; whnf)) ?_; refine gw_nil ?_; rotate_left; refine gc_skip ?_; refine gx_block ?_; refine gx_next ?_; refine gc_region ?_; refine gM rfl rfl (by conv => (lhs; whnf)) ?_; apply gw_d; exact det_ar rfl rfl rfl rfl rfl (by omega); refine gM rfl rfl (by conv => (lhs; whnf)) ?_; refine gw_nil ?_; rotate_left; apply gd_d; exact det_not rfl; apply gd_d; exact det_not rfl; apply gd_d; exact det_not rfl; apply gd_d; exact det_not rfl; apply gd_d; exact det_not rfl; apply gd_d; exact det_not rfl; apply gd_d; exact det_not rfl; apply gd_d; exact det_not rfl; apply gd_d; exact det_not rfl; apply gd_d; exact det_not rfl; apply gd_d; exact det_not rfl; apply gd_d; exact det_pick_f (v := .bool _) rfl rfl rfl rfl; refine gd_nil ?_; refine gO ?_; refine gc_if_false rfl ?_; refine gc_skip ?_; refine gx_block ?_; refine gx_next ?_; refine gc_region ?_; refine gM rfl rfl (by conv => (lhs; whnf)) ?_; apply gw_d; exact det_ar rfl rfl rfl rfl rfl (by omega); refine gM rfl rfl (by conv => (lhs; whnf)) ?_; refine gw_nil ?_; rotate_left)
          all_goals first | (exfalso; omega) | skip
          exact gx_round (j + 1) hjl (by omega) (by repeat (first | exact Keeps.refl | refine Keeps.upd rfl ?_ | refine Keeps.sets rfl ?_ | refine Keeps.havoc rfl ?_)) ⟨rfl, by rw [hst]; rfl, trivial⟩ (Sub.all _)
        · rw [if_neg hm] at hst
          focus (refine gc_skip ?_; refine gx_next ?_; refine gc_seq ?_; refine gc_block ?_; refine gc_seq ?_)
          refine gc_draw 24 (by kernel_rfl) (by kernel_rfl) ?_
          focus (apply gd_d; exact det_m rfl rfl (by conv => (lhs; whnf)); apply gd_d; exact det_m rfl rfl (by conv => (lhs; whnf)); apply gd_d; exact w_indexO (m := j) rfl rfl rfl rfl rfl hjl .here; apply gd_d; exact w_field rfl rfl rfl; apply gd_d; exact w_loadOF rfl rfl rfl .here (by omega) hd1; apply gd_d; exact det_m rfl rfl (by conv => (lhs; whnf)); apply gd_d; exact det_m rfl rfl (by conv => (lhs; whnf)); apply gd_d; exact w_indexO (m := i) rfl rfl rfl rfl rfl hil .here; apply gd_d; exact w_field rfl rfl rfl; apply gd_d; exact w_loadOF rfl rfl rfl .here (by omega) hc1; apply gd_d; exact det_cmp rfl rfl rfl rfl rfl; apply gd_d; exact det_m rfl rfl (by conv => (lhs; whnf)); refine gd_guard_dec rfl rfl (fun _ => ?_) (fun _ => ?_); apply gd_d; exact det_m rfl rfl (by conv => (lhs; whnf)); apply gd_d; exact det_m rfl rfl (by conv => (lhs; whnf)); apply gd_d; exact w_indexO (m := j) rfl rfl rfl rfl rfl hjl .here; apply gd_d; exact w_field rfl rfl rfl; apply gd_d; exact w_loadOF rfl rfl rfl .here (by omega) hd3; apply gd_d; exact det_m rfl rfl (by conv => (lhs; whnf)); apply gd_d; exact det_m rfl rfl (by conv => (lhs; whnf)); apply gd_d; exact w_indexO (m := i) rfl rfl rfl rfl rfl hil .here; apply gd_d; exact w_field rfl rfl rfl; apply gd_d; exact w_loadOF rfl rfl rfl .here (by omega) hc3; apply gd_d; exact det_cmp rfl rfl rfl rfl rfl; apply gd_d; exact det_pick_t (v := .bool _) rfl rfl rfl rfl; refine gd_nil ?_; refine gO ?_; refine gc_if_dec rfl (fun _ => ?_) (fun _ => ?_); refine gc_region ?_; refine gM rfl rfl (by conv => (lhs; whnf)) ?_; refine gM rfl rfl (by conv => (lhs; whnf)) ?_; refine gM rfl rfl (by conv => (lhs; whnf)) ?_; apply gw_d; exact w_indexO (m := j) rfl rfl rfl rfl rfl hjl .here; refine gF rfl rfl rfl ?_; apply gw_d; exact w_loadOF rfl rfl rfl .here (by omega) hd4; apply gw_d; exact det_ar rfl rfl rfl rfl rfl (by omega); refine gM rfl rfl (by conv => (lhs; whnf)) ?_; refine gw_nil ?_; refine gx_block ?_; refine gx_next ?_; refine gc_region ?_; refine gM rfl rfl (by conv => (lhs; whnf)) ?_; apply gw_d; exact det_ar rfl rfl rfl rfl rfl (by omega); refine gM rfl rfl (by conv => (lhs; whnf)) ?_; refine gw_nil ?_; rotate_left; refine gc_skip ?_; refine gx_block ?_; refine gx_next ?_; refine gc_region ?_; refine gM rfl rfl (by conv => (lhs; whnf)) ?_; apply gw_d; exact det_ar rfl rfl rfl rfl rfl (by omega); refine gM rfl rfl (by conv => (lhs; whnf)) ?_; refine gw_nil ?_; rotate_left; apply gd_d; exact det_not rfl; apply gd_d; exact det_not rfl; apply gd_d; exact det_not rfl; apply gd_d; exact det_not rfl; apply gd_d; exact det_not rfl; apply gd_d; exact det_not rfl; apply gd_d; exact det_not rfl; apply gd_d; exact det_not rfl; apply gd_d; exact det_not rfl; apply gd_d; exact det_not rfl; apply gd_d; exact det_not rfl; apply gd_d; exact det_pick_f (v := .bool _) rfl rfl rfl rfl; refine gd_nil ?_; refine gO ?_; refine gc_if_false rfl ?_; refine gc_skip ?_; refine gx_block ?_; refine gx_next ?_; refine gc_region ?_; refine gM rfl rfl (by conv => (lhs; whnf)) ?_; apply gw_d; exact det_ar rfl rfl rfl rfl rfl (by omega); refine gM rfl rfl (by conv => (lhs; whnf)) ?_; refine gw_nil ?_; rotate_left)
          all_goals first | (exfalso; exact hm ⟨by assumption, by assumption⟩) | skip
          all_goals exact gx_round (j + 1) hjl (by omega) (by repeat (first | exact Keeps.refl | refine Keeps.upd rfl ?_ | refine Keeps.sets rfl ?_ | refine Keeps.havoc rfl ?_)) ⟨rfl, by rw [hst]; rfl, trivial⟩ (Sub.all _)
      · obtain rfl : j = ch.length := by omega
        rw [List.take_length]
        focus (refine gc_exit ?_; refine gx_then_exit ?_; refine gx_then_exit ?_; refine gx_block_exit ?_; refine gx_next ?_; refine gc_seq ?_; refine gc_region ?_; refine gM rfl rfl (by conv => (lhs; whnf)) ?_; refine gM rfl rfl (by conv => (lhs; whnf)) ?_; refine gC rfl rfl rfl rfl rfl ?_; refine gO ?_)
        refine gc_if_dec rfl (fun h3 => by omega) (fun _ => ?_)
        focus (refine gc_skip ?_; refine gx_block ?_; refine gx_next ?_; refine gc_region ?_; refine gM rfl rfl (by conv => (lhs; whnf)) ?_; apply gw_d; exact det_ar rfl rfl rfl rfl rfl (by omega); refine gM rfl rfl (by conv => (lhs; whnf)) ?_; refine gw_nil ?_)
        exact gx_round (i + 1) hil (by omega) (by repeat (first | exact Keeps.refl | refine Keeps.upd rfl ?_ | refine Keeps.sets rfl ?_ | refine Keeps.havoc rfl ?_)) ⟨rfl, trivial⟩ (Sub.all _)
    · focus (refine gc_exit ?_; refine gx_then_exit ?_; refine gx_then_exit ?_; refine gx_block_exit ?_; refine gx_next ?_; refine gc_seq ?_; refine gc_region ?_; refine gM rfl rfl (by conv => (lhs; whnf)) ?_; refine gL rfl rfl rfl ?_; refine gM rfl rfl (by conv => (lhs; whnf)) ?_; refine gL rfl rfl rfl ?_; refine gC rfl rfl rfl rfl rfl ?_; refine gM rfl rfl (by conv => (lhs; whnf)) ?_; refine gw_guard_dec rfl rfl (fun _ => ?_) (fun _ => ?_); apply gw_d; exact w_call rfl rfl (hA _) rfl; apply gw_d; exact det_pick_t (v := .bool _) rfl rfl rfl rfl; refine gM rfl rfl (by conv => (lhs; whnf)) ?_; refine gO ?_; refine gc_ret ?_; rotate_left; refine gU rfl ?_; apply gw_d; exact det_pick_f (v := .bool _) rfl rfl rfl rfl; refine gM rfl rfl (by conv => (lhs; whnf)) ?_; refine gO ?_; refine gc_ret ?_; rotate_left)
      all_goals first | (exfalso; rename_i hne; exact hne rfl) | skip
      all_goals (refine gx_ret1 (v := .bool _) rfl rfl (fun _ _ => ?_); rfl)
  · have hC1 := fun (L : List Res) (w' : World) (s' : St w L w') => charges_bad (r := c.r) (le := c.le) (hL.later s') (StyV.later s' hs) (hb.later s') (hw.later s') (hx.later s') (hl'.later s') he
    generalize chgErr c.r c.le (opCheckE c.sty plE) c.bs c.ws c.xs.length l.length = er at he hC1
    focus (apply gw_d; exact w_call rfl rfl (hC1 _) rfl; refine gM rfl rfl (by conv => (lhs; whnf)) ?_; apply gw_d; exact det_extract rfl rfl rfl (by conv => (lhs; whnf)); apply gw_d; exact det_extract rfl rfl rfl (by conv => (lhs; whnf)); apply gw_d; exact det_extract rfl rfl rfl (by conv => (lhs; whnf)); refine gM rfl rfl (by conv => (lhs; whnf)) ?_; refine gM rfl rfl (by conv => (lhs; whnf)) ?_; refine gM rfl rfl (by conv => (lhs; whnf)) ?_; refine gO ?_; refine gc_seq ?_; refine gc_seq ?_; refine gc_region ?_; refine gM rfl rfl (by conv => (lhs; whnf)) ?_; refine gC rfl rfl rfl rfl rfl ?_; refine gO ?_)
    refine gc_if_dec rfl (fun _ => ?_) (fun h => absurd he h)
    focus (refine gc_seq ?_; refine gc_region ?_; refine gM rfl rfl (by conv => (lhs; whnf)) ?_; refine gL rfl rfl rfl ?_; refine gM rfl rfl (by conv => (lhs; whnf)) ?_; refine gL rfl rfl rfl ?_; apply gw_d; exact det_ar rfl rfl rfl rfl rfl (by omega); refine gC rfl rfl rfl rfl rfl ?_; refine gM rfl rfl (by conv => (lhs; whnf)) ?_; apply gw_d; exact w_call rfl rfl (hA _) rfl; apply gw_d; exact det_pick_t (v := .bool _) rfl rfl rfl rfl; refine gM rfl rfl (by conv => (lhs; whnf)) ?_; refine gO ?_; refine gc_ret ?_; refine gx_then_ret ?_)
    refine gx_ret1 (v := .bool _) rfl rfl (fun _ _ => ?_)
    rfl
end Go.Proofs.YtljibjlkjelpbaaGreatDoor
