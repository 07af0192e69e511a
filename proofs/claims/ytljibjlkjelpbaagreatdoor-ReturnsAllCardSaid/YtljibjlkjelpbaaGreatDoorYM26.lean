/- The law ReturnsAll: the walk. -/
import Derived.Test.YtljibjlkjelpbaaGreatDoorYV9
namespace Go.Proofs.YtljibjlkjelpbaaGreatDoor
open Go.RowKit
set_option maxRecDepth 100000
set_option maxHeartbeats 4000000

theorem wf8' {n : Int} (h : (Lit.int .u8 n).wf = true) : 0 ≤ n ∧ n ≤ 255 := by
  unfold Lit.wf at h
  simp only [Bool.and_eq_true, decide_eq_true_eq] at h
  exact h
def sumA (cs : List Chg) : Int := sumI (cs.map (·.amt))
theorem sumA_snoc (cs : List Chg) (q : Chg) : sumA (cs ++ [q]) = sumA cs + q.amt := by
  unfold sumA
  rw [List.map_append, sumI_append]
  simp [sumI]
theorem sumA_range {cs : List Chg} (h : ∀ q ∈ cs, 0 ≤ q.amt ∧ q.amt ≤ 1000000000) : ∀ n, n ≤ cs.length → 0 ≤ sumA (cs.take n) ∧ sumA (cs.take n) ≤ 1000000000 * n
  | 0, _ => by rw [List.take_zero]; show (0 : Int) ≤ 0 ∧ (0 : Int) ≤ 1000000000 * ((0 : Nat) : Int); omega
  | n + 1, hn => by
    obtain ⟨h1, h2⟩ := sumA_range h n (by omega)
    have ha := h cs[n] (List.getElem_mem (by omega))
    rw [List.take_succ_eq_append_getElem (by omega), sumA_snoc]
    constructor <;> omega
theorem lawReturnsAll_ok (w : World) (hL : Lay w) (v : Value) (c : Shp) (at_ : Int) (hc : ShopV w v c) (wa : (Lit.int .u8 at_).wf = true) : Ok Tryz.prog 11 [v, .int .u8 at_].toArray w fun r _ => r = .bool true := by
  have hc' := hc
  have h8 := wf8' wa
  have hwr : IntKind.i64.wrap at_ = at_ := by rw [IntKind.wrap_i64]; omega
  obtain ⟨v0, v1, v2, v3, v4, v5, v6, vb, vw, vx, rfl, hs, hb, hw, hx⟩ := hc
  have hx' := hx
  obtain ⟨Ax, cx, rfl, hxc, hxm, hxcell⟩ := hx.scn
  have hA : ∀ (L : List Res) (w' : World), St w L w' → Ok Tryz.prog 22 [].toArray w' fun r _ => r = .bool true := fun L w' s => alive_ok w' (hL.later s)
  have hF : ∀ (L : List Res) (w' : World), St w L w' → OkM Tryz.prog 26 [.agg #[v0, v1, v2, v3, v4, v5, v6, vb, vw, .slice Ax c.xs.length cx, .int .i64 c.r, .int .i64 c.le]].toArray w' (fun b : Bool => .bool b) (fun _ => []) := fun L w' s' => light58_ok w' _ c (hc'.later s')
  refine ok_enter Tryz.func11 rfl Tryz.ntmps11 rfl ?_
  focus (refine gc_seq ?_; refine gc_region ?_; refine gw_boxd (v := .agg _) rfl rfl (fun _ => ?_); refine gM rfl rfl (by conv => (lhs; whnf)) ?_; refine gO ?_; refine gc_seq ?_; refine gc_seq ?_; refine gc_region ?_; apply gw_d; exact w_load_boxN rfl rfl rfl .here rfl)
  rename_i bS
  refine gw_callm rfl (hF _) rfl (fun b => ?_)
  focus (apply gw_d; exact det_not_ rfl rfl rfl; refine gM rfl rfl (by conv => (lhs; whnf)) ?_; refine gw_guard rfl rfl (fun _ => ?_) (fun _ => ?_); refine gU rfl ?_; refine gU rfl ?_; refine gU rfl ?_; refine gU rfl ?_; apply gw_d; exact det_pick_t (v := .bool _) rfl rfl rfl rfl; refine gO ?_; refine gc_if_true rfl ?_; refine gc_seq ?_; refine gc_region ?_; apply gw_d; exact w_call rfl rfl (hA _) rfl; refine gM rfl rfl (by conv => (lhs; whnf)) ?_; refine gO ?_; refine gc_ret ?_; refine gx_then_ret ?_; rotate_left; refine gF rfl rfl rfl ?_; apply gw_d; exact w_load_box rfl rfl rfl .here rfl; refine gL rfl rfl rfl ?_; refine gC rfl rfl rfl rfl rfl ?_; apply gw_d; exact det_pick_f (v := .bool _) rfl rfl rfl rfl; refine gO ?_; refine gc_if_dec rfl (fun _ => ?_) (fun _ => ?_); refine gc_seq ?_; refine gc_region ?_; apply gw_d; exact w_call rfl rfl (hA _) rfl; refine gM rfl rfl (by conv => (lhs; whnf)) ?_; refine gO ?_; refine gc_ret ?_; refine gx_then_ret ?_; rotate_left; refine gc_skip ?_; refine gx_next ?_; refine gc_seq ?_; rotate_left)
  all_goals first | (refine gx_ret1 (v := .bool _) rfl rfl (fun _ _ => ?_); rfl) | skip
  have hpos : 0 < c.xs.length := by omega
  obtain ⟨m, hm⟩ : ∃ m : Nat, at_ % (c.xs.length : Int) = (m : Int) := ⟨(at_ % (c.xs.length : Int)).toNat, by
    have := Int.emod_nonneg at_ (b := (c.xs.length : Int)) (by omega)
    omega⟩
  have hml : m < c.xs.length := by
    have := Int.emod_lt_of_pos at_ (b := (c.xs.length : Int)) (by omega)
    omega
  obtain ⟨ad, rfl, hbk, hce, hyi⟩ := hxcell m hml
  generalize hy0 : c.xs[m] = y at hce hyi
  have hFi := fun (L : List Res) (w' : World) (s' : St w L w') => first58_ok w' _ c y.tick (hc'.later s')
  have hCk : ∀ (L : List Res) (w' : World), St w L w' → Ok Tryz.prog 33 [.agg #[.int .i64 c.r, .int .i64 c.le]].toArray w' fun x _ => x = .int .i64 (tarE c.r c.le) := fun L w' s => wCheck_ok w' c.r c.le (hL.later s)
  refine gc_block_draw Nat 11 (fun i => ([[], [0], [], [2], [], [4], [4, 5], [2, 3, 4, 5, 6], [0, 1, 2, 3, 4, 5, 6, 7], [0, 1, 2, 3, 4, 5, 6, 7, 8], []] : List (List Nat)).getD i []) rfl (by kernel_rfl) ?_
  focus (apply gb_d; (intro γ; exact w_field rfl rfl rfl); (intros; rfl); (intros; rfl); apply gb_d; (intro γ; exact w_load_box rfl rfl rfl .here rfl); (intros; rfl); (intros; rfl); apply gb_d; (intro γ; exact det_m rfl rfl (by conv => (lhs; whnf))); (intros; rfl); (intros; rfl); apply gb_d; (intro γ; exact det_conv (r := at_) rfl rfl rfl hwr); (intros; rfl); (intros; rfl); apply gb_d; (intro γ; exact w_field rfl rfl rfl); (intros; rfl); (intros; rfl); apply gb_d; (intro γ; exact w_load_box rfl rfl rfl .here rfl); (intros; rfl); (intros; rfl); apply gb_d; (intro γ; exact w_len rfl rfl rfl); (intros; rfl); (intros; rfl); apply gb_d; (intro γ; exact det_rem rfl rfl rfl rfl (by omega) (by omega)); (intros; rfl); (intros; rfl); apply gb_d; (intro γ; exact w_index (m := m) rfl rfl rfl rfl hm hml); (intros; rfl); (intros; rfl); apply gb_d; (intro γ; exact w_load_elem rfl rfl rfl (by assumption) (by assumption) (by rfl)); (intros; rfl); (intros; rfl))
  refine gb_alloc id id (fun _ => rfl) (fun _ => rfl) ?_
  refine GB.nil (fun β => ?_)
  generalize β 10 = bY
  refine w_store_all rfl rfl rfl rfl rfl .here rfl ?_
  focus (refine gO ?_; refine gc_seq ?_)
  refine gc_ent (K := [Box bY 51 #[.int .i64 y.tick, .int .i64 y.op, .int .i64 y.who, .int .i64 y.time], Box bS 66 #[v0, v1, v2, v3, v4, v5, v6, vb, vw, .slice (some ad) c.xs.length cx, .int .i64 c.r, .int .i64 c.le]]) (Sub.ent (.cons .here (.cons .here .nil))) ?_
  by_cases hj : judgeAllE (opCheckE c.sty plE) c.bs c.ws c.xs.length = 0
  · obtain ⟨hOk, hx300⟩ := judge_zero hj
    have hPl := hOk.bundles
    have hMin := (scan_ops hOk).2
    have hT := fun (L : List Res) (w' : World) (s' : St w L w') => Trace_ok ⟨y.tick, frAt c.bs y.tick, y.op⟩ (StyV.later s' hs) (hb.later s') (hw.later s') (hx'.later s') hj
    by_cases hE : trE c.sty.ops.length c.bs (paidL c.sty.ops c.ws (ticks c.bs) c.xs) ⟨y.tick, frAt c.bs y.tick, y.op⟩ = 0
    · rcases tar_cases c.r c.le with ht | ht
      · obtain ⟨bn, sc, hTr⟩ := trE_zero hE
        have hbp := hPl.h bn (bunAt_mem hTr.bun).1
        have hfr : frAt c.bs y.tick = bn.fr := by unfold frAt; rw [hTr.bun]; rfl
        obtain ⟨n, hn⟩ : ∃ n : Nat, bn.upto - bn.fr = (n : Int) := ⟨(bn.upto - bn.fr).toNat, by omega⟩
        obtain ⟨o, hop⟩ : ∃ o : Nat, y.op = (o : Int) := ⟨y.op.toNat, by have := hTr.op; dsimp only at this; omega⟩
        have hol : o < c.sty.ops.length := by have := hTr.op; dsimp only at this; omega
        have hPx := fun (L : List Res) (w' : World) (s' : St w L w') => paid58_ok w' _ c y.tick o bn (hc'.later s') hTr.bun hol hbp
        rw [← hop] at hPx
        have hM := hMin o hol
        have hmin : minAt c.sty.ops y.op = c.sty.ops[o].minutes := by
          unfold minAt
          rw [hop, Int.toNat_natCast, List.getElem?_eq_getElem hol]
          rfl
        have hamE : amtE c.r c.le c.sty.ops[o].minutes (bn.upto - bn.fr) = 0 := by
          unfold amtE
          rw [if_neg (by rw [ht]; decide), if_neg (by omega)]
        have hamV : amtV c.r c.le c.sty.ops[o].minutes (bn.upto - bn.fr) = amtF c.r c.le c.sty.ops c.bs (y.tick, y.op) := by
          unfold amtF
          rw [hmin, cnt_bun hTr.bun]
        have hAm : ∀ (L : List Res) (w' : World), St w L w' → Ok Tryz.prog 30 [.agg #[.int .i64 c.r, .int .i64 c.le], .int .i64 c.sty.ops[o].minutes, .int .i64 (bn.upto - bn.fr)].toArray w' fun y2 _ => y2 = .tuple #[.int .i64 (amtF c.r c.le c.sty.ops c.bs (y.tick, y.op)), .int .i64 0] := fun L w' s => by
          have := wAmount_ok w' c.r c.le c.sty.ops[o].minutes (bn.upto - bn.fr) (hL.later s)
          rw [hamE, hamV] at this
          exact this
        obtain ⟨hdone, hsum⟩ := sum_all (r := c.r) (le := c.le) (l := c.sty.ops) (ps := paidL c.sty.ops c.ws (ticks c.bs) c.xs) hPl hTr.bun hn hTr.op hTr.who
        dsimp only at hdone hsum
        have hall := allP_len y.tick bn.fr y.op n
        have hbi : inI64 bn.fr ∧ inI64 bn.upto := by
          obtain ⟨kb, hkb, hke⟩ := List.getElem_of_mem (bunAt_mem hTr.bun).1
          obtain ⟨_, _, _, _, _, hbc⟩ := hb.bun
          obtain ⟨_, _, _, _, _, i2, i3⟩ := hbc kb hkb
          rw [hke] at i2 i3
          exact ⟨i2, i3⟩
        have hrepR : ∀ (w' : World) (S : Nat → Prop), ∀ q ∈ allP y.tick bn.fr y.op n, rRet.rep w' S q (encR q) := fun w' S q hq => by
          obtain ⟨g1, g2, g3, g4⟩ := allP_mem hq
          refine ⟨rfl, by rw [g1]; exact hyi.1, ?_, by rw [g2]; exact hyi.2.1⟩
          have := hbi.1
          have := hbi.2
          unfold inI64 at *
          omega
        have hC1 := fun (L L' : List Res) (w' : World) (A : Option Addr) (ca : Nat) (hp : Pick L (Own A n ca 76 3 ((allP y.tick bn.fr y.op n).flatMap encR)) L') (s' : St w L w') => charges_ok (r := c.r) (le := c.le) (hL.later s') (StyV.later s' hs) (hb.later s') (hw.later s') (hx'.later s') (Sl.own (R := rRet) (enc := encR) s' hp hall.symm (hrepR _ _)) (chgErr_mk (by rw [hall]; omega) hj ht)
        have hchl : (chgL c.r c.le c.sty.ops c.bs (paidL c.sty.ops c.ws (ticks c.bs) c.xs) (allP y.tick bn.fr y.op n)).length = n := by unfold chgL; rw [List.length_map, hdone, hall]
        have hchw : ∀ q ∈ chgL c.r c.le c.sty.ops c.bs (paidL c.sty.ops c.ws (ticks c.bs) c.xs) (allP y.tick bn.fr y.op n), q.who = trW c.sty.ops.length c.bs (paidL c.sty.ops c.ws (ticks c.bs) c.xs) ⟨y.tick, frAt c.bs y.tick, y.op⟩ := fun q hq => by
          obtain ⟨x, rfl, hxa, hok⟩ := chg_mem hq
          obtain ⟨g1, g2, _, _⟩ := allP_mem hxa
          obtain ⟨b2, y2, hT2⟩ := trE_zero (of_decide_eq_true hok)
          show trW _ _ _ x = _
          rw [hT2.w, hTr.w]
          have := hT2.who
          rw [g1, g2] at this
          have h9 := hTr.who
          dsimp only at h9
          rw [h9] at this
          rw [Option.some.inj this]
        have hcr : ∀ q ∈ chgL c.r c.le c.sty.ops c.bs (paidL c.sty.ops c.ws (ticks c.bs) c.xs) (allP y.tick bn.fr y.op n), 0 ≤ q.amt ∧ q.amt ≤ 1000000000 := fun q hq => chg_range hPl hq
        rw [hE] at hT
        rw [ht] at hCk
        rw [hall] at hC1
        change sumA _ = _ at hsum
        generalize outsR (okR c.sty.ops.length c.bs (paidL c.sty.ops c.ws (ticks c.bs) c.xs)) [] (allP y.tick bn.fr y.op n) = os at hC1
        generalize chgL c.r c.le c.sty.ops c.bs (paidL c.sty.ops c.ws (ticks c.bs) c.xs) (allP y.tick bn.fr y.op n) = ch at hC1 hchl hchw hcr hsum
        generalize trW c.sty.ops.length c.bs (paidL c.sty.ops c.ws (ticks c.bs) c.xs) ⟨y.tick, frAt c.bs y.tick, y.op⟩ = tw at hT hchw
        generalize amtF c.r c.le c.sty.ops c.bs (y.tick, y.op) = am at hAm hsum
        have hec : ∀ x ∈ ch, (encC x).length = 5 := fun _ _ => rfl
        refine gc_draw 22 (by kernel_rfl) (by kernel_rfl) ?_
        focus (apply gd_d; exact w_field rfl rfl rfl; apply gd_d; exact w_load_part rfl rfl rfl (.there .here) rfl rfl; apply gd_d; exact w_field rfl rfl rfl; apply gd_d; exact w_load_box rfl rfl rfl (.there .here) rfl; apply gd_d; exact w_field rfl rfl rfl; apply gd_d; exact w_load_box rfl rfl rfl (.there .here) rfl; apply gd_d; exact w_field rfl rfl rfl; apply gd_d; exact w_load_box rfl rfl rfl (.there .here) rfl; apply gd_d; exact w_field rfl rfl rfl; apply gd_d; exact w_load_box rfl rfl rfl .here rfl; apply gd_d; exact w_load_boxN rfl rfl rfl (.there .here) rfl; apply gd_d; exact w_field rfl rfl rfl; apply gd_d; exact w_load_box rfl rfl rfl .here rfl; apply gd_d; exact w_call rfl rfl (hFi _) rfl; apply gd_d; exact w_field rfl rfl rfl; apply gd_d; exact w_load_box rfl rfl rfl .here rfl; apply gd_d; exact w_buildP [(0, .int .i64 y.tick), (1, .int .i64 (frAt c.bs y.tick)), (2, .int .i64 y.op)] (cells := #[.int .i64 y.tick, .int .i64 (frAt c.bs y.tick), .int .i64 y.op]) (by kernel_rfl) rfl rfl rfl; apply gd_d; exact w_call rfl rfl (hT _) rfl; apply gd_d; exact det_m rfl rfl (by conv => (lhs; whnf)); apply gd_d; exact det_extract rfl rfl rfl (by conv => (lhs; whnf)); apply gd_d; exact det_extract rfl rfl rfl (by conv => (lhs; whnf)); apply gd_d; exact det_m rfl rfl (by conv => (lhs; whnf)); refine gd_nil ?_; refine gM rfl rfl (by conv => (lhs; whnf)) ?_; refine gO ?_; refine gc_seq ?_; refine gc_seq ?_; refine gc_region ?_; refine gM rfl rfl (by conv => (lhs; whnf)) ?_; refine gC rfl rfl rfl rfl rfl ?_; refine gM rfl rfl (by conv => (lhs; whnf)) ?_; refine gF rfl rfl rfl ?_; apply gw_d; exact w_load_part rfl rfl rfl (.there .here) rfl rfl)
        focus (apply gw_d; exact w_call rfl rfl (hCk _) rfl; refine gC rfl rfl rfl rfl rfl ?_; apply gw_d; exact det_pick_f (v := .bool _) rfl rfl rfl rfl; refine gO ?_)
        refine gc_if_false rfl ?_
        focus (refine gc_skip ?_; refine gx_next ?_; refine gc_seq ?_; refine gc_region ?_; apply gw_d; exact w_load_boxN rfl rfl rfl (.there .here) rfl; refine gF rfl rfl rfl ?_; apply gw_d; exact w_load_box rfl rfl rfl .here rfl; refine gF rfl rfl rfl ?_; apply gw_d; exact w_load_box rfl rfl rfl .here rfl; apply gw_d; exact w_call rfl rfl (hPx _) rfl; refine gM rfl rfl (by conv => (lhs; whnf)) ?_; apply gw_d; exact det_extract rfl rfl rfl (by conv => (lhs; whnf)); apply gw_d; exact det_extract rfl rfl rfl (by conv => (lhs; whnf)); apply gw_d; exact det_extract rfl rfl rfl (by conv => (lhs; whnf)); refine gM rfl rfl (by conv => (lhs; whnf)) ?_; refine gM rfl rfl (by conv => (lhs; whnf)) ?_; refine gM rfl rfl (by conv => (lhs; whnf)) ?_; refine gO ?_; refine gc_seq ?_; refine gc_seq ?_; refine gc_region ?_; refine gM rfl rfl (by conv => (lhs; whnf)) ?_; apply gw_d; exact det_not_ rfl rfl rfl; refine gM rfl rfl (by conv => (lhs; whnf)) ?_; refine gM rfl rfl (by conv => (lhs; whnf)) ?_; refine gC rfl rfl rfl rfl rfl ?_; apply gw_d; exact det_pick_f (v := .bool _) rfl rfl rfl rfl; refine gO ?_)
        focus (refine gc_if_dec rfl (fun _ => ?_) (fun _ => ?_); refine gc_seq ?_; refine gc_region ?_; refine gM rfl rfl (by conv => (lhs; whnf)) ?_; refine gO ?_; refine gc_ret ?_; refine gx_then_ret ?_; rotate_left; refine gc_skip ?_; refine gx_next ?_; refine gc_seq ?_; refine gc_region ?_; refine gM rfl rfl (by conv => (lhs; whnf)) ?_; refine gO ?_; refine gc_seq ?_; refine gc_seq ?_; refine gc_region ?_; refine gM rfl rfl (by conv => (lhs; whnf)) ?_; refine gO ?_; refine gc_block ?_; rotate_left)
        all_goals first | (exfalso; omega) | skip
        have hFi2 : ∀ (L : List Res) (w' : World), St w L w' → Ok Tryz.prog 32 [.agg #[v0, v1, v2, v3, v4, v5, v6, vb, vw, .slice (some ad) c.xs.length cx, .int .i64 c.r, .int .i64 c.le], .int .i64 y.tick].toArray w' fun y2 _ => y2 = .int .i64 bn.fr := fun L w' s' => by
          have := hFi L w' s'
          rw [hfr] at this
          exact this
        have hb1 := hbi.1
        have hb2 := hbi.2
        unfold inI64 at hb1 hb2
        refine gc_own0 76 3 ?_
        refine gc_loop1 (σ := Nat × Option Addr × Nat) [86, 87, 88, 91, 92, 93, 94, 95, 96, 97, 98, 99, 100, 101, 102, 103, 104, 11, 89, 90, 12] (fun q => [(12, .int .i64 q.1), (11, .slice q.2.1 q.1 q.2.2)]) (fun q => Own q.2.1 q.1 q.2.2 76 3 ((allP y.tick bn.fr y.op q.1).flatMap encR)) (fun q => q.1 ≤ n) (fun q => n - q.1) (0, none, 0) (Nat.zero_le _) ⟨rfl, rfl, trivial⟩ rfl ?_
        rintro ⟨k, A, ca⟩ base hk
        dsimp only at hk ⊢
        focus (refine gc_seq ?_; refine gc_seq ?_; refine gc_region ?_; refine gM rfl rfl (by conv => (lhs; whnf)) ?_; refine gM rfl rfl (by conv => (lhs; whnf)) ?_; refine gC rfl rfl rfl rfl rfl ?_; refine gO ?_)
        refine gc_if_dec rfl (fun h => ?_) (fun h => ?_)
        · have hkn : k < n := by omega
          have hsu := allP_succ y.tick bn.fr y.op k
          focus (refine gc_skip ?_; refine gx_next ?_; refine gc_seq ?_; refine gc_block ?_)
          generalize hLr : [Box bY 51 #[.int .i64 y.tick, .int .i64 y.op, .int .i64 y.who, .int .i64 y.time], Box bS 66 #[v0, v1, v2, v3, v4, v5, v6, vb, vw, .slice (some ad) c.xs.length cx, .int .i64 c.r, .int .i64 c.le]] = Lr
          obtain ⟨Ly, hpY⟩ : ∃ Ly, Pick Lr (Box bY 51 #[.int .i64 y.tick, .int .i64 y.op, .int .i64 y.who, .int .i64 y.time]) Ly := by rw [← hLr]; exact ⟨_, .here⟩
          obtain ⟨Ls, hpS⟩ : ∃ Ls, Pick Lr (Box bS 66 #[v0, v1, v2, v3, v4, v5, v6, vb, vw, .slice (some ad) c.xs.length cx, .int .i64 c.r, .int .i64 c.le]) Ls := by rw [← hLr]; exact ⟨_, .there .here⟩
          refine gc_blockJ (P := Tryz.prog) (Nat × Option Addr × Nat) 14 (fun i => ([[], [], [1], [], [], [4], [3, 4, 5], [], [3, 4, 5, 6, 7], [], [9], [1, 2, 3, 4, 5, 6, 7, 8, 9, 10], [1, 2, 3, 4, 5, 6, 7, 8, 9, 10, 11], [0, 1, 2, 3, 4, 5, 6, 7, 8, 9, 10, 11, 12]] : List (List Nat)).getD i []) (fun i γ => match i with
            | 0 => .slice A k ca
            | 1 => .pointer (some ((⟨bY, 0, none⟩ : Addr).add 0))
            | 2 => .int .i64 y.tick
            | 3 => .agg #[v0, v1, v2, v3, v4, v5, v6, vb, vw, .slice (some ad) c.xs.length cx, .int .i64 c.r, .int .i64 c.le]
            | 4 => .pointer (some ((⟨bY, 0, none⟩ : Addr).add 0))
            | 5 => .int .i64 y.tick
            | 6 => .int .i64 bn.fr
            | 7 => .int .i64 k
            | 8 => .int .i64 (bn.fr + (k : Int))
            | 9 => .pointer (some ((⟨bY, 0, none⟩ : Addr).add 1))
            | 10 => .int .i64 y.op
            | 11 => .agg #[.int .i64 y.tick, .int .i64 (bn.fr + (k : Int)), .int .i64 y.op]
            | 12 => .slice (some ⟨(γ 12).1, 0, none⟩) 1 1
            | 13 => .slice (γ 13).2.1 (k + 1) (γ 13).2.2
            | _ => undef) (fun ls β w' => St w ((if ls 13 = true then Own (β 13).2.1 (k + 1) (β 13).2.2 76 3 ((allP y.tick bn.fr y.op k).flatMap encR ++ encR ⟨y.tick, bn.fr + (k : Int), y.op⟩) else Own A k ca 76 3 ((allP y.tick bn.fr y.op k).flatMap encR)) :: ((if ls 12 = true then [Box (β 12).1 76 #[.int .i64 y.tick, .int .i64 (bn.fr + (k : Int)), .int .i64 y.op]] else []) ++ Lr)) w') rfl (by kernel_rfl) (fun w' s => s) ?_ ?_
          · intro i o2 ls β w' hi hik hls hpl hJ
            have hS0 : St w Lr w' := by
              have := hJ.drop
              exact this.sublist (List.sublist_append_right _ _)
            obtain rfl | rfl | rfl | rfl | rfl | rfl | rfl | rfl | rfl | rfl | rfl | rfl | rfl | rfl : i = 0 ∨ i = 1 ∨ i = 2 ∨ i = 3 ∨ i = 4 ∨ i = 5 ∨ i = 6 ∨ i = 7 ∨ i = 8 ∨ i = 9 ∨ i = 10 ∨ i = 11 ∨ i = 12 ∨ i = 13 := by omega
            · cases hi
              exact detG (det_m (v := .slice A k ca) rfl rfl rfl) rfl hS0 (fun w2 hx => ⟨default, rfl, St.ext hJ hx⟩)
            · cases hi
              exact detG (w_field rfl rfl rfl) rfl hS0 (fun w2 hx => ⟨default, rfl, St.ext hJ hx⟩)
            · cases hi
              exact detG (w_load_box rfl rfl rfl hpY rfl) rfl hS0 (fun w2 hx => ⟨default, rfl, St.ext hJ hx⟩)
            · cases hi
              exact detG (w_load_boxN rfl rfl rfl hpS rfl) rfl hS0 (fun w2 hx => ⟨default, rfl, St.ext hJ hx⟩)
            · cases hi
              exact detG (w_field rfl rfl rfl) rfl hS0 (fun w2 hx => ⟨default, rfl, St.ext hJ hx⟩)
            · cases hi
              exact detG (w_load_box rfl rfl rfl hpY rfl) rfl hS0 (fun w2 hx => ⟨default, rfl, St.ext hJ hx⟩)
            · cases hi
              exact detG (w_call rfl rfl (hFi2 _) rfl) rfl hS0 (fun w2 hx => ⟨default, rfl, St.ext hJ hx⟩)
            · cases hi
              exact detG (det_m (v := .int .i64 (k : Int)) rfl rfl rfl) rfl hS0 (fun w2 hx => ⟨default, rfl, St.ext hJ hx⟩)
            · cases hi
              exact detG (det_ar (r := bn.fr + (k : Int)) rfl rfl rfl rfl rfl (by omega)) rfl hS0 (fun w2 hx => ⟨default, rfl, St.ext hJ hx⟩)
            · cases hi
              exact detG (w_field rfl rfl rfl) rfl hS0 (fun w2 hx => ⟨default, rfl, St.ext hJ hx⟩)
            · cases hi
              exact detG (w_load_box rfl rfl rfl hpY rfl) rfl hS0 (fun w2 hx => ⟨default, rfl, St.ext hJ hx⟩)
            · cases hi
              exact detG (w_buildP [(0, .int .i64 y.tick), (1, .int .i64 (bn.fr + (k : Int))), (2, .int .i64 y.op)] (cells := #[.int .i64 y.tick, .int .i64 (bn.fr + (k : Int)), .int .i64 y.op]) (by rfl) rfl rfl rfl) rfl hS0 (fun w2 hx => ⟨default, rfl, St.ext hJ hx⟩)
            · cases hi
              rw [hls] at hJ
              refine ⟨rfl, (stepG_bslice1 (v := .agg #[.int .i64 y.tick, .int .i64 (bn.fr + (k : Int)), .int .i64 y.op]) rfl rfl rfl rfl hJ).mono fun u w2 hu => ?_⟩
              obtain ⟨b, hu, s2⟩ := hu
              exact ⟨(b, none, 0), hu, St.sub (.cons (.there .here) (.cons .here (Sub.all _))) s2⟩
            · cases hi
              have h12 : ls 12 = true := hpl 12 (by decide)
              rw [hls, h12] at hJ
              refine ⟨rfl, (stepG_append (sz := 3) (z := .agg #[.int .i64 0, .int .i64 0, .int .i64 0]) (n := k) (m := 1) (xs := (allP y.tick bn.fr y.op k).flatMap encR) (news := encR ⟨y.tick, bn.fr + (k : Int), y.op⟩) rfl rfl .here rfl (fun w3 s3 _ => ?_) (fun u hu => ?_) (by unfold maxLen; omega) (by omega) (by decide) rfl hJ).mono fun u w2 hu => ?_⟩
              · refine ⟨⟨(β 12).1, 0, none⟩, rfl, fun i u hu => ?_⟩
                rw [add_zero]
                refine (Box.cell s3.drop.head i).trans ?_
                change (#[Value.int .i64 y.tick, .int .i64 (bn.fr + (k : Int)), .int .i64 y.op] : Array Value)[i]? = some u
                rw [List.getElem?_toArray]
                exact hu
              · unfold encR at hu
                simp only [List.mem_cons, List.not_mem_nil, or_false] at hu
                rcases hu with rfl | rfl | rfl <;> rfl
              · obtain ⟨A', c', hu, s2⟩ := hu
                refine ⟨(0, A', c'), hu, ?_⟩
                show St w (Own A' (k + 1) c' 76 3 ((allP y.tick bn.fr y.op k).flatMap encR ++ encR ⟨y.tick, bn.fr + (k : Int), y.op⟩) :: ((if ls 12 = true then [Box (β 12).1 76 #[.int .i64 y.tick, .int .i64 (bn.fr + (k : Int)), .int .i64 y.op]] else []) ++ Lr)) w2
                rw [h12]
                exact s2
          · intro ls β w' hall2 hJ
            rw [hall2 12 (by decide), hall2 13 (by decide)] at hJ
            subst hLr
            have hJ2 : St w (Own (β 13).2.1 (k + 1) (β 13).2.2 76 3 ((allP y.tick bn.fr y.op k).flatMap encR ++ encR ⟨y.tick, bn.fr + (k : Int), y.op⟩) :: Box (β 12).1 76 #[.int .i64 y.tick, .int .i64 (bn.fr + (k : Int)), .int .i64 y.op] :: [Box bY 51 #[.int .i64 y.tick, .int .i64 y.op, .int .i64 y.who, .int .i64 y.time], Box bS 66 #[v0, v1, v2, v3, v4, v5, v6, vb, vw, .slice (some ad) c.xs.length cx, .int .i64 c.r, .int .i64 c.le]]) w' := hJ
            refine GW.h (P := Tryz.prog) ?_ w' hJ2
            focus (refine gM rfl rfl (by conv => (lhs; whnf)) ?_; refine gw_nil ?_; refine gx_block ?_; refine gx_next ?_; refine gc_region ?_; refine gM rfl rfl (by conv => (lhs; whnf)) ?_; apply gw_d; exact det_ar rfl rfl rfl rfl rfl (by omega); refine gM rfl rfl (by conv => (lhs; whnf)) ?_; refine gw_nil ?_)
            refine gx_round (k + 1, (β 13).2.1, (β 13).2.2) (by dsimp only; omega) (by dsimp only; omega) (by repeat (first | exact Keeps.refl | refine Keeps.upd rfl ?_ | refine Keeps.sets rfl ?_ | refine Keeps.havoc rfl ?_)) ⟨rfl, rfl, trivial⟩ ?_
            dsimp only
            rw [hsu, List.flatMap_append]
            simp only [List.flatMap_cons, List.flatMap_nil, List.append_nil]
            exact .cons .here (.cons (.there .here) (.cons (.there .here) .nil))
        obtain rfl : k = n := by omega
        focus (refine gc_exit ?_; refine gx_then_exit ?_; refine gx_then_exit ?_; refine gx_block_exit ?_; refine gx_next ?_; refine gc_seq ?_; refine gc_region ?_; apply gw_d; exact w_load_boxN rfl rfl rfl (.there (.there .here)) rfl; refine gM rfl rfl (by conv => (lhs; whnf)) ?_)
        refine gw_callm rfl (fun w' s' => hC1 _ _ w' A ca .here s') rfl (fun x => ?_)
        obtain ⟨⟨B1, d1⟩, o1⟩ := x
        focus (refine gM rfl rfl (by conv => (lhs; whnf)) ?_; apply gw_d; exact det_extract rfl rfl rfl (by conv => (lhs; whnf)); apply gw_d; exact det_extract rfl rfl rfl (by conv => (lhs; whnf)); apply gw_d; exact det_extract rfl rfl rfl (by conv => (lhs; whnf)); refine gM rfl rfl (by conv => (lhs; whnf)) ?_; refine gM rfl rfl (by conv => (lhs; whnf)) ?_; refine gM rfl rfl (by conv => (lhs; whnf)) ?_; refine gN ?_; refine gF rfl rfl rfl ?_; apply gw_d; exact w_load_part rfl rfl rfl (.there (.there (.there (.there .here)))) rfl rfl; refine gM rfl rfl (by conv => (lhs; whnf)) ?_; refine gM rfl rfl (by conv => (lhs; whnf)) ?_; apply gw_d; exact w_call rfl rfl (hAm _) rfl; refine gM rfl rfl (by conv => (lhs; whnf)) ?_; apply gw_d; exact det_extract rfl rfl rfl (by conv => (lhs; whnf)); apply gw_d; exact det_extract rfl rfl rfl (by conv => (lhs; whnf)); refine gM rfl rfl (by conv => (lhs; whnf)) ?_; refine gM rfl rfl (by conv => (lhs; whnf)) ?_; refine gN ?_; refine gM rfl rfl (by conv => (lhs; whnf)) ?_; refine gO ?_; refine gc_seq ?_; refine gc_seq ?_; refine gc_region ?_; refine gM rfl rfl (by conv => (lhs; whnf)) ?_; refine gO ?_; refine gc_block ?_)
        refine gc_loopK (σ := Nat) [120, 121, 122, 123, 126, 127, 128, 129, 130, 131, 132, 4, 133, 134, 135, 136, 137, 138, 139, 18, 124, 125, 19] (fun i => [(19, .int .i64 i), (18, .int .i64 (sumA (ch.take i)))]) (fun i => i ≤ ch.length) (fun i => ch.length - i) 0 (Nat.zero_le _) ⟨rfl, rfl, trivial⟩ ?_
        rintro i base2 hi
        have hsr := sumA_range hcr i hi
        focus (refine gc_seq ?_; refine gc_seq ?_; refine gc_region ?_; refine gM rfl rfl (by conv => (lhs; whnf)) ?_; refine gM rfl rfl (by conv => (lhs; whnf)) ?_; refine gL rfl rfl rfl ?_; refine gC rfl rfl rfl rfl rfl ?_; refine gO ?_)
        refine gc_if_dec rfl (fun h2 => ?_) (fun h2 => ?_)
        · have hil : i < ch.length := by omega
          have hci := flat_at hec hil
          have hc0 := hci 0 _ rfl
          have hc4 := hci 4 _ rfl
          have har := hcr ch[i] (List.getElem_mem hil)
          have hst : sumA (ch.take (i + 1)) = sumA (ch.take i) + ch[i].amt := by rw [List.take_succ_eq_append_getElem hil, sumA_snoc]
          rw [hchw ch[i] (List.getElem_mem hil)] at hc0
          focus (refine gc_skip ?_; refine gx_next ?_; refine gc_seq ?_; refine gc_block ?_; refine gc_seq ?_; refine gc_seq ?_; refine gc_region ?_; refine gM rfl rfl (by conv => (lhs; whnf)) ?_; refine gM rfl rfl (by conv => (lhs; whnf)) ?_; apply gw_d; exact w_indexO (m := i) rfl rfl rfl rfl rfl hil .here; refine gF rfl rfl rfl ?_; apply gw_d; exact w_loadOF rfl rfl rfl .here (by omega) hc0; refine gM rfl rfl (by conv => (lhs; whnf)) ?_; refine gC rfl rfl rfl rfl rfl ?_; refine gO ?_)
          refine gc_if_dec rfl (fun h3 => absurd rfl h3) (fun _ => ?_)
          focus (refine gc_skip ?_; refine gx_next ?_; refine gc_region ?_; refine gM rfl rfl (by conv => (lhs; whnf)) ?_; refine gM rfl rfl (by conv => (lhs; whnf)) ?_; refine gM rfl rfl (by conv => (lhs; whnf)) ?_; apply gw_d; exact w_indexO (m := i) rfl rfl rfl rfl rfl hil .here; refine gF rfl rfl rfl ?_; apply gw_d; exact w_loadOF rfl rfl rfl .here (by omega) hc4; apply gw_d; exact det_ar rfl rfl rfl rfl rfl (by omega); refine gM rfl rfl (by conv => (lhs; whnf)) ?_; refine gw_nil ?_; refine gx_block ?_; refine gx_next ?_; refine gc_region ?_; refine gM rfl rfl (by conv => (lhs; whnf)) ?_; apply gw_d; exact det_ar rfl rfl rfl rfl rfl (by omega); refine gM rfl rfl (by conv => (lhs; whnf)) ?_; refine gw_nil ?_)
          exact gx_round (i + 1) hil (by omega) (by repeat (first | exact Keeps.refl | refine Keeps.upd rfl ?_ | refine Keeps.sets rfl ?_ | refine Keeps.havoc rfl ?_)) ⟨rfl, by rw [hst]; rfl, trivial⟩ (Sub.all _)
        · obtain rfl : i = ch.length := by omega
          rw [List.take_length, hsum]
          focus (refine gc_exit ?_; refine gx_then_exit ?_; refine gx_then_exit ?_; refine gx_block_exit ?_; refine gx_next ?_; refine gc_seq ?_; refine gc_region ?_; refine gM rfl rfl (by conv => (lhs; whnf)) ?_; refine gC rfl rfl rfl rfl rfl ?_; refine gM rfl rfl (by conv => (lhs; whnf)) ?_; refine gM rfl rfl (by conv => (lhs; whnf)) ?_; refine gC rfl rfl rfl rfl rfl ?_; apply gw_d; exact det_pick_t (v := .bool _) rfl rfl rfl rfl; refine gM rfl rfl (by conv => (lhs; whnf)) ?_; refine gM rfl rfl (by conv => (lhs; whnf)) ?_; refine gL rfl rfl rfl ?_; refine gM rfl rfl (by conv => (lhs; whnf)) ?_; refine gC rfl rfl rfl rfl rfl ?_; apply gw_d; exact det_pick_t (v := .bool _) rfl rfl rfl rfl; refine gM rfl rfl (by conv => (lhs; whnf)) ?_; refine gw_guard_dec rfl rfl (fun _ => ?_) (fun _ => ?_); refine gM rfl rfl (by conv => (lhs; whnf)) ?_; refine gM rfl rfl (by conv => (lhs; whnf)) ?_; refine gC rfl rfl rfl rfl rfl ?_; apply gw_d; exact det_pick_t (v := .bool _) rfl rfl rfl rfl; refine gM rfl rfl (by conv => (lhs; whnf)) ?_; refine gw_guard_dec rfl rfl (fun _ => ?_) (fun _ => ?_); apply gw_d; exact w_call rfl rfl (hA _) rfl; apply gw_d; exact det_pick_t (v := .bool _) rfl rfl rfl rfl; refine gM rfl rfl (by conv => (lhs; whnf)) ?_; refine gO ?_; refine gc_ret ?_; rotate_left; refine gU rfl ?_; apply gw_d; exact det_pick_f (v := .bool _) rfl rfl rfl rfl; refine gM rfl rfl (by conv => (lhs; whnf)) ?_; refine gO ?_; refine gc_ret ?_; rotate_left; refine gU rfl ?_; refine gU rfl ?_; refine gU rfl ?_; apply gw_d; exact det_pick_f (v := .bool _) rfl rfl rfl rfl; refine gM rfl rfl (by conv => (lhs; whnf)) ?_; refine gU rfl ?_; apply gw_d; exact det_pick_f (v := .bool _) rfl rfl rfl rfl; refine gM rfl rfl (by conv => (lhs; whnf)) ?_; refine gO ?_; refine gc_ret ?_; rotate_left)
          all_goals first | (exfalso; omega) | (exfalso; rename_i hne; exact hne rfl) | skip
          all_goals (refine gx_ret1 (v := .bool _) rfl rfl (fun _ _ => ?_); rfl)
      · rw [hE] at hT
        rw [ht] at hCk
        refine gc_draw 22 (by kernel_rfl) (by kernel_rfl) ?_
        focus (apply gd_d; exact w_field rfl rfl rfl; apply gd_d; exact w_load_part rfl rfl rfl (.there .here) rfl rfl; apply gd_d; exact w_field rfl rfl rfl; apply gd_d; exact w_load_box rfl rfl rfl (.there .here) rfl; apply gd_d; exact w_field rfl rfl rfl; apply gd_d; exact w_load_box rfl rfl rfl (.there .here) rfl; apply gd_d; exact w_field rfl rfl rfl; apply gd_d; exact w_load_box rfl rfl rfl (.there .here) rfl; apply gd_d; exact w_field rfl rfl rfl; apply gd_d; exact w_load_box rfl rfl rfl .here rfl; apply gd_d; exact w_load_boxN rfl rfl rfl (.there .here) rfl; apply gd_d; exact w_field rfl rfl rfl; apply gd_d; exact w_load_box rfl rfl rfl .here rfl; apply gd_d; exact w_call rfl rfl (hFi _) rfl; apply gd_d; exact w_field rfl rfl rfl; apply gd_d; exact w_load_box rfl rfl rfl .here rfl; apply gd_d; exact w_buildP [(0, .int .i64 y.tick), (1, .int .i64 (frAt c.bs y.tick)), (2, .int .i64 y.op)] (cells := #[.int .i64 y.tick, .int .i64 (frAt c.bs y.tick), .int .i64 y.op]) (by kernel_rfl) rfl rfl rfl; apply gd_d; exact w_call rfl rfl (hT _) rfl; apply gd_d; exact det_m rfl rfl (by conv => (lhs; whnf)); apply gd_d; exact det_extract rfl rfl rfl (by conv => (lhs; whnf)); apply gd_d; exact det_extract rfl rfl rfl (by conv => (lhs; whnf)); apply gd_d; exact det_m rfl rfl (by conv => (lhs; whnf)); refine gd_nil ?_; refine gM rfl rfl (by conv => (lhs; whnf)) ?_; refine gO ?_; refine gc_seq ?_; refine gc_seq ?_; refine gc_region ?_; refine gM rfl rfl (by conv => (lhs; whnf)) ?_; refine gC rfl rfl rfl rfl rfl ?_; refine gM rfl rfl (by conv => (lhs; whnf)) ?_; refine gF rfl rfl rfl ?_; apply gw_d; exact w_load_part rfl rfl rfl (.there .here) rfl rfl)
        focus (apply gw_d; exact w_call rfl rfl (hCk _) rfl; refine gC rfl rfl rfl rfl rfl ?_; apply gw_d; exact det_pick_f (v := .bool _) rfl rfl rfl rfl; refine gO ?_)
        refine gc_if_true rfl ?_
        focus (refine gc_seq ?_; refine gc_region ?_; apply gw_d; exact w_call rfl rfl (hA _) rfl; refine gM rfl rfl (by conv => (lhs; whnf)) ?_; refine gO ?_; refine gc_ret ?_; refine gx_then_ret ?_)
        refine gx_ret1 (v := .bool _) rfl rfl (fun _ _ => ?_)
        rfl
    · generalize trE c.sty.ops.length c.bs (paidL c.sty.ops c.ws (ticks c.bs) c.xs) ⟨y.tick, frAt c.bs y.tick, y.op⟩ = er at hE hT
      refine gc_draw 22 (by kernel_rfl) (by kernel_rfl) ?_
      focus (apply gd_d; exact w_field rfl rfl rfl; apply gd_d; exact w_load_part rfl rfl rfl (.there .here) rfl rfl; apply gd_d; exact w_field rfl rfl rfl; apply gd_d; exact w_load_box rfl rfl rfl (.there .here) rfl; apply gd_d; exact w_field rfl rfl rfl; apply gd_d; exact w_load_box rfl rfl rfl (.there .here) rfl; apply gd_d; exact w_field rfl rfl rfl; apply gd_d; exact w_load_box rfl rfl rfl (.there .here) rfl; apply gd_d; exact w_field rfl rfl rfl; apply gd_d; exact w_load_box rfl rfl rfl .here rfl; apply gd_d; exact w_load_boxN rfl rfl rfl (.there .here) rfl; apply gd_d; exact w_field rfl rfl rfl; apply gd_d; exact w_load_box rfl rfl rfl .here rfl; apply gd_d; exact w_call rfl rfl (hFi _) rfl; apply gd_d; exact w_field rfl rfl rfl; apply gd_d; exact w_load_box rfl rfl rfl .here rfl; apply gd_d; exact w_buildP [(0, .int .i64 y.tick), (1, .int .i64 (frAt c.bs y.tick)), (2, .int .i64 y.op)] (cells := #[.int .i64 y.tick, .int .i64 (frAt c.bs y.tick), .int .i64 y.op]) (by kernel_rfl) rfl rfl rfl; apply gd_d; exact w_call rfl rfl (hT _) rfl; apply gd_d; exact det_m rfl rfl (by conv => (lhs; whnf)); apply gd_d; exact det_extract rfl rfl rfl (by conv => (lhs; whnf)); apply gd_d; exact det_extract rfl rfl rfl (by conv => (lhs; whnf)); apply gd_d; exact det_m rfl rfl (by conv => (lhs; whnf)); refine gd_nil ?_; refine gM rfl rfl (by conv => (lhs; whnf)) ?_; refine gO ?_; refine gc_seq ?_; refine gc_seq ?_; refine gc_region ?_; refine gM rfl rfl (by conv => (lhs; whnf)) ?_; refine gC rfl rfl rfl rfl rfl ?_; refine gM rfl rfl (by conv => (lhs; whnf)) ?_)
      focus (refine gw_guard_dec rfl rfl (fun _ => ?_) (fun _ => ?_); refine gU rfl ?_; refine gU rfl ?_; refine gU rfl ?_; refine gU rfl ?_; apply gw_d; exact det_pick_t (v := .bool _) rfl rfl rfl rfl; refine gO ?_; refine gc_if_true rfl ?_; refine gc_seq ?_; refine gc_region ?_; apply gw_d; exact w_call rfl rfl (hA _) rfl; refine gM rfl rfl (by conv => (lhs; whnf)) ?_; refine gO ?_; refine gc_ret ?_; refine gx_then_ret ?_; rotate_left; refine gF rfl rfl rfl ?_; apply gw_d; exact w_load_part rfl rfl rfl (.there .here) rfl rfl; apply gw_d; exact w_call rfl rfl (hCk _) rfl; refine gC rfl rfl rfl rfl rfl ?_; apply gw_d; exact det_pick_f (v := .bool _) rfl rfl rfl rfl; refine gO ?_; refine gc_if_dec rfl (fun _ => ?_) (fun _ => ?_); refine gc_seq ?_; refine gc_region ?_; apply gw_d; exact w_call rfl rfl (hA _) rfl; refine gM rfl rfl (by conv => (lhs; whnf)) ?_; refine gO ?_; refine gc_ret ?_; refine gx_then_ret ?_; rotate_left; refine gc_skip ?_; refine gx_next ?_; refine gc_seq ?_; refine gc_region ?_; apply gw_d; exact w_load_boxN rfl rfl rfl (.there .here) rfl; refine gF rfl rfl rfl ?_; apply gw_d; exact w_load_box rfl rfl rfl .here rfl; refine gF rfl rfl rfl ?_; apply gw_d; exact w_load_box rfl rfl rfl .here rfl; rotate_left)
      all_goals first | (exfalso; omega) | skip
      all_goals (refine gx_ret1 (v := .bool _) rfl rfl (fun _ _ => ?_); rfl)
  · have hT := fun (L : List Res) (w' : World) (s' : St w L w') => Trace_bad ⟨y.tick, frAt c.bs y.tick, y.op⟩ (StyV.later s' hs) (hb.later s') (hw.later s') (hx'.later s') hj
    generalize judgeAllE (opCheckE c.sty plE) c.bs c.ws c.xs.length = er at hj hT
    refine gc_draw 22 (by kernel_rfl) (by kernel_rfl) ?_
    focus (apply gd_d; exact w_field rfl rfl rfl; apply gd_d; exact w_load_part rfl rfl rfl (.there .here) rfl rfl; apply gd_d; exact w_field rfl rfl rfl; apply gd_d; exact w_load_box rfl rfl rfl (.there .here) rfl; apply gd_d; exact w_field rfl rfl rfl; apply gd_d; exact w_load_box rfl rfl rfl (.there .here) rfl; apply gd_d; exact w_field rfl rfl rfl; apply gd_d; exact w_load_box rfl rfl rfl (.there .here) rfl; apply gd_d; exact w_field rfl rfl rfl; apply gd_d; exact w_load_box rfl rfl rfl .here rfl; apply gd_d; exact w_load_boxN rfl rfl rfl (.there .here) rfl; apply gd_d; exact w_field rfl rfl rfl; apply gd_d; exact w_load_box rfl rfl rfl .here rfl; apply gd_d; exact w_call rfl rfl (hFi _) rfl; apply gd_d; exact w_field rfl rfl rfl; apply gd_d; exact w_load_box rfl rfl rfl .here rfl; apply gd_d; exact w_buildP [(0, .int .i64 y.tick), (1, .int .i64 (frAt c.bs y.tick)), (2, .int .i64 y.op)] (cells := #[.int .i64 y.tick, .int .i64 (frAt c.bs y.tick), .int .i64 y.op]) (by kernel_rfl) rfl rfl rfl; apply gd_d; exact w_call rfl rfl (hT _) rfl; apply gd_d; exact det_m rfl rfl (by conv => (lhs; whnf)); apply gd_d; exact det_extract rfl rfl rfl (by conv => (lhs; whnf)); apply gd_d; exact det_extract rfl rfl rfl (by conv => (lhs; whnf)); apply gd_d; exact det_m rfl rfl (by conv => (lhs; whnf)); refine gd_nil ?_; refine gM rfl rfl (by conv => (lhs; whnf)) ?_; refine gO ?_; refine gc_seq ?_; refine gc_seq ?_; refine gc_region ?_; refine gM rfl rfl (by conv => (lhs; whnf)) ?_; refine gC rfl rfl rfl rfl rfl ?_; refine gM rfl rfl (by conv => (lhs; whnf)) ?_)
    focus (refine gw_guard_dec rfl rfl (fun _ => ?_) (fun _ => ?_); refine gU rfl ?_; refine gU rfl ?_; refine gU rfl ?_; refine gU rfl ?_; apply gw_d; exact det_pick_t (v := .bool _) rfl rfl rfl rfl; refine gO ?_; refine gc_if_true rfl ?_; refine gc_seq ?_; refine gc_region ?_; apply gw_d; exact w_call rfl rfl (hA _) rfl; refine gM rfl rfl (by conv => (lhs; whnf)) ?_; refine gO ?_; refine gc_ret ?_; refine gx_then_ret ?_; rotate_left; refine gF rfl rfl rfl ?_; apply gw_d; exact w_load_part rfl rfl rfl (.there .here) rfl rfl; apply gw_d; exact w_call rfl rfl (hCk _) rfl; refine gC rfl rfl rfl rfl rfl ?_; apply gw_d; exact det_pick_f (v := .bool _) rfl rfl rfl rfl; refine gO ?_; refine gc_if_dec rfl (fun _ => ?_) (fun _ => ?_); refine gc_seq ?_; refine gc_region ?_; apply gw_d; exact w_call rfl rfl (hA _) rfl; refine gM rfl rfl (by conv => (lhs; whnf)) ?_; refine gO ?_; refine gc_ret ?_; refine gx_then_ret ?_; rotate_left; refine gc_skip ?_; refine gx_next ?_; refine gc_seq ?_; refine gc_region ?_; apply gw_d; exact w_load_boxN rfl rfl rfl (.there .here) rfl; refine gF rfl rfl rfl ?_; apply gw_d; exact w_load_box rfl rfl rfl .here rfl; refine gF rfl rfl rfl ?_; apply gw_d; exact w_load_box rfl rfl rfl .here rfl; rotate_left)
    all_goals first | (exfalso; omega) | skip
    all_goals (refine gx_ret1 (v := .bool _) rfl rfl (fun _ _ => ?_); rfl)
end Go.Proofs.YtljibjlkjelpbaaGreatDoor
