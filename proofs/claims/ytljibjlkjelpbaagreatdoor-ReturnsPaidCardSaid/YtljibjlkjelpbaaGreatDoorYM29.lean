/- The law ReturnsPaid: the walk. -/
import Derived.Test.YtljibjlkjelpbaaGreatDoorJW
namespace Go.Proofs.YtljibjlkjelpbaaGreatDoor
open Go.RowKit
set_option maxRecDepth 100000
set_option maxHeartbeats 4000000

theorem lawReturnsPaid_ok (w : World) (hL : Lay w) (v : Value) (c : Shp) (vl : Value) (l : List Ret) (hc : ShopV w v c) (hl : Sl rRet w w.heap.size vl l) : Ok Tryz.prog 14 [v, vl].toArray w fun r _ => r = .bool true := by
  have hc' := hc
  have hl' := hl
  obtain ⟨v0, v1, v2, v3, v4, v5, v6, vb, vw, vx, rfl, hs, hb, hw, hx⟩ := hc
  obtain ⟨Al, cl, rfl, hlc, hlm, _⟩ := hl.ret
  have hs2 := hs
  obtain ⟨S1, s1, S2, s2, S3, s3, S4, s4, S5, s5, S6, s6, he0, _⟩ := hs2
  simp only [Value.agg.injEq, Array.mk.injEq, List.cons.injEq, and_true] at he0
  obtain ⟨rfl, rfl, rfl, rfl, rfl, rfl, rfl⟩ := he0
  obtain ⟨Bb, bb1, rfl, _⟩ := len_small hb
  obtain ⟨Bw, bw1, rfl, _⟩ := len_small hw
  obtain ⟨Bx, bx1, rfl, _⟩ := len_small hx
  have hA : ∀ (L : List Res) (w' : World), St w L w' → Ok Tryz.prog 22 [].toArray w' fun r _ => r = .bool true := fun L w' s => alive_ok w' (hL.later s)
  have hF : ∀ (L : List Res) (w' : World), St w L w' → OkM Tryz.prog 26 [.agg #[.string c.sty.name, .slice S1 c.sty.sizes.length s1, .slice S2 c.sty.multiples.length s2, .slice S3 c.sty.pieces.length s3, .slice S4 c.sty.uses.length s4, .slice S5 c.sty.seams.length s5, .slice S6 c.sty.ops.length s6, .slice Bb c.bs.length bb1, .slice Bw c.ws.length bw1, .slice Bx c.xs.length bx1, .int .i64 c.r, .int .i64 c.le]].toArray w' (fun b : Bool => .bool b) (fun _ => []) := fun L w' s' => light58_ok w' _ c (hc'.later s')
  refine ok_enter Tryz.func14 rfl Tryz.ntmps14 rfl ?_
  focus (refine gc_seq ?_; refine gc_region ?_; refine gw_boxd (v := .agg _) rfl rfl (fun _ => ?_); refine gM rfl rfl (by conv => (lhs; whnf)) ?_; refine gO ?_; refine gc_seq ?_; refine gc_seq ?_; refine gc_region ?_; apply gw_d; exact w_load_boxN rfl rfl rfl .here rfl)
  refine gw_callm rfl (hF _) rfl (fun b => ?_)
  focus (apply gw_d; exact det_not_ rfl rfl rfl; refine gM rfl rfl (by conv => (lhs; whnf)) ?_; refine gw_guard rfl rfl (fun _ => ?_) (fun _ => ?_); refine gU rfl ?_; refine gU rfl ?_; refine gU rfl ?_; apply gw_d; exact det_pick_t (v := .bool _) rfl rfl rfl rfl; refine gO ?_; refine gc_if_true rfl ?_; refine gc_seq ?_; refine gc_region ?_; apply gw_d; exact w_call rfl rfl (hA _) rfl; refine gM rfl rfl (by conv => (lhs; whnf)) ?_; refine gO ?_; refine gc_ret ?_; refine gx_then_ret ?_; rotate_left; refine gM rfl rfl (by conv => (lhs; whnf)) ?_; refine gL rfl rfl rfl ?_; refine gC rfl rfl rfl rfl rfl ?_; apply gw_d; exact det_pick_f (v := .bool _) rfl rfl rfl rfl; refine gO ?_; refine gc_if_dec rfl (fun _ => ?_) (fun _ => ?_); refine gc_seq ?_; refine gc_region ?_; apply gw_d; exact w_call rfl rfl (hA _) rfl; refine gM rfl rfl (by conv => (lhs; whnf)) ?_; refine gO ?_; refine gc_ret ?_; refine gx_then_ret ?_; rotate_left; refine gc_skip ?_; refine gx_next ?_; refine gc_seq ?_; refine gc_region ?_; refine gF rfl rfl rfl ?_; apply gw_d; exact w_load_part rfl rfl rfl .here rfl rfl; refine gF rfl rfl rfl ?_; apply gw_d; exact w_load_box rfl rfl rfl .here rfl; refine gF rfl rfl rfl ?_; apply gw_d; exact w_load_box rfl rfl rfl .here rfl; refine gF rfl rfl rfl ?_; apply gw_d; exact w_load_box rfl rfl rfl .here rfl; rotate_left)
  all_goals first | (refine gx_ret1 (v := .bool _) rfl rfl (fun _ _ => ?_); rfl) | skip
  have h40 : l.length ≤ 300 := by omega
  by_cases hj : judgeAllE (opCheckE c.sty plE) c.bs c.ws c.xs.length = 0
  · have hD : ∀ (L : List Res) (w' : World), St w L w' → OkM Tryz.prog 20 [.agg #[.string c.sty.name, .slice S1 c.sty.sizes.length s1, .slice S2 c.sty.multiples.length s2, .slice S3 c.sty.pieces.length s3, .slice S4 c.sty.uses.length s4, .slice S5 c.sty.seams.length s5, .slice S6 c.sty.ops.length s6], .slice Bb c.bs.length bb1, .slice Bw c.ws.length bw1, .slice Bx c.xs.length bx1].toArray w' (fun x : Option Addr × Nat => .tuple #[.slice x.1 (paidL c.sty.ops c.ws (ticks c.bs) c.xs).length x.2, .int .i64 0]) (fun x => [Own x.1 (paidL c.sty.ops c.ws (ticks c.bs) c.xs).length x.2 51 4 ((paidL c.sty.ops c.ws (ticks c.bs) c.xs).flatMap encX)]) := fun L w' s' => cPaid_ok (StyV.later s' hs) (hb.later s') (hw.later s') (hx.later s') hj
    obtain ⟨hOk, hx300⟩ := judge_zero hj
    have hpl := paidL_len c.sty.ops c.ws (ticks c.bs) c.xs
    have hj2 : judgeAllE (opCheckE c.sty plE) c.bs c.ws (paidL c.sty.ops c.ws (ticks c.bs) c.xs).length = 0 := judge_fewer hj (by omega)
    have hx2 : ∀ (L L' : List Res) (w' : World) (A : Option Addr) (k : Nat), Pick L (Own A (paidL c.sty.ops c.ws (ticks c.bs) c.xs).length k 51 4 ((paidL c.sty.ops c.ws (ticks c.bs) c.xs).flatMap encX)) L' → St w L w' → Sl rScn w' w'.heap.size (.slice A (paidL c.sty.ops c.ws (ticks c.bs) c.xs).length k) (paidL c.sty.ops c.ws (ticks c.bs) c.xs) := fun L L' w' A k hp s' => Sl.own (R := rScn) (enc := encX) s' hp rfl (fun q hq => paid_rep hx (paid_mem hq))
    by_cases ht : tarE c.r c.le = 0
    · have hC1 := fun (L : List Res) (w' : World) (s' : St w L w') => charges_ok (r := c.r) (le := c.le) (hL.later s') (StyV.later s' hs) (hb.later s') (hw.later s') (hx.later s') (hl'.later s') (chgErr_mk h40 hj ht)
      have hC2 := fun (L L' : List Res) (w' : World) (A : Option Addr) (k : Nat) (hp : Pick L (Own A (paidL c.sty.ops c.ws (ticks c.bs) c.xs).length k 51 4 ((paidL c.sty.ops c.ws (ticks c.bs) c.xs).flatMap encX)) L') (s' : St w L w') => charges_ok (r := c.r) (le := c.le) (hL.later s') (StyV.later s' hs) (hb.later s') (hw.later s') (hx2 L L' w' A k hp s') (hl'.later s') (chgErr_mk h40 hj2 ht)
      simp only [paid_idem] at hC2
      have hrep : ∀ (w' : World), ∀ q ∈ chgL c.r c.le c.sty.ops c.bs (paidL c.sty.ops c.ws (ticks c.bs) c.xs) l, rChg.rep w' (fun b => b < w'.heap.size) q (encC q) := fun w' => chg_rep hOk.bundles hx hl'
      have hoi := outsR_in (ok := okR c.sty.ops.length c.bs (paidL c.sty.ops c.ws (ticks c.bs) c.xs)) (xs := l) (D := [])
      have hol := outsR_len (ok := okR c.sty.ops.length c.bs (paidL c.sty.ops c.ws (ticks c.bs) c.xs)) l []
      generalize outsR (okR c.sty.ops.length c.bs (paidL c.sty.ops c.ws (ticks c.bs) c.xs)) [] l = os at hC1 hC2 hoi hol
      generalize chgL c.r c.le c.sty.ops c.bs (paidL c.sty.ops c.ws (ticks c.bs) c.xs) l = ch at hC1 hC2 hrep
      generalize paidL c.sty.ops c.ws (ticks c.bs) c.xs = ps at hD hC2
      focus (skip)
      refine gw_callm rfl (hD _) rfl (fun x => ?_)
      obtain ⟨B, cb⟩ := x
      focus (refine gM rfl rfl (by conv => (lhs; whnf)) ?_; apply gw_d; exact det_extract rfl rfl rfl (by conv => (lhs; whnf)); apply gw_d; exact det_extract rfl rfl rfl (by conv => (lhs; whnf)); refine gM rfl rfl (by conv => (lhs; whnf)) ?_; refine gM rfl rfl (by conv => (lhs; whnf)) ?_; refine gO ?_; refine gc_seq ?_; refine gc_seq ?_; refine gc_region ?_; refine gM rfl rfl (by conv => (lhs; whnf)) ?_; refine gC rfl rfl rfl rfl rfl ?_; refine gO ?_)
      refine gc_if_dec rfl (fun h => absurd rfl h) (fun _ => ?_)
      focus (refine gc_skip ?_; refine gx_next ?_; refine gc_seq ?_; refine gc_region ?_; apply gw_d; exact w_load_boxN rfl rfl rfl (.there .here) rfl; refine gM rfl rfl (by conv => (lhs; whnf)) ?_)
      refine gw_callm rfl (hC1 _) rfl (fun x => ?_)
      obtain ⟨⟨A, ca⟩, bo⟩ := x
      focus (refine gM rfl rfl (by conv => (lhs; whnf)) ?_; apply gw_d; exact det_extract rfl rfl rfl (by conv => (lhs; whnf)); apply gw_d; exact det_extract rfl rfl rfl (by conv => (lhs; whnf)); apply gw_d; exact det_extract rfl rfl rfl (by conv => (lhs; whnf)); refine gM rfl rfl (by conv => (lhs; whnf)) ?_; refine gM rfl rfl (by conv => (lhs; whnf)) ?_; refine gM rfl rfl (by conv => (lhs; whnf)) ?_; refine gN ?_; apply gw_d; exact w_load_boxN rfl rfl rfl (.there (.there (.there .here))) rfl; refine w_alloc rfl (fun _ => ?_); refine w_store_all rfl rfl rfl rfl rfl .here rfl ?_; refine gN ?_; refine gM rfl rfl (by conv => (lhs; whnf)) ?_; refine gF rfl rfl rfl ?_; refine w_store rfl rfl rfl rfl rfl .here rfl rfl ?_; refine gN ?_; apply gw_d; exact w_load_boxN rfl rfl rfl .here rfl; refine gM rfl rfl (by conv => (lhs; whnf)) ?_)
      refine gw_callm rfl (fun w' s' => hC2 _ _ w' B cb (.there (.there (.there .here))) s') rfl (fun x => ?_)
      obtain ⟨⟨A2, ca2⟩, bo2⟩ := x
      refine gw_ent (Sub.ent (.cons .here (.cons .here (.cons (.there .here) (.cons (.there .here) .nil))))) ?_
      have hS1 : ∀ (L : List Res) (w' : World), St w (Own A2 ch.length ca2 74 5 (ch.flatMap encC) :: Box bo2 3 (os.map (Value.int .i64)).toArray :: Own A ch.length ca 74 5 (ch.flatMap encC) :: Box bo 3 (os.map (Value.int .i64)).toArray :: L) w' → Ok Tryz.prog 31 [.slice A ch.length ca, .slice A2 ch.length ca2].toArray w' fun r _ => r = .bool true := fun L w' s' => same_same s' (.there (.there .here)) .here rfl rfl rfl (hrep w')
      have hS2 : ∀ (L : List Res) (w' : World), St w (Own A2 ch.length ca2 74 5 (ch.flatMap encC) :: Box bo2 3 (os.map (Value.int .i64)).toArray :: Own A ch.length ca 74 5 (ch.flatMap encC) :: Box bo 3 (os.map (Value.int .i64)).toArray :: L) w' → Ok Tryz.prog 25 [.slice (some ⟨bo, 0, none⟩) l.length l.length, .slice (some ⟨bo2, 0, none⟩) l.length l.length].toArray w' fun r _ => r = .bool true := fun L w' s' => by
        have := sameInts_ok w' _ _ os os (Sl.boxI' s'.drop.drop.drop.head hol.symm (by omega) hoi) (Sl.boxI' s'.drop.head hol.symm (by omega) hoi)
        simpa using this
      focus (refine gM rfl rfl (by conv => (lhs; whnf)) ?_; apply gw_d; exact det_extract rfl rfl rfl (by conv => (lhs; whnf)); apply gw_d; exact det_extract rfl rfl rfl (by conv => (lhs; whnf)); apply gw_d; exact det_extract rfl rfl rfl (by conv => (lhs; whnf)); refine gM rfl rfl (by conv => (lhs; whnf)) ?_; refine gM rfl rfl (by conv => (lhs; whnf)) ?_; refine gM rfl rfl (by conv => (lhs; whnf)) ?_; refine gN ?_; refine gM rfl rfl (by conv => (lhs; whnf)) ?_; refine gM rfl rfl (by conv => (lhs; whnf)) ?_; refine gC rfl rfl rfl rfl rfl ?_; refine gM rfl rfl (by conv => (lhs; whnf)) ?_; refine gM rfl rfl (by conv => (lhs; whnf)) ?_; refine gM rfl rfl (by conv => (lhs; whnf)) ?_; apply gw_d; exact w_call rfl rfl (hS1 _) rfl; apply gw_d; exact det_pick_t (v := .bool _) rfl rfl rfl rfl; refine gM rfl rfl (by conv => (lhs; whnf)) ?_; refine gM rfl rfl (by conv => (lhs; whnf)) ?_; refine gM rfl rfl (by conv => (lhs; whnf)) ?_; apply gw_d; exact w_call rfl rfl (hS2 _) rfl; apply gw_d; exact det_pick_t (v := .bool _) rfl rfl rfl rfl; refine gM rfl rfl (by conv => (lhs; whnf)) ?_; apply gw_d; exact w_call rfl rfl (hA _) rfl; apply gw_d; exact det_pick_t (v := .bool _) rfl rfl rfl rfl; refine gM rfl rfl (by conv => (lhs; whnf)) ?_; refine gO ?_; refine gc_ret ?_)
      refine gx_ret1 (v := .bool _) rfl rfl (fun _ _ => ?_)
      rfl
    · have hE1 := chgErr_tar (r := c.r) (le := c.le) h40 hj
      have hE2 := chgErr_tar (r := c.r) (le := c.le) h40 hj2
      have hC1 := fun (L : List Res) (w' : World) (s' : St w L w') => charges_bad (r := c.r) (le := c.le) (hL.later s') (StyV.later s' hs) (hb.later s') (hw.later s') (hx.later s') (hl'.later s') (by rw [hE1]; exact ht)
      have hC2 := fun (L L' : List Res) (w' : World) (A : Option Addr) (k : Nat) (hp : Pick L (Own A (paidL c.sty.ops c.ws (ticks c.bs) c.xs).length k 51 4 ((paidL c.sty.ops c.ws (ticks c.bs) c.xs).flatMap encX)) L') (s' : St w L w') => charges_bad (r := c.r) (le := c.le) (hL.later s') (StyV.later s' hs) (hb.later s') (hw.later s') (hx2 L L' w' A k hp s') (hl'.later s') (by rw [hE2]; exact ht)
      rw [hE1] at hC1
      rw [hE2] at hC2
      generalize tarE c.r c.le = er at ht hC1 hC2
      generalize paidL c.sty.ops c.ws (ticks c.bs) c.xs = ps at hD hC2
      focus (skip)
      refine gw_callm rfl (hD _) rfl (fun x => ?_)
      obtain ⟨B, cb⟩ := x
      focus (refine gM rfl rfl (by conv => (lhs; whnf)) ?_; apply gw_d; exact det_extract rfl rfl rfl (by conv => (lhs; whnf)); apply gw_d; exact det_extract rfl rfl rfl (by conv => (lhs; whnf)); refine gM rfl rfl (by conv => (lhs; whnf)) ?_; refine gM rfl rfl (by conv => (lhs; whnf)) ?_; refine gO ?_; refine gc_seq ?_; refine gc_seq ?_; refine gc_region ?_; refine gM rfl rfl (by conv => (lhs; whnf)) ?_; refine gC rfl rfl rfl rfl rfl ?_; refine gO ?_)
      refine gc_if_dec rfl (fun h => absurd rfl h) (fun _ => ?_)
      focus (refine gc_skip ?_; refine gx_next ?_; refine gc_seq ?_; refine gc_region ?_; apply gw_d; exact w_load_boxN rfl rfl rfl (.there .here) rfl; refine gM rfl rfl (by conv => (lhs; whnf)) ?_; apply gw_d; exact w_call rfl rfl (hC1 _) rfl; refine gM rfl rfl (by conv => (lhs; whnf)) ?_; apply gw_d; exact det_extract rfl rfl rfl (by conv => (lhs; whnf)); apply gw_d; exact det_extract rfl rfl rfl (by conv => (lhs; whnf)); apply gw_d; exact det_extract rfl rfl rfl (by conv => (lhs; whnf)); refine gM rfl rfl (by conv => (lhs; whnf)) ?_; refine gM rfl rfl (by conv => (lhs; whnf)) ?_; refine gM rfl rfl (by conv => (lhs; whnf)) ?_; refine gN ?_; apply gw_d; exact w_load_boxN rfl rfl rfl (.there .here) rfl; refine w_alloc rfl (fun _ => ?_); refine w_store_all rfl rfl rfl rfl rfl .here rfl ?_; refine gN ?_; refine gM rfl rfl (by conv => (lhs; whnf)) ?_; refine gF rfl rfl rfl ?_; refine w_store rfl rfl rfl rfl rfl .here rfl rfl ?_; refine gN ?_; apply gw_d; exact w_load_boxN rfl rfl rfl .here rfl; refine gM rfl rfl (by conv => (lhs; whnf)) ?_)
      focus (apply gw_d; exact w_call rfl rfl (fun w' s' => hC2 _ _ w' B cb (.there .here) s') rfl; refine gM rfl rfl (by conv => (lhs; whnf)) ?_; apply gw_d; exact det_extract rfl rfl rfl (by conv => (lhs; whnf)); apply gw_d; exact det_extract rfl rfl rfl (by conv => (lhs; whnf)); apply gw_d; exact det_extract rfl rfl rfl (by conv => (lhs; whnf)); refine gM rfl rfl (by conv => (lhs; whnf)) ?_; refine gM rfl rfl (by conv => (lhs; whnf)) ?_; refine gM rfl rfl (by conv => (lhs; whnf)) ?_; refine gN ?_; refine gM rfl rfl (by conv => (lhs; whnf)) ?_; refine gM rfl rfl (by conv => (lhs; whnf)) ?_; refine gC rfl rfl rfl rfl rfl ?_; refine gM rfl rfl (by conv => (lhs; whnf)) ?_)
      focus (refine gw_guard_dec rfl rfl (fun _ => ?_) (fun _ => ?_); refine gM rfl rfl (by conv => (lhs; whnf)) ?_; refine gM rfl rfl (by conv => (lhs; whnf)) ?_; apply gw_d; exact w_call rfl rfl (fun w' s => same_nil w') rfl; apply gw_d; exact det_pick_t (v := .bool _) rfl rfl rfl rfl; refine gM rfl rfl (by conv => (lhs; whnf)) ?_; refine gM rfl rfl (by conv => (lhs; whnf)) ?_; refine gM rfl rfl (by conv => (lhs; whnf)) ?_; apply gw_d; exact w_call rfl rfl (fun w' s => sameI_nil w') rfl; apply gw_d; exact det_pick_t (v := .bool _) rfl rfl rfl rfl; refine gM rfl rfl (by conv => (lhs; whnf)) ?_; apply gw_d; exact w_call rfl rfl (hA _) rfl; apply gw_d; exact det_pick_t (v := .bool _) rfl rfl rfl rfl; refine gM rfl rfl (by conv => (lhs; whnf)) ?_; refine gO ?_; refine gc_ret ?_; rotate_left; refine gU rfl ?_; refine gU rfl ?_; refine gU rfl ?_; apply gw_d; exact det_pick_f (v := .bool _) rfl rfl rfl rfl; refine gM rfl rfl (by conv => (lhs; whnf)) ?_; refine gU rfl ?_; refine gU rfl ?_; refine gU rfl ?_; apply gw_d; exact det_pick_f (v := .bool _) rfl rfl rfl rfl; refine gM rfl rfl (by conv => (lhs; whnf)) ?_; refine gU rfl ?_; apply gw_d; exact det_pick_f (v := .bool _) rfl rfl rfl rfl; refine gM rfl rfl (by conv => (lhs; whnf)) ?_; refine gO ?_; refine gc_ret ?_; rotate_left)
      all_goals first | (exfalso; rename_i hne; exact hne rfl) | skip
      all_goals (refine gx_ret1 (v := .bool _) rfl rfl (fun _ _ => ?_); rfl)
  · have hD : ∀ (L : List Res) (w' : World), St w L w' → Ok Tryz.prog 20 [.agg #[.string c.sty.name, .slice S1 c.sty.sizes.length s1, .slice S2 c.sty.multiples.length s2, .slice S3 c.sty.pieces.length s3, .slice S4 c.sty.uses.length s4, .slice S5 c.sty.seams.length s5, .slice S6 c.sty.ops.length s6], .slice Bb c.bs.length bb1, .slice Bw c.ws.length bw1, .slice Bx c.xs.length bx1].toArray w' fun x _ => x = .tuple #[.slice none 0 0, .int .i64 (judgeAllE (opCheckE c.sty plE) c.bs c.ws c.xs.length)] := fun L w' s' => cPaid_bad (StyV.later s' hs) (hb.later s') (hw.later s') (hx.later s') hj
    focus (apply gw_d; exact w_call rfl rfl (hD _) rfl; refine gM rfl rfl (by conv => (lhs; whnf)) ?_; apply gw_d; exact det_extract rfl rfl rfl (by conv => (lhs; whnf)); apply gw_d; exact det_extract rfl rfl rfl (by conv => (lhs; whnf)); refine gM rfl rfl (by conv => (lhs; whnf)) ?_; refine gM rfl rfl (by conv => (lhs; whnf)) ?_; refine gO ?_; refine gc_seq ?_; refine gc_seq ?_; refine gc_region ?_; refine gM rfl rfl (by conv => (lhs; whnf)) ?_; refine gC rfl rfl rfl rfl rfl ?_; refine gO ?_)
    refine gc_if_dec rfl (fun _ => ?_) (fun h => absurd hj h)
    focus (refine gc_seq ?_; refine gc_region ?_; refine gM rfl rfl (by conv => (lhs; whnf)) ?_; refine gL rfl rfl rfl ?_; refine gC rfl rfl rfl rfl rfl ?_; refine gM rfl rfl (by conv => (lhs; whnf)) ?_; apply gw_d; exact w_call rfl rfl (hA _) rfl; apply gw_d; exact det_pick_t (v := .bool _) rfl rfl rfl rfl; refine gM rfl rfl (by conv => (lhs; whnf)) ?_; refine gO ?_; refine gc_ret ?_; refine gx_then_ret ?_)
    refine gx_ret1 (v := .bool _) rfl rfl (fun _ _ => ?_)
    rfl
end Go.Proofs.YtljibjlkjelpbaaGreatDoor
