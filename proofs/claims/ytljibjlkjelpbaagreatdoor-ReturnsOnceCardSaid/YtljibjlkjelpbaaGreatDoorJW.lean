/- Texts in one file: LT C29 V5 V6 V7. -/
import Derived.Test.YtljibjlkjelpbaaGreatDoorJE
import Derived.Test.YtljibjlkjelpbaaGreatDoorJB
import Derived.Test.YtljibjlkjelpbaaGreatDoorJV
/- Contracts: garmentref25.Light and garmentref21.Light come back, with some answer. -/
namespace Go.Proofs.YtljibjlkjelpbaaGreatDoor
open Go.RowKit
set_option maxRecDepth 100000
set_option maxHeartbeats 4000000

theorem light21_ok (w : World) (p : Pc) (Ae An Ac Aw : Option Addr) (ce cn cc cw : Nat) (hl : Sl rEdge w w.heap.size (.slice Ae p.edges.length ce) p.edges) :
    OkM Tryz.prog 49 [.agg #[.string p.name, .slice Ae p.edges.length ce, .int .i64 p.grain, .slice An p.notches.length cn, .slice Ac p.corners.length cc, .slice Aw p.widths.length cw, .bool p.mt], .int .i64 80].toArray w (fun b : Bool => .bool b) (fun _ => []) := by
  obtain ⟨_, _, hv, hlc, hlm⟩ := len_small hl
  injection hv with e1 e2 e3
  subst e1 e3
  unfold OkM
  refine ok_enter Tryz.func49 rfl Tryz.ntmps49 rfl ?_
  focus (refine gc_seq ?_; refine gc_region ?_; refine gw_boxd (v := .agg _) rfl rfl (fun _ => ?_); refine gM rfl rfl (by conv => (lhs; whnf)) ?_; refine gO ?_; refine gc_seq ?_; refine gc_seq ?_; refine gc_region ?_; refine gF rfl rfl rfl ?_; apply gw_d; exact w_load_box rfl rfl rfl .here rfl; refine gL rfl rfl rfl ?_; refine gC rfl rfl rfl rfl rfl ?_; refine gM rfl rfl (by conv => (lhs; whnf)) ?_; refine gw_guard_dec rfl rfl (fun _ => ?_) (fun _ => ?_); refine gU rfl ?_; refine gU rfl ?_; refine gU rfl ?_; refine gU rfl ?_; apply gw_d; exact det_pick_t (v := .bool _) rfl rfl rfl rfl; refine gM rfl rfl (by conv => (lhs; whnf)) ?_; refine gU rfl ?_; refine gU rfl ?_; refine gU rfl ?_; refine gU rfl ?_; apply gw_d; exact det_pick_t (v := .bool _) rfl rfl rfl rfl; refine gM rfl rfl (by conv => (lhs; whnf)) ?_; refine gU rfl ?_; refine gU rfl ?_; refine gU rfl ?_; refine gU rfl ?_; apply gw_d; exact det_pick_t (v := .bool _) rfl rfl rfl rfl; refine gO ?_; refine gc_if_true rfl ?_; refine gc_seq ?_; refine gc_region ?_; refine gM rfl rfl (by conv => (lhs; whnf)) ?_; refine gO ?_; refine gc_ret ?_; refine gx_then_ret ?_; rotate_left; refine gF rfl rfl rfl ?_; apply gw_d; exact w_load_box rfl rfl rfl .here rfl; refine gL rfl rfl rfl ?_; refine gC rfl rfl rfl rfl rfl ?_; apply gw_d; exact det_pick_f (v := .bool _) rfl rfl rfl rfl; refine gM rfl rfl (by conv => (lhs; whnf)) ?_; refine gw_guard_dec rfl rfl (fun _ => ?_) (fun _ => ?_); refine gU rfl ?_; refine gU rfl ?_; refine gU rfl ?_; refine gU rfl ?_; apply gw_d; exact det_pick_t (v := .bool _) rfl rfl rfl rfl; refine gM rfl rfl (by conv => (lhs; whnf)) ?_; refine gU rfl ?_; refine gU rfl ?_; refine gU rfl ?_; refine gU rfl ?_; apply gw_d; exact det_pick_t (v := .bool _) rfl rfl rfl rfl; refine gO ?_; refine gc_if_true rfl ?_; refine gc_seq ?_; refine gc_region ?_; refine gM rfl rfl (by conv => (lhs; whnf)) ?_; refine gO ?_; refine gc_ret ?_; refine gx_then_ret ?_; rotate_left; refine gF rfl rfl rfl ?_; apply gw_d; exact w_load_box rfl rfl rfl .here rfl; refine gL rfl rfl rfl ?_; refine gC rfl rfl rfl rfl rfl ?_; apply gw_d; exact det_pick_f (v := .bool _) rfl rfl rfl rfl; refine gM rfl rfl (by conv => (lhs; whnf)) ?_; refine gw_guard_dec rfl rfl (fun _ => ?_) (fun _ => ?_); refine gU rfl ?_; refine gU rfl ?_; refine gU rfl ?_; refine gU rfl ?_; apply gw_d; exact det_pick_t (v := .bool _) rfl rfl rfl rfl; refine gO ?_; refine gc_if_true rfl ?_; refine gc_seq ?_; refine gc_region ?_; refine gM rfl rfl (by conv => (lhs; whnf)) ?_; refine gO ?_; refine gc_ret ?_; refine gx_then_ret ?_; rotate_left; refine gF rfl rfl rfl ?_; apply gw_d; exact w_load_box rfl rfl rfl .here rfl; refine gL rfl rfl rfl ?_; refine gC rfl rfl rfl rfl rfl ?_; apply gw_d; exact det_pick_f (v := .bool _) rfl rfl rfl rfl; refine gO ?_; refine gc_if_dec rfl (fun _ => ?_) (fun _ => ?_); refine gc_seq ?_; refine gc_region ?_; refine gM rfl rfl (by conv => (lhs; whnf)) ?_; refine gO ?_; refine gc_ret ?_; refine gx_then_ret ?_; rotate_left; refine gc_skip ?_; refine gx_next ?_; refine gc_seq ?_; refine gc_region ?_; refine gM rfl rfl (by conv => (lhs; whnf)) ?_; refine gO ?_; refine gc_seq ?_; refine gc_seq ?_; refine gc_region ?_; refine gM rfl rfl (by conv => (lhs; whnf)) ?_; refine gO ?_; refine gc_block ?_; rotate_left)
  all_goals first | exact gx_ret1 (v := .bool _) rfl rfl (fun _ _ => ⟨_, rfl, trivial⟩) | skip
  refine gc_loopK (σ := Nat × Nat) [29, 30, 31, 32, 33, 36, 37, 38, 39, 40, 41, 42, 43, 44, 45, 46, 47, 48, 49, 50, 51, 52, 53, 54, 4, 55, 56, 57, 58, 59, 60, 61, 62, 63, 5, 34, 35, 6] (fun x => [(6, .int .i64 x.1), (5, .int .i64 x.2)]) (fun x => x.1 ≤ p.edges.length ∧ x.2 ≤ 80 * x.1) (fun x => p.edges.length - x.1) (0, 0) ⟨Nat.zero_le _, Nat.zero_le _⟩ ⟨rfl, rfl, trivial⟩ ?_
  rintro ⟨k, n⟩ base ⟨hk, hn⟩
  dsimp only at hk hn ⊢
  focus (refine gc_seq ?_; refine gc_seq ?_; refine gc_region ?_; refine gM rfl rfl (by conv => (lhs; whnf)) ?_; refine gF rfl rfl rfl ?_; apply gw_d; exact w_load_box rfl rfl rfl .here rfl; refine gL rfl rfl rfl ?_; refine gC rfl rfl rfl rfl rfl ?_; refine gO ?_)
  refine gc_if_dec rfl (fun h => ?_) (fun h => ?_)
  · have hlt : k < p.edges.length := by omega
    obtain ⟨ad, _, hv, _, _, hb, hcell⟩ := hl.at' 2 rfl (by omega)
    injection hv with e1 e2 e3
    subst e1 e3
    obtain ⟨cs, hce, v2, rfl, hnm, A2, c2, rfl, h21, h22, _⟩ := hcell k hlt
    have hce0 := hce 0 _ rfl
    have hce1 := hce 1 _ rfl
    focus (refine gc_skip ?_; refine gx_next ?_; refine gc_seq ?_; refine gc_block ?_; refine gc_seq ?_; refine gc_seq ?_; refine gc_region ?_; refine gF rfl rfl rfl ?_; apply gw_d; exact w_load_box rfl rfl rfl .here rfl; refine gM rfl rfl (by conv => (lhs; whnf)) ?_; apply gw_d; exact w_index rfl rfl rfl rfl (by with_reducible exact rfl) (by omega); refine gF rfl rfl rfl ?_; apply gw_d; exact w_load_fld rfl rfl rfl (by assumption) (by assumption); refine gL rfl rfl rfl ?_; refine gM rfl rfl (by conv => (lhs; whnf)) ?_; refine gC rfl rfl rfl rfl rfl ?_; refine gM rfl rfl (by conv => (lhs; whnf)) ?_; refine gw_guard_dec rfl rfl (fun _ => ?_) (fun _ => ?_); refine gU rfl ?_; refine gU rfl ?_; refine gU rfl ?_; refine gU rfl ?_; refine gU rfl ?_; refine gU rfl ?_; refine gU rfl ?_; refine gU rfl ?_; apply gw_d; exact det_pick_t (v := .bool _) rfl rfl rfl rfl; refine gO ?_; refine gc_if_true rfl ?_; refine gc_seq ?_; refine gc_region ?_; refine gM rfl rfl (by conv => (lhs; whnf)) ?_; refine gO ?_; refine gc_ret ?_; refine gx_then_ret ?_; refine gx_block_ret ?_; refine gx_then_ret ?_; refine gx_then_ret ?_; refine gx_block_ret ?_; refine gx_then_ret ?_; rotate_left; refine gF rfl rfl rfl ?_; apply gw_d; exact w_load_box rfl rfl rfl .here rfl; refine gM rfl rfl (by conv => (lhs; whnf)) ?_; apply gw_d; exact w_index rfl rfl rfl rfl (by with_reducible exact rfl) (by omega); refine gF rfl rfl rfl ?_; apply gw_d; exact w_load_fld rfl rfl rfl (by assumption) (by assumption); apply gw_d; exact w_len_str rfl rfl rfl; refine gC rfl rfl rfl rfl rfl ?_; apply gw_d; exact det_pick_f (v := .bool _) rfl rfl rfl rfl; refine gO ?_; refine gc_if_dec rfl (fun _ => ?_) (fun _ => ?_); refine gc_seq ?_; refine gc_region ?_; refine gM rfl rfl (by conv => (lhs; whnf)) ?_; refine gO ?_; refine gc_ret ?_; refine gx_then_ret ?_; refine gx_block_ret ?_; refine gx_then_ret ?_; refine gx_then_ret ?_; refine gx_block_ret ?_; refine gx_then_ret ?_; rotate_left; refine gc_skip ?_; refine gx_next ?_; refine gc_region ?_; refine gM rfl rfl (by conv => (lhs; whnf)) ?_; refine gF rfl rfl rfl ?_; apply gw_d; exact w_load_box rfl rfl rfl .here rfl; refine gM rfl rfl (by conv => (lhs; whnf)) ?_; apply gw_d; exact w_index rfl rfl rfl rfl (by with_reducible exact rfl) (by omega); refine gF rfl rfl rfl ?_; apply gw_d; exact w_load_fld rfl rfl rfl (by assumption) (by assumption); refine gL rfl rfl rfl ?_; apply gw_d; exact det_ar rfl rfl rfl rfl rfl (by omega); refine gM rfl rfl (by conv => (lhs; whnf)) ?_; refine gw_nil ?_; refine gx_block ?_; refine gx_next ?_; refine gc_region ?_; refine gM rfl rfl (by conv => (lhs; whnf)) ?_; apply gw_d; exact det_ar rfl rfl rfl rfl rfl (by omega); refine gM rfl rfl (by conv => (lhs; whnf)) ?_; refine gw_nil ?_; rotate_left)
    all_goals first | exact gx_ret1 (v := .bool _) rfl rfl (fun _ _ => ⟨_, rfl, trivial⟩) | skip
    exact gx_round (k + 1, n + p.edges[k].2.length) ⟨by omega, by dsimp only; omega⟩ (by dsimp only; omega) (by repeat (first | exact Keeps.refl | refine Keeps.upd rfl ?_ | refine Keeps.sets rfl ?_ | refine Keeps.havoc rfl ?_)) ⟨rfl, congrArg (Value.int .i64) (Int.natCast_add n _).symm, trivial⟩ (Sub.all _)
  · focus (refine gc_exit ?_; refine gx_then_exit ?_; refine gx_then_exit ?_; refine gx_block_exit ?_; refine gx_next ?_; refine gc_seq ?_; refine gc_region ?_; refine gM rfl rfl (by conv => (lhs; whnf)) ?_; refine gM rfl rfl (by conv => (lhs; whnf)) ?_; refine gC rfl rfl rfl rfl rfl ?_; refine gM rfl rfl (by conv => (lhs; whnf)) ?_; refine gO ?_; refine gc_ret ?_)
    exact gx_ret1 (v := .bool _) rfl rfl (fun _ _ => ⟨_, rfl, trivial⟩)

theorem light_ok (w : World) (v : Value) (s : Sty) (hs : StyV w w.heap.size v s) : OkM Tryz.prog 45 [v].toArray w (fun b : Bool => .bool b) (fun _ => []) := by
  obtain ⟨As, cs, Am, cm, Ap, cp, Au, cu, Ae, ce, Ao, co, rfl, hnm, h1, h2, h3, h4, h5, h6⟩ := hs
  obtain ⟨_, _, hv, hsc, hsm, hscell⟩ := h1.str'
  injection hv with e1 e2 e3
  subst e1 e3
  obtain ⟨_, _, hv, hpc, hpm⟩ := len_small h3
  injection hv with e1 e2 e3
  subst e1 e3
  unfold OkM
  refine ok_enter Tryz.func45 rfl Tryz.ntmps45 rfl ?_
  focus (refine gc_seq ?_; refine gc_region ?_; refine gw_boxd (v := .agg _) rfl rfl (fun _ => ?_); refine gM rfl rfl (by conv => (lhs; whnf)) ?_; refine gO ?_; refine gc_seq ?_; refine gc_seq ?_; refine gc_region ?_; refine gF rfl rfl rfl ?_; apply gw_d; exact w_load_box rfl rfl rfl .here rfl; apply gw_d; exact w_len_str rfl rfl rfl; refine gC rfl rfl rfl rfl rfl ?_; refine gM rfl rfl (by conv => (lhs; whnf)) ?_; refine gw_guard_dec rfl rfl (fun _ => ?_) (fun _ => ?_); refine gU rfl ?_; refine gU rfl ?_; refine gU rfl ?_; refine gU rfl ?_; apply gw_d; exact det_pick_t (v := .bool _) rfl rfl rfl rfl; refine gM rfl rfl (by conv => (lhs; whnf)) ?_; refine gU rfl ?_; refine gU rfl ?_; refine gU rfl ?_; refine gU rfl ?_; apply gw_d; exact det_pick_t (v := .bool _) rfl rfl rfl rfl; refine gM rfl rfl (by conv => (lhs; whnf)) ?_; refine gU rfl ?_; refine gU rfl ?_; refine gU rfl ?_; refine gU rfl ?_; apply gw_d; exact det_pick_t (v := .bool _) rfl rfl rfl rfl; refine gM rfl rfl (by conv => (lhs; whnf)) ?_; refine gU rfl ?_; refine gU rfl ?_; refine gU rfl ?_; refine gU rfl ?_; apply gw_d; exact det_pick_t (v := .bool _) rfl rfl rfl rfl; refine gM rfl rfl (by conv => (lhs; whnf)) ?_; refine gU rfl ?_; refine gU rfl ?_; refine gU rfl ?_; refine gU rfl ?_; apply gw_d; exact det_pick_t (v := .bool _) rfl rfl rfl rfl; refine gM rfl rfl (by conv => (lhs; whnf)) ?_; refine gU rfl ?_; refine gU rfl ?_; refine gU rfl ?_; refine gU rfl ?_; apply gw_d; exact det_pick_t (v := .bool _) rfl rfl rfl rfl; refine gO ?_; refine gc_if_true rfl ?_; refine gc_seq ?_; refine gc_region ?_; refine gM rfl rfl (by conv => (lhs; whnf)) ?_; refine gO ?_; refine gc_ret ?_; refine gx_then_ret ?_; rotate_left; refine gF rfl rfl rfl ?_; apply gw_d; exact w_load_box rfl rfl rfl .here rfl; refine gL rfl rfl rfl ?_; refine gC rfl rfl rfl rfl rfl ?_; apply gw_d; exact det_pick_f (v := .bool _) rfl rfl rfl rfl; refine gM rfl rfl (by conv => (lhs; whnf)) ?_; refine gw_guard_dec rfl rfl (fun _ => ?_) (fun _ => ?_); refine gU rfl ?_; refine gU rfl ?_; refine gU rfl ?_; refine gU rfl ?_; apply gw_d; exact det_pick_t (v := .bool _) rfl rfl rfl rfl; refine gM rfl rfl (by conv => (lhs; whnf)) ?_; refine gU rfl ?_; refine gU rfl ?_; refine gU rfl ?_; refine gU rfl ?_; apply gw_d; exact det_pick_t (v := .bool _) rfl rfl rfl rfl; refine gM rfl rfl (by conv => (lhs; whnf)) ?_; refine gU rfl ?_; refine gU rfl ?_; refine gU rfl ?_; refine gU rfl ?_; apply gw_d; exact det_pick_t (v := .bool _) rfl rfl rfl rfl; refine gM rfl rfl (by conv => (lhs; whnf)) ?_; refine gU rfl ?_; refine gU rfl ?_; refine gU rfl ?_; refine gU rfl ?_; apply gw_d; exact det_pick_t (v := .bool _) rfl rfl rfl rfl; refine gM rfl rfl (by conv => (lhs; whnf)) ?_; refine gU rfl ?_; refine gU rfl ?_; refine gU rfl ?_; refine gU rfl ?_; apply gw_d; exact det_pick_t (v := .bool _) rfl rfl rfl rfl; refine gO ?_; refine gc_if_true rfl ?_; refine gc_seq ?_; refine gc_region ?_; refine gM rfl rfl (by conv => (lhs; whnf)) ?_; refine gO ?_; refine gc_ret ?_; refine gx_then_ret ?_; rotate_left; refine gF rfl rfl rfl ?_; apply gw_d; exact w_load_box rfl rfl rfl .here rfl; refine gL rfl rfl rfl ?_; refine gC rfl rfl rfl rfl rfl ?_; apply gw_d; exact det_pick_f (v := .bool _) rfl rfl rfl rfl; refine gM rfl rfl (by conv => (lhs; whnf)) ?_; refine gw_guard_dec rfl rfl (fun _ => ?_) (fun _ => ?_); refine gU rfl ?_; refine gU rfl ?_; refine gU rfl ?_; refine gU rfl ?_; apply gw_d; exact det_pick_t (v := .bool _) rfl rfl rfl rfl; refine gM rfl rfl (by conv => (lhs; whnf)) ?_; refine gU rfl ?_; refine gU rfl ?_; refine gU rfl ?_; refine gU rfl ?_; apply gw_d; exact det_pick_t (v := .bool _) rfl rfl rfl rfl; refine gM rfl rfl (by conv => (lhs; whnf)) ?_; refine gU rfl ?_; refine gU rfl ?_; refine gU rfl ?_; refine gU rfl ?_; apply gw_d; exact det_pick_t (v := .bool _) rfl rfl rfl rfl; refine gM rfl rfl (by conv => (lhs; whnf)) ?_; refine gU rfl ?_; refine gU rfl ?_; refine gU rfl ?_; refine gU rfl ?_; apply gw_d; exact det_pick_t (v := .bool _) rfl rfl rfl rfl; refine gO ?_; refine gc_if_true rfl ?_; refine gc_seq ?_; refine gc_region ?_; refine gM rfl rfl (by conv => (lhs; whnf)) ?_; refine gO ?_; refine gc_ret ?_; refine gx_then_ret ?_; rotate_left; refine gF rfl rfl rfl ?_; apply gw_d; exact w_load_box rfl rfl rfl .here rfl; refine gL rfl rfl rfl ?_; refine gC rfl rfl rfl rfl rfl ?_; apply gw_d; exact det_pick_f (v := .bool _) rfl rfl rfl rfl; refine gM rfl rfl (by conv => (lhs; whnf)) ?_; refine gw_guard_dec rfl rfl (fun _ => ?_) (fun _ => ?_); refine gU rfl ?_; refine gU rfl ?_; refine gU rfl ?_; refine gU rfl ?_; apply gw_d; exact det_pick_t (v := .bool _) rfl rfl rfl rfl; refine gM rfl rfl (by conv => (lhs; whnf)) ?_; refine gU rfl ?_; refine gU rfl ?_; refine gU rfl ?_; refine gU rfl ?_; apply gw_d; exact det_pick_t (v := .bool _) rfl rfl rfl rfl; refine gM rfl rfl (by conv => (lhs; whnf)) ?_; refine gU rfl ?_; refine gU rfl ?_; refine gU rfl ?_; refine gU rfl ?_; apply gw_d; exact det_pick_t (v := .bool _) rfl rfl rfl rfl; refine gO ?_; refine gc_if_true rfl ?_; refine gc_seq ?_; refine gc_region ?_; refine gM rfl rfl (by conv => (lhs; whnf)) ?_; refine gO ?_; refine gc_ret ?_; refine gx_then_ret ?_; rotate_left; refine gF rfl rfl rfl ?_; apply gw_d; exact w_load_box rfl rfl rfl .here rfl; refine gL rfl rfl rfl ?_; refine gC rfl rfl rfl rfl rfl ?_; apply gw_d; exact det_pick_f (v := .bool _) rfl rfl rfl rfl; refine gM rfl rfl (by conv => (lhs; whnf)) ?_; refine gw_guard_dec rfl rfl (fun _ => ?_) (fun _ => ?_); refine gU rfl ?_; refine gU rfl ?_; refine gU rfl ?_; refine gU rfl ?_; apply gw_d; exact det_pick_t (v := .bool _) rfl rfl rfl rfl; refine gM rfl rfl (by conv => (lhs; whnf)) ?_; refine gU rfl ?_; refine gU rfl ?_; refine gU rfl ?_; refine gU rfl ?_; apply gw_d; exact det_pick_t (v := .bool _) rfl rfl rfl rfl; refine gO ?_; refine gc_if_true rfl ?_; refine gc_seq ?_; refine gc_region ?_; refine gM rfl rfl (by conv => (lhs; whnf)) ?_; refine gO ?_; refine gc_ret ?_; refine gx_then_ret ?_; rotate_left; refine gF rfl rfl rfl ?_; apply gw_d; exact w_load_box rfl rfl rfl .here rfl; refine gL rfl rfl rfl ?_; refine gC rfl rfl rfl rfl rfl ?_; apply gw_d; exact det_pick_f (v := .bool _) rfl rfl rfl rfl; refine gM rfl rfl (by conv => (lhs; whnf)) ?_; refine gw_guard_dec rfl rfl (fun _ => ?_) (fun _ => ?_); refine gU rfl ?_; refine gU rfl ?_; refine gU rfl ?_; refine gU rfl ?_; apply gw_d; exact det_pick_t (v := .bool _) rfl rfl rfl rfl; refine gO ?_; refine gc_if_true rfl ?_; refine gc_seq ?_; refine gc_region ?_; refine gM rfl rfl (by conv => (lhs; whnf)) ?_; refine gO ?_; refine gc_ret ?_; refine gx_then_ret ?_; rotate_left; refine gF rfl rfl rfl ?_; apply gw_d; exact w_load_box rfl rfl rfl .here rfl; refine gL rfl rfl rfl ?_; refine gC rfl rfl rfl rfl rfl ?_; apply gw_d; exact det_pick_f (v := .bool _) rfl rfl rfl rfl; refine gO ?_; refine gc_if_dec rfl (fun _ => ?_) (fun _ => ?_); refine gc_seq ?_; refine gc_region ?_; refine gM rfl rfl (by conv => (lhs; whnf)) ?_; refine gO ?_; refine gc_ret ?_; refine gx_then_ret ?_; rotate_left; refine gc_skip ?_; refine gx_next ?_; refine gc_seq ?_; refine gc_seq ?_; refine gc_region ?_; refine gM rfl rfl (by conv => (lhs; whnf)) ?_; refine gO ?_; refine gc_block ?_; rotate_left)
  all_goals first | exact gx_ret1 (v := .bool _) rfl rfl (fun _ _ => ⟨_, rfl, trivial⟩) | skip
  refine gc_loopK (σ := Nat) [45, 46, 47, 48, 49, 52, 53, 54, 55, 56, 57, 58, 2, 50, 51, 3] (fun k => [(3, .int .i64 k)]) (fun k => k ≤ s.sizes.length) (fun k => s.sizes.length - k) 0 (Nat.zero_le _) ⟨rfl, trivial⟩ ?_
  rintro k base hk
  focus (refine gc_seq ?_; refine gc_seq ?_; refine gc_region ?_; refine gM rfl rfl (by conv => (lhs; whnf)) ?_; refine gF rfl rfl rfl ?_; apply gw_d; exact w_load_box rfl rfl rfl .here rfl; refine gL rfl rfl rfl ?_; refine gC rfl rfl rfl rfl rfl ?_; refine gO ?_)
  refine gc_if_dec rfl (fun h => ?_) (fun h => ?_)
  · have hlt : k < s.sizes.length := by omega
    obtain ⟨ad, rfl, hb, hce, _⟩ := hscell k hlt
    focus (refine gc_skip ?_; refine gx_next ?_; refine gc_seq ?_; refine gc_block ?_; refine gc_seq ?_; refine gc_region ?_; refine gF rfl rfl rfl ?_; apply gw_d; exact w_load_box rfl rfl rfl .here rfl; refine gM rfl rfl (by conv => (lhs; whnf)) ?_; apply gw_d; exact w_index rfl rfl rfl rfl (by with_reducible exact rfl) (by omega); apply gw_d; exact w_load_at rfl rfl rfl (by assumption) (by assumption); apply gw_d; exact w_len_str rfl rfl rfl; refine gC rfl rfl rfl rfl rfl ?_; refine gO ?_; refine gc_if_dec rfl (fun _ => ?_) (fun _ => ?_); refine gc_seq ?_; refine gc_region ?_; refine gM rfl rfl (by conv => (lhs; whnf)) ?_; refine gO ?_; refine gc_ret ?_; refine gx_block_ret ?_; refine gx_then_ret ?_; refine gx_then_ret ?_; refine gx_block_ret ?_; refine gx_then_ret ?_; rotate_left; refine gc_skip ?_; refine gx_block ?_; refine gx_next ?_; refine gc_region ?_; refine gM rfl rfl (by conv => (lhs; whnf)) ?_; apply gw_d; exact det_ar rfl rfl rfl rfl rfl (by omega); refine gM rfl rfl (by conv => (lhs; whnf)) ?_; refine gw_nil ?_; rotate_left)
    all_goals first | exact gx_ret1 (v := .bool _) rfl rfl (fun _ _ => ⟨_, rfl, trivial⟩) | skip
    exact gx_round (k + 1) (by omega) (by omega) (by repeat (first | exact Keeps.refl | refine Keeps.upd rfl ?_ | refine Keeps.sets rfl ?_ | refine Keeps.havoc rfl ?_)) ⟨rfl, trivial⟩ (Sub.all _)
  focus (refine gc_exit ?_; refine gx_then_exit ?_; refine gx_then_exit ?_; refine gx_block_exit ?_; refine gx_next ?_; refine gc_seq ?_; refine gc_seq ?_; refine gc_region ?_; refine gM rfl rfl (by conv => (lhs; whnf)) ?_; refine gO ?_; refine gc_block ?_)
  refine gc_loopK (σ := Nat) [59, 60, 61, 62, 63, 66, 67, 68, 69, 70, 71, 72, 73, 74, 75, 76, 77, 78, 79, 80, 81, 82, 2, 64, 65, 4] (fun k => [(4, .int .i64 k)]) (fun k => k ≤ s.pieces.length) (fun k => s.pieces.length - k) 0 (Nat.zero_le _) ⟨rfl, trivial⟩ ?_
  rintro k2 base2 hk2
  focus (refine gc_seq ?_; refine gc_seq ?_; refine gc_region ?_; refine gM rfl rfl (by conv => (lhs; whnf)) ?_; refine gF rfl rfl rfl ?_; apply gw_d; exact w_load_box rfl rfl rfl .here rfl; refine gL rfl rfl rfl ?_; refine gC rfl rfl rfl rfl rfl ?_; refine gO ?_)
  refine gc_if_dec rfl (fun h => ?_) (fun h => ?_)
  · have hlt : k2 < s.pieces.length := by omega
    obtain ⟨ad, _, hv, _, _, hb, hcell⟩ := h3.at' 7 rfl (by omega)
    injection hv with e1 e2 e3
    subst e1 e3
    obtain ⟨cs', hce, Ae', ce', An', cn', Ac', cc', Aw', cw', rfl, ⟨q1, _⟩, q2, q3, q4, q5⟩ := hcell k2 hlt
    have hce0 := hce 0 _ rfl
    have q2' : Sl rEdge w w.heap.size (.slice Ae' s.pieces[k2].edges.length ce') s.pieces[k2].edges := q2
    focus (refine gc_skip ?_; refine gx_next ?_; refine gc_seq ?_; refine gc_block ?_; refine gc_seq ?_; refine gc_region ?_; refine gF rfl rfl rfl ?_; apply gw_d; exact w_load_box rfl rfl rfl .here rfl; refine gM rfl rfl (by conv => (lhs; whnf)) ?_; apply gw_d; exact w_index rfl rfl rfl rfl (by with_reducible exact rfl) (by omega); refine gF rfl rfl rfl ?_; apply gw_d; exact w_load_fld rfl rfl rfl (by assumption) (by assumption); apply gw_d; exact w_len_str rfl rfl rfl; refine gC rfl rfl rfl rfl rfl ?_; refine gM rfl rfl (by conv => (lhs; whnf)) ?_; refine gw_guard_dec rfl rfl (fun _ => ?_) (fun _ => ?_); refine gU rfl ?_; refine gU rfl ?_; refine gU rfl ?_; refine gU rfl ?_; refine gU rfl ?_; refine gU rfl ?_; refine gU rfl ?_; apply gw_d; exact det_pick_t (v := .bool _) rfl rfl rfl rfl; refine gO ?_; refine gc_if_true rfl ?_; refine gc_seq ?_; refine gc_region ?_; refine gM rfl rfl (by conv => (lhs; whnf)) ?_; refine gO ?_; refine gc_ret ?_; refine gx_block_ret ?_; refine gx_then_ret ?_; refine gx_then_ret ?_; refine gx_block_ret ?_; refine gx_then_ret ?_; rotate_left; refine gF rfl rfl rfl ?_; apply gw_d; exact w_load_box rfl rfl rfl .here rfl; refine gM rfl rfl (by conv => (lhs; whnf)) ?_; apply gw_d; exact w_index rfl rfl rfl rfl (by with_reducible exact rfl) (by omega); apply gw_d; exact w_load_elem rfl rfl rfl (by assumption) (by assumption) (by rfl); rotate_left)
    all_goals first | exact gx_ret1 (v := .bool _) rfl rfl (fun _ _ => ⟨_, rfl, trivial⟩) | skip
    have hC : ∀ (L : List Res) (w' : World), St w L w' → OkM Tryz.prog 49 [.agg #[.string s.pieces[k2].name, .slice Ae' s.pieces[k2].edges.length ce', .int .i64 s.pieces[k2].grain, .slice An' s.pieces[k2].notches.length cn', .slice Ac' s.pieces[k2].corners.length cc', .slice Aw' s.pieces[k2].widths.length cw', .bool s.pieces[k2].mt], .int .i64 80].toArray w' (fun b : Bool => .bool b) (fun _ => []) := fun L w' s' => light21_ok w' s.pieces[k2] Ae' An' Ac' Aw' ce' cn' cc' cw' (q2'.later s')
    focus (skip)
    refine gw_callm rfl (hC _) rfl (fun b => ?_)
    focus (apply gw_d; exact det_not_ rfl rfl rfl; apply gw_d; exact det_pick_f (v := .bool _) rfl rfl rfl rfl; refine gO ?_; refine gc_if rfl (fun _ => ?_) (fun _ => ?_); refine gc_seq ?_; refine gc_region ?_; refine gM rfl rfl (by conv => (lhs; whnf)) ?_; refine gO ?_; refine gc_ret ?_; refine gx_block_ret ?_; refine gx_then_ret ?_; refine gx_then_ret ?_; refine gx_block_ret ?_; refine gx_then_ret ?_; rotate_left; refine gc_skip ?_; refine gx_block ?_; refine gx_next ?_; refine gc_region ?_; refine gM rfl rfl (by conv => (lhs; whnf)) ?_; apply gw_d; exact det_ar rfl rfl rfl rfl rfl (by omega); refine gM rfl rfl (by conv => (lhs; whnf)) ?_; refine gw_nil ?_; rotate_left)
    all_goals first | exact gx_ret1 (v := .bool _) rfl rfl (fun _ _ => ⟨_, rfl, trivial⟩) | skip
    exact gx_round (k2 + 1) (by omega) (by omega) (by repeat (first | exact Keeps.refl | refine Keeps.upd rfl ?_ | refine Keeps.sets rfl ?_ | refine Keeps.havoc rfl ?_)) ⟨rfl, trivial⟩ (Sub.all _)
  · focus (refine gc_exit ?_; refine gx_then_exit ?_; refine gx_then_exit ?_; refine gx_block_exit ?_; refine gx_next ?_; refine gc_seq ?_; refine gc_region ?_; refine gM rfl rfl (by conv => (lhs; whnf)) ?_; refine gO ?_; refine gc_ret ?_)
    exact gx_ret1 (v := .bool _) rfl rfl (fun _ _ => ⟨_, rfl, trivial⟩)
end Go.Proofs.YtljibjlkjelpbaaGreatDoor

/- The cells of a slice as one list; a slice that reads from the cells of an own box. No program in sight. -/
namespace Go.Proofs.YtljibjlkjelpbaaGreatDoor
open Go.RowKit

theorem Sl.raws {α : Type} {R : Rp α} {w : World} {B : Nat} {v : Value} {l : List α} (h : Sl R w B v l) (hl : 0 < l.length) : ∃ ad c, ∃ raw : List Value, v = .slice (some ad) l.length c ∧ raw.length = l.length * R.size ∧ (∀ j u, raw[j]? = some u → w.cell? (ad.add j) = some u) ∧
    ∀ k (hk : k < l.length), R.rep w (fun b => b < B) l[k] ((raw.drop (k * R.size)).take R.size) := by
  obtain ⟨ad, c, hv, _, _, _, hcell⟩ := h.at' R.size rfl hl
  suffices H : ∀ m, m ≤ l.length → ∃ raw : List Value, raw.length = m * R.size ∧ (∀ j u, raw[j]? = some u → w.cell? (ad.add j) = some u) ∧ ∀ k (hk : k < l.length), k < m → R.rep w (fun b => b < B) l[k] ((raw.drop (k * R.size)).take R.size) by
    obtain ⟨raw, h1, h2, h3⟩ := H _ (Nat.le_refl _)
    exact ⟨ad, c, raw, hv, h1, h2, fun k hk => h3 k hk hk⟩
  intro m
  induction m with
  | zero => intro _; exact ⟨[], by simp, fun j u hu => by simp at hu, fun k _ hk => by omega⟩
  | succ m ih =>
    intro hm
    obtain ⟨raw, h1, h2, h3⟩ := ih (by omega)
    obtain ⟨cs, hc, hr⟩ := hcell m (by omega)
    have hlen := R.len hr
    refine ⟨raw ++ cs, by rw [List.length_append, h1, hlen, Nat.succ_mul], fun j u hu => ?_, fun k hk hkm => ?_⟩
    · by_cases hj : j < raw.length
      · rw [List.getElem?_append_left hj] at hu; exact h2 j u hu
      · rw [List.getElem?_append_right (by omega)] at hu
        have := hc _ u hu
        rwa [show m * R.size + (j - raw.length) = j by omega] at this
    · by_cases hkk : k = m
      · subst hkk
        rw [← h1, List.drop_left, ← hlen, List.take_length]
        exact hr
      · have hle : (k + 1) * R.size ≤ m * R.size := Nat.mul_le_mul_right _ (by omega)
        rw [Nat.succ_mul] at hle
        rw [List.drop_append_of_le_length (by omega), List.take_append_of_le_length (by rw [List.length_drop]; omega)]
        exact h3 k hk (by omega)
theorem Sl.ofBox {α : Type} {R : Rp α} {w : World} {b n c : Nat} {cs : Array Value} {ty : TypeId} {l : List α} (hb : w.heap[b]? = some (.cells cs ty (0, 0))) (hn : n = l.length) (hc : n ≤ c) (hc2 : c ≤ maxLen) (h : ∀ k (hk : k < l.length), R.rep w (fun b => b < w.heap.size) l[k] ((cs.toList.drop (k * R.size)).take R.size)) : Sl R w w.heap.size (.slice (some ⟨b, 0, none⟩) n c) l := by
  subst hn
  refine ⟨_, c, rfl, hc, hc2, fun k hk => ⟨⟨b, 0, none⟩, _, rfl, (Array.getElem?_eq_some_iff.1 hb).1, fun j u hu => ?_, h k hk⟩⟩
  rw [add_zero]
  simp only [World.cell?, hb]
  rw [List.getElem?_take] at hu
  split at hu
  · rw [List.getElem?_drop] at hu
    simpa using hu
  · cases hu
theorem raw_one {w : World} {B : Nat} {l : List Opn} {raw : List Value} (hlen : raw.length = l.length * rOp.size) (h : ∀ k (hk : k < l.length), rOp.rep w (fun b => b < B) l[k] ((raw.drop (k * rOp.size)).take rOp.size)) : ∀ u ∈ raw, u.oneCell' = true := fun u hu => by
  change raw.length = l.length * 5 at hlen
  obtain ⟨j, hj, rfl⟩ := List.getElem_of_mem hu
  obtain ⟨Aa, ca, Au, cu, h0, _⟩ := h (j / 5) (by omega)
  change (raw.drop (j / 5 * 5)).take 5 = _ at h0
  have h1 : raw[j] ∈ (raw.drop (j / 5 * 5)).take 5 := by
    rw [List.mem_iff_getElem]
    refine ⟨j % 5, by rw [List.length_take, List.length_drop]; omega, ?_⟩
    rw [List.getElem_take, List.getElem_drop]
    congr 1
    omega
  rw [h0] at h1
  simp only [List.mem_cons, List.not_mem_nil, or_false] at h1
  rcases h1 with h1 | h1 | h1 | h1 | h1 <;> rw [h1] <;> rfl

section
variable {P : Program} {ops : Array Oper} {Q : Exit → Act → World → Prop} {N : Nat} {w0 : World} {L L' : List Res} {rest : List Oper} {e : Env}
theorem gw_ownbox {A : Option Addr} {n c : Nat} {el : TypeId} {sz : Nat} {xs : List Value} (hn : 0 < n) (hp : Pick L (Own A n c el sz xs) L') (k : ∀ g cs, A = some ⟨g, 0, none⟩ → (n ≤ c ∧ c ≤ maxLen ∧ cs.size = c * sz) → cs.toList.take (n * sz) = xs → GW P ops Q N w0 (Box g el cs :: L') rest e) : GW P ops Q N w0 L rest e := ⟨fun w s => by
  have s1 := s.pick hp
  have hown : w.ownsRow 0 el sz (.slice A n c) n xs := s1.head
  rcases hown.2 with ⟨_, h0⟩ | ⟨g, cap, cur, hv, _, hg, h1, h2, h3, h4⟩
  · omega
  · injection hv with e1 e2 e3
    subst e1 e3
    exact (k g cur rfl ⟨h1, h2, h3⟩ h4).h w (s1.turn (r' := Box g el cur) (Nat.le_refl _) rfl rfl rfl (fun _ _ _ => rfl) hg fun x hx => .inl (by show some g = some x; rw [show x = g from hx]))⟩
end
theorem Sl.ofOwn {α : Type} {R : Rp α} {w0 w : World} {L L' : List Res} {A : Option Addr} {n c : Nat} {el : TypeId} {xs : List Value} {l : List α} (s : St w0 L w) (hp : Pick L (Own A n c el R.size xs) L') (hn : n = l.length)
    (h : ∀ k (hk : k < l.length), R.rep w (fun b => b < w.heap.size) l[k] ((xs.drop (k * R.size)).take R.size)) : Sl R w w.heap.size (.slice A n c) l := by
  have hown : w.ownsRow 0 el R.size (.slice A n c) n xs := (s.pick hp).head
  subst hn
  rcases hown.2 with ⟨hv, h0⟩ | ⟨g, cap, cur, hv, _, hg, h1, h2, h3, h4⟩
  · injection hv with e1 e2 e3
    subst e1 e3
    exact ⟨none, 0, rfl, by omega, Nat.zero_le _, fun k hk => by omega⟩
  · injection hv with e1 e2 e3
    subst e1 e3
    refine Sl.ofBox hg rfl h1 h2 fun k hk => ?_
    have e : (cur.toList.drop (k * R.size)).take R.size = (xs.drop (k * R.size)).take R.size := by
      rw [← h4, List.drop_take, List.take_take, Nat.min_eq_left]
      have : (k + 1) * R.size ≤ l.length * R.size := Nat.mul_le_mul_right _ hk
      rw [Nat.add_mul, Nat.one_mul] at this
      omega
    rw [e]
    exact h k hk
end Go.Proofs.YtljibjlkjelpbaaGreatDoor

/- The example of the chapter 58: the shop. -/
namespace Go.Proofs.YtljibjlkjelpbaaGreatDoor
open Go.RowKit
set_option maxRecDepth 100000
set_option maxHeartbeats 4000000

section
variable {P : Program} {ops : Array Oper} {N : Nat} {w0 : World} {L : List Res} {e : Env} {o : Oper} {t : TypeId} {x ix iy : Operand} {el sz : Nat}
theorem w_cut2 [CSlice P t el sz] {A : Option Addr} {n c l h : Nat} {k k' : IntKind} {z z' : Int} (hop : o.op = .slice t x (some ix) (some iy) none) (hw : wantedE N ops e o = true) (hx : ev N e x = .slice A n c) (hi : ev N e ix = .int k z) (hy : ev N e iy = .int k' z') (hz : z = (l : Int)) (hz' : z' = (h : Int)) (hlh : l ≤ h) (hhc : h ≤ c) :
    Det P ops N w0 L o e (.slice (if c = l then A else A.map (·.add (l * sz))) (h - l) (c - l)) :=
  det_pure hw fun w => by
    have ht := CSlice.h (P := P) (t := t) (el := el) (sz := sz)
    unfold sliceSz at ht
    split at ht
    · rename_i el' hu
      obtain ⟨i, hinfo, heq⟩ := Option.map_eq_some_iff.1 ht
      injection heq with h1 h2
      subst hz h2 hz'
      have h0 : (0 : Int) ≤ (l : Int) ∧ (l : Int) ≤ (h : Int) := by omega
      have h1 : (0 : Int) ≤ (h : Int) ∧ (h : Int) ≤ (c : Int) := by omega
      unfold execOp
      simp only [hop, hx, hi, hy, Option.map_none, Option.map_some, Instr.sliceAt, Sem.run_bind, run_underlying hu, Result.andThen_ok, Instr.slice, Instr.sliceBounds, Instr.sliceBound, asIntOf, Sem.run_pure, sizeOf, typeInfo]
      simp [h0, h1, hinfo, program, Sem.run]
      intro hc
      omega
    · cases ht
theorem w_scut2 [CIsStr P t] {s : ByteArray} {l h : Nat} {k k' : IntKind} {z z' : Int} (hop : o.op = .slice t x (some ix) (some iy) none) (hw : wantedE N ops e o = true) (hx : ev N e x = .string s) (hi : ev N e ix = .int k z) (hy : ev N e iy = .int k' z') (hz : z = (l : Int)) (hz' : z' = (h : Int)) (hlh : l ≤ h) (hhc : h ≤ s.size) :
    Det P ops N w0 L o e (.string (s.extract l h)) :=
  det_pure hw fun w => by
    have ht := CIsStr.h (P := P) (t := t)
    unfold isStringT at ht
    split at ht
    · rename_i hu
      subst hz hz'
      have h0 : (0 : Int) ≤ (l : Int) ∧ (l : Int) ≤ (h : Int) := by omega
      have h1 : (0 : Int) ≤ (h : Int) ∧ (h : Int) ≤ (s.size : Int) := by omega
      unfold execOp
      simp only [hop, hx, hi, hy, Option.map_none, Option.map_some, Instr.sliceAt, Sem.run_bind, run_underlying hu, Result.andThen_ok, Instr.slice, Instr.sliceBounds, Instr.sliceBound, asIntOf, Sem.run_pure]
      simp [h0, h1, hlh, hhc]
    · cases ht
theorem w_scat {p q : ByteArray} {yt : TypeId} (hop : o.op = .binOp .add t x ix yt) (hw : wantedE N ops e o = true) (hx : ev N e x = .string p) (hy : ev N e ix = .string q) (hs : p.size + q.size ≤ 1000) : Det P ops N w0 L o e (.string (p ++ q)) :=
  det_pure hw fun w => by
    have h1 : ¬ (((p.size + q.size : Nat) : Int) > IntKind.i64.max) := by
      have : IntKind.i64.max = 9223372036854775807 := by rfl
      omega
    unfold execOp
    simp only [hop, hx, hy, eqGuard, binOp, Op.stringOp, if_neg h1]
    rfl
end

def sAnn : ByteArray := ⟨#[97, 110, 110]⟩
def sS : ByteArray := ⟨#[83]⟩
def sShirt : ByteArray := ⟨#[115, 104, 105, 114, 116]⟩
def sFront : ByteArray := ⟨#[102, 114, 111, 110, 116]⟩
def sSew : ByteArray := ⟨#[115, 101, 119]⟩
def sAbcd : ByteArray := ⟨#[97, 98, 99, 100]⟩
def sE : ByteArray := ⟨#[101]⟩
def nameE (k : Nat) : ByteArray := sE ++ sAbcd.extract k (k + 1)
def lineE (ba k : Nat) : Value := .slice (some ((⟨ba, 0, none⟩ : Addr).add (k * 2))) 2 (5 - k)
def edgeC (ba k : Nat) : List Value := [.string (nameE k), lineE ba k]
def rowEd (ba k : Nat) : List Value := (List.range k).flatMap (edgeC ba)
theorem rowEd_succ (ba k : Nat) : rowEd ba (k + 1) = rowEd ba k ++ edgeC ba k := by
  unfold rowEd
  rw [List.range_succ, List.flatMap_append]
  simp
def atC : Array Value := #[.int .i64 0, .int .i64 0, .int .i64 10, .int .i64 0, .int .i64 10, .int .i64 10, .int .i64 0, .int .i64 10, .int .i64 0, .int .i64 0]
def z8 : Array Value := #[.int .i64 0, .int .i64 0, .int .i64 0, .int .i64 0, .int .i64 0, .int .i64 0, .int .i64 0, .int .i64 0]
def z4 : Array Value := #[.int .i64 0, .int .i64 0, .int .i64 0, .int .i64 0]
def pieceC (A : Option Addr) (n c bc bw : Nat) : Array Value := #[.string sFront, .slice A n c, .int .i64 2, .slice none 0 0, .slice (some ⟨bc, 0, none⟩) 4 4, .slice (some ⟨bw, 0, none⟩) 4 4, .bool false]
def shopZ : Array Value := #[.string ⟨#[]⟩, .slice none 0 0, .slice none 0 0, .slice none 0 0, .slice none 0 0, .slice none 0 0, .slice none 0 0, .slice none 0 0, .slice none 0 0, .slice none 0 0, .int .i64 0, .int .i64 0]
def one (b : Nat) : Value := .slice (some ⟨b, 0, none⟩) 1 1
def shopStyV (x : Nat → Nat) : Value := .agg #[.string sShirt, one (x 0), one (x 1), one (x 2), one (x 3), .slice none 0 0, one (x 5)]
def shopV58 (x : (Nat → Nat) × Option Addr × Nat) : Value := .agg #[.string sShirt, one (x.1 0), one (x.1 1), one (x.1 2), one (x.1 3), .slice none 0 0, one (x.1 5), one (x.1 6), one (x.1 8), one (x.1 9), .int .i64 260, .int .i64 0]
def shopR (x : (Nat → Nat) × Option Addr × Nat) : List Res := [Box (x.1 9) 51 #[.int .i64 7, .int .i64 0, .int .i64 0, .int .i64 5], Box (x.1 8) 87 #[.string sAnn, one (x.1 7)], Box (x.1 7) 3 #[.int .i64 0], Box (x.1 6) 49 #[.int .i64 7, .int .i64 0, .int .i64 0, .int .i64 0, .int .i64 0, .int .i64 10],
  Box (x.1 5) 89 #[.string sSew, .int .i64 0, .int .i64 120, .slice none 0 0, one (x.1 4)], Box (x.1 4) 3 #[.int .i64 0], Box (x.1 3) 119 #[.int .i64 0, .int .i64 1, .bool false], Box (x.1 2) 115 (pieceC x.2.1 4 x.2.2 (x.1 11) (x.1 12)), Box (x.1 1) 3 #[.int .i64 0], Box (x.1 0) 9 #[.string sS],
  Own x.2.1 4 x.2.2 117 2 (rowEd (x.1 10) 4), Box (x.1 10) 121 atC, Box (x.1 11) 121 z8, Box (x.1 12) 3 z4]
theorem cut_size {k : Nat} (hk : k < 4) : sE.size + (sAbcd.extract k (k + 1)).size ≤ 1000 := by
  obtain rfl | rfl | rfl | rfl : k = 0 ∨ k = 1 ∨ k = 2 ∨ k = 3 := by omega
  all_goals decide
theorem shop_ok (w : World) : OkM Tryz.prog 41 [].toArray w shopV58 shopR := by
  unfold OkM
  refine ok_enter Tryz.func41 rfl Tryz.ntmps41 rfl ?_
  focus (refine gc_seq ?_; refine gc_region ?_; refine w_alloc rfl (fun _ => ?_); refine gN ?_; apply gw_d; exact w_buildP [] (cells := #[.int .i64 0, .int .i64 0]) (by kernel_rfl) rfl rfl rfl; apply gw_d; exact w_buildP [(0, .int .i64 10)] (cells := #[.int .i64 10, .int .i64 0]) (by kernel_rfl) rfl rfl rfl; apply gw_d; exact w_buildP [(0, .int .i64 10), (1, .int .i64 10)] (cells := #[.int .i64 10, .int .i64 10]) (by kernel_rfl) rfl rfl rfl; apply gw_d; exact w_buildP [(1, .int .i64 10)] (cells := #[.int .i64 0, .int .i64 10]) (by kernel_rfl) rfl rfl rfl; apply gw_d; exact w_buildP [] (cells := #[.int .i64 0, .int .i64 0]) (by kernel_rfl) rfl rfl rfl)
  rename_i b0
  refine gw_bslice (cells := atC) rfl ?_ ?_ ?_ (fun ba => ?_)
  · rfl
  · rfl
  · kernel_rfl
  focus (refine gM rfl rfl (by conv => (lhs; whnf)) ?_; refine gO ?_; refine gc_seq ?_)
  refine gc_block_draw Nat 4 (fun i => ([[], [], [0, 1], []] : List (List Nat)).getD i []) rfl (by kernel_rfl) ?_
  refine gb_makeN (n := 4) (cells := z8) id id (fun _ => rfl) (fun _ => rfl) (fun _ => rfl) (fun _ => rfl) rfl rfl (by decide) (by decide) (by kernel_rfl) ?_
  refine gb_makeN (n := 4) (cells := z4) id id (fun _ => rfl) (fun _ => rfl) (fun _ => rfl) (fun _ => rfl) rfl rfl (by decide) (by decide) (by kernel_rfl) ?_
  refine gb_d (V := fun γ => .agg #[.string sFront, .slice none 0 0, .int .i64 2, .slice none 0 0, .slice (some ⟨γ 0, 0, none⟩) 4 4, .slice (some ⟨γ 1, 0, none⟩) 4 4, .bool false]) (fun γ => w_buildP [(0, .string sFront), (2, .int .i64 2), (4, .slice (some ⟨γ 0, 0, none⟩) 4 4), (5, .slice (some ⟨γ 1, 0, none⟩) 4 4)] (by kernel_rfl) rfl rfl rfl) (fun _ _ => rfl) (fun _ => rfl) ?_
  refine gb_alloc id id (fun _ => rfl) (fun _ => rfl) ?_
  refine GB.nil (fun β => ?_)
  refine w_store_all rfl rfl rfl rfl rfl (.there (.there .here)) rfl ?_
  focus (refine gO ?_; refine gc_seq ?_; refine gc_seq ?_; refine gc_region ?_; refine gM rfl rfl (by conv => (lhs; whnf)) ?_; refine gO ?_; refine gc_block ?_)
  generalize β 0 = bc
  generalize β 1 = bw
  generalize β 3 = bp
  refine gc_own0 117 2 ?_
  refine gc_loop (σ := Nat × Option Addr × Nat) [14, 15, 18, 19, 20, 21, 22, 23, 24, 25, 26, 27, 28, 29, 30, 31, 32, 33, 16, 17, 3] (fun q => [(3, .int .i64 q.1)]) (fun q => [Own q.2.1 q.1 q.2.2 117 2 (rowEd ba q.1), Box bp 115 (pieceC q.2.1 q.1 q.2.2 bc bw), Box ba 121 atC, Box bc 121 z8, Box bw 3 z4, Box b0 66 shopZ]) (fun q => q.1 ≤ 4) (fun q => 4 - q.1) (0, none, 0) (Nat.zero_le _) ⟨rfl, trivial⟩ (.cons .here (.cons .here (.cons (.there (.there .here)) (.cons .here (.cons .here (.cons .here .nil)))))) ?_
  rintro ⟨k, A, c⟩ base hk
  dsimp only at hk ⊢
  focus (refine gc_seq ?_; refine gc_seq ?_; refine gc_region ?_; refine gM rfl rfl (by conv => (lhs; whnf)) ?_; refine gC rfl rfl rfl rfl rfl ?_; refine gO ?_)
  refine gc_if_dec rfl (fun h => ?_) (fun h => ?_)
  · have hk4 : k < 4 := by omega
    have hcs := cut_size hk4
    have hln : ∀ A5 : Option Addr, A5 = some ⟨ba, 0, none⟩ → Value.slice (if 5 = k then A5 else A5.map (·.add (k * 2))) (k + 2 - k) (5 - k) = lineE ba k := fun A5 h5 => by
      subst h5
      unfold lineE
      rw [if_neg (by omega), show k + 2 - k = 2 by omega]
      rfl
    focus (refine gc_skip ?_; refine gx_next ?_; refine gc_seq ?_; refine gc_block ?_)
    generalize hLr : [Box bp 115 (pieceC A k c bc bw), Box ba 121 atC, Box bc 121 z8, Box bw 3 z4, Box b0 66 shopZ] = Lr
    obtain ⟨Lp, hpp⟩ : ∃ Lp, Pick Lr (Box bp 115 (pieceC A k c bc bw)) Lp := by rw [← hLr]; exact ⟨_, .here⟩
    refine gc_blockJ (P := Tryz.prog) (Nat × Option Addr × Nat) 15 (fun i => ([[], [0], [], [], [3], [2, 3, 4], [2, 3, 4, 5], [], [], [], [9], [7, 8, 9, 10], [2, 3, 4, 5, 6, 7, 8, 9, 10, 11], [2, 3, 4, 5, 6, 7, 8, 9, 10, 11, 12], [0, 1, 2, 3, 4, 5, 6, 7, 8, 9, 10, 11, 12, 13]] : List (List Nat)).getD i []) (fun i γ => match i with
      | 0 => .pointer (some ((⟨bp, 0, none⟩ : Addr).add 1))
      | 1 => .slice A k c
      | 2 => .int .i64 k
      | 3 => .int .i64 k
      | 4 => .int .i64 ((k : Int) + 1)
      | 5 => .string (sAbcd.extract k (k + 1))
      | 6 => .string (nameE k)
      | 7 => .slice (some ⟨ba, 0, none⟩) 5 5
      | 8 => .int .i64 k
      | 9 => .int .i64 k
      | 10 => .int .i64 ((k : Int) + 2)
      | 11 => lineE ba k
      | 12 => .agg #[.string (nameE k), lineE ba k]
      | 13 => .slice (some ⟨(γ 13).1, 0, none⟩) 1 1
      | 14 => .slice (γ 14).2.1 (k + 1) (γ 14).2.2
      | _ => undef) (fun ls β w' => St w ((if ls 14 = true then Own (β 14).2.1 (k + 1) (β 14).2.2 117 2 (rowEd ba k ++ edgeC ba k) else Own A k c 117 2 (rowEd ba k)) :: ((if ls 13 = true then [Box (β 13).1 117 #[.string (nameE k), lineE ba k]] else []) ++ Lr)) w') rfl (by kernel_rfl) (fun w' s => s) ?_ ?_
    · intro i o ls β w' hi hik hls hpl hJ
      have hS0 : St w Lr w' := by
        have := hJ.drop
        exact this.sublist (List.sublist_append_right _ _)
      obtain rfl | rfl | rfl | rfl | rfl | rfl | rfl | rfl | rfl | rfl | rfl | rfl | rfl | rfl | rfl : i = 0 ∨ i = 1 ∨ i = 2 ∨ i = 3 ∨ i = 4 ∨ i = 5 ∨ i = 6 ∨ i = 7 ∨ i = 8 ∨ i = 9 ∨ i = 10 ∨ i = 11 ∨ i = 12 ∨ i = 13 ∨ i = 14 := by omega
      · cases hi
        exact detG (w_field rfl rfl rfl) rfl hS0 (fun w2 hx => ⟨default, rfl, St.ext hJ hx⟩)
      · cases hi
        exact detG (w_load_box rfl rfl rfl hpp rfl) rfl hS0 (fun w2 hx => ⟨default, rfl, St.ext hJ hx⟩)
      · cases hi
        exact detG (det_m (v := .int .i64 (k : Int)) rfl rfl rfl) rfl hS0 (fun w2 hx => ⟨default, rfl, St.ext hJ hx⟩)
      · cases hi
        exact detG (det_m (v := .int .i64 (k : Int)) rfl rfl rfl) rfl hS0 (fun w2 hx => ⟨default, rfl, St.ext hJ hx⟩)
      · cases hi
        exact detG (det_ar (r := (k : Int) + 1) rfl rfl rfl rfl rfl (by omega)) rfl hS0 (fun w2 hx => ⟨default, rfl, St.ext hJ hx⟩)
      · cases hi
        exact detG (w_scut2 (s := sAbcd) (l := k) (h := k + 1) rfl rfl rfl rfl rfl rfl (castA k) (by omega) (show k + 1 ≤ 4 by omega)) rfl hS0 (fun w2 hx => ⟨default, rfl, St.ext hJ hx⟩)
      · cases hi
        exact detG (w_scat (p := sE) (q := sAbcd.extract k (k + 1)) rfl rfl rfl rfl hcs) rfl hS0 (fun w2 hx => ⟨default, rfl, St.ext hJ hx⟩)
      · cases hi
        exact detG (det_m (v := .slice (some ⟨ba, 0, none⟩) 5 5) rfl rfl rfl) rfl hS0 (fun w2 hx => ⟨default, rfl, St.ext hJ hx⟩)
      · cases hi
        exact detG (det_m (v := .int .i64 (k : Int)) rfl rfl rfl) rfl hS0 (fun w2 hx => ⟨default, rfl, St.ext hJ hx⟩)
      · cases hi
        exact detG (det_m (v := .int .i64 (k : Int)) rfl rfl rfl) rfl hS0 (fun w2 hx => ⟨default, rfl, St.ext hJ hx⟩)
      · cases hi
        exact detG (det_ar (r := (k : Int) + 2) rfl rfl rfl rfl rfl (by omega)) rfl hS0 (fun w2 hx => ⟨default, rfl, St.ext hJ hx⟩)
      · cases hi
        exact detG (det_eq (c' := lineE ba k) (w_cut2 (A := some ⟨ba, 0, none⟩) (n := 5) (c := 5) (l := k) (h := k + 2) rfl rfl rfl rfl rfl rfl (castB k) (by omega) (by omega)) (hln _ rfl)) rfl hS0 (fun w2 hx => ⟨default, rfl, St.ext hJ hx⟩)
      · cases hi
        exact detG (w_buildP [(0, .string (nameE k)), (1, lineE ba k)] (cells := #[.string (nameE k), lineE ba k]) (by rfl) rfl rfl rfl) rfl hS0 (fun w2 hx => ⟨default, rfl, St.ext hJ hx⟩)
      · cases hi
        rw [hls] at hJ
        refine ⟨rfl, (stepG_bslice1 (v := .agg #[.string (nameE k), lineE ba k]) rfl rfl rfl rfl hJ).mono fun u w2 hu => ?_⟩
        obtain ⟨b, hu, s2⟩ := hu
        exact ⟨(b, none, 0), hu, St.sub (.cons (.there .here) (.cons .here (Sub.all _))) s2⟩
      · cases hi
        have h13 : ls 13 = true := hpl 13 (by decide)
        rw [hls, h13] at hJ
        refine ⟨rfl, (stepG_append (sz := 2) (z := .agg #[.string ⟨#[]⟩, .slice none 0 0]) (n := k) (m := 1) (xs := rowEd ba k) (news := edgeC ba k) rfl rfl .here rfl (fun w3 s3 _ => ?_) (fun u hu => ?_) (by unfold maxLen; omega) (by omega) (by decide) rfl hJ).mono fun u w2 hu => ?_⟩
        · refine ⟨⟨(β 13).1, 0, none⟩, rfl, fun i u hu => ?_⟩
          rw [add_zero]
          refine (Box.cell s3.drop.head i).trans ?_
          change (#[Value.string (nameE k), lineE ba k] : Array Value)[i]? = some u
          rw [List.getElem?_toArray]
          exact hu
        · unfold edgeC at hu
          simp only [List.mem_cons, List.not_mem_nil, or_false] at hu
          rcases hu with rfl | rfl <;> rfl
        · obtain ⟨A', c', hu, s2⟩ := hu
          refine ⟨(0, A', c'), hu, ?_⟩
          show St w (Own A' (k + 1) c' 117 2 (rowEd ba k ++ edgeC ba k) :: ((if ls 13 = true then [Box (β 13).1 117 #[.string (nameE k), lineE ba k]] else []) ++ Lr)) w2
          rw [h13]
          exact s2
    · intro ls β w' hall hJ
      rw [hall 13 (by decide), hall 14 (by decide)] at hJ
      subst hLr
      have hJ2 : St w (Own (β 14).2.1 (k + 1) (β 14).2.2 117 2 (rowEd ba k ++ edgeC ba k) :: Box (β 13).1 117 #[.string (nameE k), lineE ba k] :: [Box bp 115 (pieceC A k c bc bw), Box ba 121 atC, Box bc 121 z8, Box bw 3 z4, Box b0 66 shopZ]) w' := hJ
      refine GW.h (P := Tryz.prog) ?_ w' hJ2
      rw [← rowEd_succ]
      focus (refine gF rfl rfl rfl ?_)
      refine w_store (cs' := pieceC (β 14).2.1 (k + 1) (β 14).2.2 bc bw) rfl rfl rfl rfl rfl (.there (.there .here)) rfl rfl ?_
      focus (refine gw_nil ?_; refine gx_block ?_; refine gx_next ?_; refine gc_region ?_; refine gM rfl rfl (by conv => (lhs; whnf)) ?_; apply gw_d; exact det_ar rfl rfl rfl rfl rfl (by omega); refine gM rfl rfl (by conv => (lhs; whnf)) ?_; refine gw_nil ?_)
      exact gx_round (k + 1, (β 14).2.1, (β 14).2.2) (by dsimp only; omega) (by dsimp only; omega) (by repeat (first | exact Keeps.refl | refine Keeps.upd rfl ?_ | refine Keeps.sets rfl ?_ | refine Keeps.havoc rfl ?_)) ⟨rfl, trivial⟩ (.cons (.there .here) (.cons .here (.cons (.there .here) (.cons (.there .here) (.cons (.there .here) (.cons (.there .here) .nil))))))
  obtain rfl : k = 4 := by omega
  focus (refine gc_exit ?_; refine gx_then_exit ?_; refine gx_then_exit ?_; refine gx_block_exit ?_; refine gx_next ?_; refine gc_seq ?_; refine gc_region ?_)
  refine gw_bslice1 (v := .string sS) rfl rfl rfl rfl rfl (fun x0 => ?_)
  focus (skip)
  refine gw_bslice1 (v := .int .i64 0) rfl rfl rfl rfl rfl (fun x1 => ?_)
  focus (apply gw_d; exact w_load_boxN rfl rfl rfl (.there (.there (.there .here))) rfl)
  refine gw_bslice1 (v := .agg (pieceC A 4 c bc bw)) rfl rfl rfl rfl rfl (fun x2 => ?_)
  focus (apply gw_d; exact w_buildP [(1, .int .i64 1)] (cells := #[.int .i64 0, .int .i64 1, .bool false]) (by kernel_rfl) rfl rfl rfl)
  refine gw_bslice1 (v := .agg #[.int .i64 0, .int .i64 1, .bool false]) rfl rfl rfl rfl rfl (fun x3 => ?_)
  focus (skip)
  refine gw_bslice1 (v := .int .i64 0) rfl rfl rfl rfl rfl (fun x4 => ?_)
  focus (apply gw_d; exact w_buildP [(0, .string sSew), (2, .int .i64 120), (4, one x4)] (cells := #[.string sSew, .int .i64 0, .int .i64 120, .slice none 0 0, one x4]) (by kernel_rfl) rfl rfl rfl)
  refine gw_bslice1 (v := .agg #[.string sSew, .int .i64 0, .int .i64 120, .slice none 0 0, one x4]) rfl rfl rfl rfl rfl (fun x5 => ?_)
  focus (apply gw_d; exact w_buildP [(0, .string sShirt), (1, one x0), (2, one x1), (3, one x2), (4, one x3), (6, one x5)] (cells := #[.string sShirt, one x0, one x1, one x2, one x3, .slice none 0 0, one x5]) (by kernel_rfl) rfl rfl rfl; refine w_alloc rfl (fun _ => ?_); refine w_store_all rfl rfl rfl rfl rfl .here rfl ?_; refine gN ?_; apply gw_d; exact w_load_boxN rfl rfl rfl .here rfl; apply gw_d; exact w_buildP [(0, .int .i64 7), (5, .int .i64 10)] (cells := #[.int .i64 7, .int .i64 0, .int .i64 0, .int .i64 0, .int .i64 0, .int .i64 10]) (by kernel_rfl) rfl rfl rfl)
  refine gw_bslice1 (v := .agg #[.int .i64 7, .int .i64 0, .int .i64 0, .int .i64 0, .int .i64 0, .int .i64 10]) rfl rfl rfl rfl rfl (fun x6 => ?_)
  focus (skip)
  refine gw_bslice1 (v := .int .i64 0) rfl rfl rfl rfl rfl (fun x7 => ?_)
  focus (apply gw_d; exact w_buildP [(0, .string sAnn), (1, one x7)] (cells := #[.string sAnn, one x7]) (by kernel_rfl) rfl rfl rfl)
  refine gw_bslice1 (v := .agg #[.string sAnn, one x7]) rfl rfl rfl rfl rfl (fun x8 => ?_)
  focus (apply gw_d; exact w_buildP [(0, .int .i64 7), (3, .int .i64 5)] (cells := #[.int .i64 7, .int .i64 0, .int .i64 0, .int .i64 5]) (by kernel_rfl) rfl rfl rfl)
  refine gw_bslice1 (v := .agg #[.int .i64 7, .int .i64 0, .int .i64 0, .int .i64 5]) rfl rfl rfl rfl rfl (fun x9 => ?_)
  focus (apply gw_d; exact w_buildP [(0, .int .i64 260)] (cells := #[.int .i64 260, .int .i64 0]) (by kernel_rfl) rfl rfl rfl; apply gw_d; exact w_buildP [(0, .agg #[.string sShirt, one x0, one x1, one x2, one x3, .slice none 0 0, one x5]), (1, one x6), (2, one x8), (3, one x9), (4, .agg #[.int .i64 260, .int .i64 0])] (cells := #[.string sShirt, one x0, one x1, one x2, one x3, .slice none 0 0, one x5, one x6, one x8, one x9, .int .i64 260, .int .i64 0]) (by kernel_rfl) rfl rfl rfl)
  refine w_store_all rfl rfl rfl rfl rfl (.there (.there (.there (.there (.there (.there (.there (.there (.there (.there (.there (.there (.there (.there (.there (.there .here)))))))))))))))) rfl ?_
  focus (refine gO ?_; refine gc_ret ?_)
  refine gx_retc rfl rfl .here rfl fun w s => ⟨((fun i => [x0, x1, x2, x3, x4, x5, x6, x7, x8, x9, ba, bc, bw].getD i 0), A, c), rfl, ?_⟩
  exact (St.sub (K := shopR ((fun i => [x0, x1, x2, x3, x4, x5, x6, x7, x8, x9, ba, bc, bw].getD i 0), A, c)) (.cons (.there .here) (.cons (.there .here) (.cons (.there .here) (.cons (.there .here) (.cons (.there (.there .here)) (.cons (.there (.there .here)) (.cons (.there (.there .here)) (.cons (.there (.there .here)) (.cons (.there (.there .here)) (.cons (.there (.there .here)) (.cons (.there (.there .here)) (.cons (.there (.there (.there .here))) (.cons (.there (.there (.there .here))) (.cons (.there (.there (.there .here))) .nil)))))))))))))) s).sep
def shopEdges : List Edg := [(nameE 0, [(0, 0), (10, 0)]), (nameE 1, [(10, 0), (10, 10)]), (nameE 2, [(10, 10), (0, 10)]), (nameE 3, [(0, 10), (0, 0)])]
def shopOps : List Opn := [⟨sSew, 0, 120, [], [0]⟩]
def shopSty : Sty := ⟨sShirt, [sS], [0], [⟨sFront, shopEdges, 2, [], [(0, 0), (0, 0), (0, 0), (0, 0)], [0, 0, 0, 0], false⟩], [(0, 1, false)], [], shopOps⟩
def shopBuns : List Bun := [⟨7, 0, 0, 0, 0, 10⟩]
def shopWrks : List Wrk := [⟨sAnn, [0]⟩]
def shopScns : List Scn := [⟨7, 0, 0, 5⟩]
section
variable {w0 w : World} {L : List Res} {x : (Nat → Nat) × Option Addr × Nat}
theorem line_sl {b k : Nat} (hb : w.heap[b]? = some (.cells atC 121 (0, 0))) (hk : k < 4) {p q : Int × Int} (h0 : atC[k * 2]? = some (.int .i64 p.1)) (h1 : atC[k * 2 + 1]? = some (.int .i64 p.2)) (h2 : atC[k * 2 + 2]? = some (.int .i64 q.1)) (h3 : atC[k * 2 + 3]? = some (.int .i64 q.2)) (hp : inI64 p.1 ∧ inI64 p.2) (hq : inI64 q.1 ∧ inI64 q.2) : Sl rSpot w w.heap.size (lineE b k) [p, q] := by
  have hlt : b < w.heap.size := (Array.getElem?_eq_some_iff.1 hb).1
  have hc : ∀ j u, atC[k * 2 + j]? = some u → w.cell? (((⟨b, 0, none⟩ : Addr).add (k * 2)).add j) = some u := fun j u hu => by
    rw [add_add, add_zero]
    simp only [World.cell?, hb]
    exact hu
  refine ⟨_, _, rfl, show 2 ≤ 5 - k by omega, show 5 - k ≤ maxLen by unfold maxLen; omega, fun i hi => ?_⟩
  have hi2 : i < 2 := hi
  obtain rfl | rfl : i = 0 ∨ i = 1 := by omega
  · refine ⟨_, [.int .i64 p.1, .int .i64 p.2], rfl, by rw [add_block]; exact hlt, fun j u hu => ?_, rfl, hp⟩
    match j, hu with
    | 0, hu => injection hu with hu; subst hu; exact hc 0 _ h0
    | 1, hu => injection hu with hu; subst hu; exact hc 1 _ h1
    | j + 2, hu => cases hu
  · refine ⟨_, [.int .i64 q.1, .int .i64 q.2], rfl, by rw [add_block]; exact hlt, fun j u hu => ?_, rfl, hq⟩
    match j, hu with
    | 0, hu => injection hu with hu; subst hu; exact hc 2 _ h2
    | 1, hu => injection hu with hu; subst hu; exact hc 3 _ h3
    | j + 2, hu => cases hu
theorem shop_edges (s : St w0 (shopR x ++ L) w) : Sl rEdge w w.heap.size (.slice x.2.1 4 x.2.2) shopEdges := by
  have hat : w.heap[x.1 10]? = some (.cells atC 121 (0, 0)) := s.drop.drop.drop.drop.drop.drop.drop.drop.drop.drop.drop.head
  refine Sl.ofOwn (R := rEdge) (el := 117) (xs := rowEd (x.1 10) 4) s.drop.drop.drop.drop.drop.drop.drop.drop.drop.drop .here rfl fun k hk => ?_
  have hk4 : k < 4 := hk
  have hi : ∀ i : Int, i = 0 ∨ i = 10 → inI64 i := fun i h => by unfold inI64; omega
  obtain rfl | rfl | rfl | rfl : k = 0 ∨ k = 1 ∨ k = 2 ∨ k = 3 := by omega
  · exact ⟨lineE (x.1 10) 0, rfl, (show (nameE 0).size ≤ maxLen by decide), line_sl hat (by decide) (p := (0, 0)) (q := (10, 0)) rfl rfl rfl rfl ⟨hi _ (by omega), hi _ (by omega)⟩ ⟨hi _ (by omega), hi _ (by omega)⟩⟩
  · exact ⟨lineE (x.1 10) 1, rfl, (show (nameE 1).size ≤ maxLen by decide), line_sl hat (by decide) (p := (10, 0)) (q := (10, 10)) rfl rfl rfl rfl ⟨hi _ (by omega), hi _ (by omega)⟩ ⟨hi _ (by omega), hi _ (by omega)⟩⟩
  · exact ⟨lineE (x.1 10) 2, rfl, (show (nameE 2).size ≤ maxLen by decide), line_sl hat (by decide) (p := (10, 10)) (q := (0, 10)) rfl rfl rfl rfl ⟨hi _ (by omega), hi _ (by omega)⟩ ⟨hi _ (by omega), hi _ (by omega)⟩⟩
  · exact ⟨lineE (x.1 10) 3, rfl, (show (nameE 3).size ≤ maxLen by decide), line_sl hat (by decide) (p := (0, 10)) (q := (0, 0)) rfl rfl rfl rfl ⟨hi _ (by omega), hi _ (by omega)⟩ ⟨hi _ (by omega), hi _ (by omega)⟩⟩
theorem shop_ops (s : St w0 (shopR x ++ L) w) : Sl rOp w w.heap.size (one (x.1 5)) shopOps := by
  have h5 : w.heap[x.1 5]? = some (.cells #[.string sSew, .int .i64 0, .int .i64 120, .slice none 0 0, one (x.1 4)] 89 (0, 0)) := s.drop.drop.drop.drop.head
  have h4 : w.heap[x.1 4]? = some (.cells #[.int .i64 0] 3 (0, 0)) := s.drop.drop.drop.drop.drop.head
  have a4 : Sl rInt w w.heap.size (one (x.1 4)) [0] := Sl.ofCells h4 rfl (by decide) (by decide) ⟨⟨rfl, inI rfl⟩, trivial⟩
  exact Sl.ofCells h5 rfl (by decide) (by decide) ⟨⟨_, _, _, _, rfl, ⟨by decide, inI rfl, inI rfl⟩, Sl.nil _ _, a4⟩, trivial⟩
theorem shop_sty (s : St w0 (shopR x ++ L) w) : StyV w w.heap.size (shopStyV x.1) shopSty := by
  have h3 : w.heap[x.1 3]? = some (.cells #[.int .i64 0, .int .i64 1, .bool false] 119 (0, 0)) := s.drop.drop.drop.drop.drop.drop.head
  have h2 : w.heap[x.1 2]? = some (.cells (pieceC x.2.1 4 x.2.2 (x.1 11) (x.1 12)) 115 (0, 0)) := s.drop.drop.drop.drop.drop.drop.drop.head
  have h1 : w.heap[x.1 1]? = some (.cells #[.int .i64 0] 3 (0, 0)) := s.drop.drop.drop.drop.drop.drop.drop.drop.head
  have h0 : w.heap[x.1 0]? = some (.cells #[.string sS] 9 (0, 0)) := s.drop.drop.drop.drop.drop.drop.drop.drop.drop.head
  have h11 : w.heap[x.1 11]? = some (.cells z8 121 (0, 0)) := s.drop.drop.drop.drop.drop.drop.drop.drop.drop.drop.drop.drop.head
  have h12 : w.heap[x.1 12]? = some (.cells z4 3 (0, 0)) := s.drop.drop.drop.drop.drop.drop.drop.drop.drop.drop.drop.drop.drop.head
  have a11 : Sl rSpot w w.heap.size (.slice (some ⟨x.1 11, 0, none⟩) 4 4) [(0, 0), (0, 0), (0, 0), (0, 0)] := Sl.ofCells h11 rfl (by decide) (by decide) ⟨⟨rfl, inI rfl, inI rfl⟩, ⟨rfl, inI rfl, inI rfl⟩, ⟨rfl, inI rfl, inI rfl⟩, ⟨rfl, inI rfl, inI rfl⟩, trivial⟩
  have a12 : Sl rInt w w.heap.size (.slice (some ⟨x.1 12, 0, none⟩) 4 4) [0, 0, 0, 0] := Sl.ofCells h12 rfl (by decide) (by decide) ⟨⟨rfl, inI rfl⟩, ⟨rfl, inI rfl⟩, ⟨rfl, inI rfl⟩, ⟨rfl, inI rfl⟩, trivial⟩
  exact ⟨_, _, _, _, _, _, _, _, _, _, _, _, rfl, (show sShirt.size ≤ maxLen by decide), Sl.ofCells h0 rfl (Nat.le_refl 1) (by decide) ⟨⟨rfl, by decide⟩, trivial⟩, Sl.ofCells h1 rfl (Nat.le_refl 1) (by decide) ⟨⟨rfl, inI rfl⟩, trivial⟩, Sl.ofCells h2 rfl (Nat.le_refl 1) (by decide) ⟨⟨_, _, _, _, _, _, _, _, rfl, ⟨by decide, inI rfl⟩, shop_edges s, Sl.nil _ _, a11, a12⟩, trivial⟩,
    Sl.ofCells h3 rfl (Nat.le_refl 1) (by decide) ⟨⟨rfl, inI rfl, inI rfl⟩, trivial⟩, Sl.nil _ _, shop_ops s⟩
theorem shop_buns (s : St w0 (shopR x ++ L) w) : Sl rBun w w.heap.size (one (x.1 6)) shopBuns := by
  have h : w.heap[x.1 6]? = some (.cells #[.int .i64 7, .int .i64 0, .int .i64 0, .int .i64 0, .int .i64 0, .int .i64 10] 49 (0, 0)) := s.drop.drop.drop.head
  exact Sl.ofCells h rfl (by decide) (by decide) ⟨⟨rfl, inI rfl, inI rfl, inI rfl⟩, trivial⟩
theorem shop_wrks (s : St w0 (shopR x ++ L) w) : Sl rWrk w w.heap.size (one (x.1 8)) shopWrks := by
  have h8 : w.heap[x.1 8]? = some (.cells #[.string sAnn, one (x.1 7)] 87 (0, 0)) := s.drop.head
  have h7 : w.heap[x.1 7]? = some (.cells #[.int .i64 0] 3 (0, 0)) := s.drop.drop.head
  have a7 : Sl rInt w w.heap.size (one (x.1 7)) [0] := Sl.ofCells h7 rfl (by decide) (by decide) ⟨⟨rfl, inI rfl⟩, trivial⟩
  exact Sl.ofCells h8 rfl (by decide) (by decide) ⟨⟨_, _, rfl, by decide, a7⟩, trivial⟩
theorem shop_scns (s : St w0 (shopR x ++ L) w) : Sl rScn w w.heap.size (one (x.1 9)) shopScns := by
  have h : w.heap[x.1 9]? = some (.cells #[.int .i64 7, .int .i64 0, .int .i64 0, .int .i64 5] 51 (0, 0)) := s.head
  exact Sl.ofCells h rfl (by decide) (by decide) ⟨⟨rfl, inI rfl, inI rfl, inI rfl, inI rfl⟩, trivial⟩
end
end Go.Proofs.YtljibjlkjelpbaaGreatDoor

/- Contracts: garmentlaw58.charges, light; the examples of the chapter 58 are met. -/
namespace Go.Proofs.YtljibjlkjelpbaaGreatDoor
open Go.RowKit
set_option maxRecDepth 100000
set_option maxHeartbeats 4000000

section
variable {w : World} {v0 v1 v2 v3 v4 v5 v6 vb vw vx vl : Value} {r le : Int} {s : Sty} {bs : List Bun} {ws : List Wrk} {xs : List Scn} {l : List Ret}
theorem charges_bad (hL : Lay w) (hs : StyV w w.heap.size (.agg #[v0, v1, v2, v3, v4, v5, v6]) s) (hb : Sl rBun w w.heap.size vb bs) (hw : Sl rWrk w w.heap.size vw ws) (hx : Sl rScn w w.heap.size vx xs) (hl : Sl rRet w w.heap.size vl l) (he : ¬ chgErr r le (opCheckE s plE) bs ws xs.length l.length = 0) :
    Ok Tryz.prog 27 [.agg #[v0, v1, v2, v3, v4, v5, v6, vb, vw, vx, .int .i64 r, .int .i64 le], vl].toArray w fun x _ => x = .tuple #[.slice none 0 0, .slice none 0 0, .int .i64 (chgErr r le (opCheckE s plE) bs ws xs.length l.length)] := by
  have hC : ∀ (L : List Res) (w' : World), St w L w' → Ok Tryz.prog 46 [.agg #[v0, v1, v2, v3, v4, v5, v6], vb, vw, vx, .agg #[.int .i64 r, .int .i64 le], vl].toArray w' fun x _ => x = .tuple #[.slice none 0 0, .slice none 0 0, .int .i64 (chgErr r le (opCheckE s plE) bs ws xs.length l.length)] := fun L w' s' => Charges_bad (hL.later s') (StyV.later s' hs) (hb.later s') (hw.later s') (hx.later s') (hl.later s') he
  refine ok_enter Tryz.func27 rfl Tryz.ntmps27 rfl ?_
  focus (refine gc_seq ?_; refine gc_region ?_; refine gw_boxd (v := .agg _) rfl rfl (fun _ => ?_); refine gM rfl rfl (by conv => (lhs; whnf)) ?_; refine gM rfl rfl (by conv => (lhs; whnf)) ?_; refine gM rfl rfl (by conv => (lhs; whnf)) ?_; refine gN ?_; refine gF rfl rfl rfl ?_; apply gw_d; exact w_load_part rfl rfl rfl .here rfl rfl; refine gF rfl rfl rfl ?_; apply gw_d; exact w_load_box rfl rfl rfl .here rfl; refine gF rfl rfl rfl ?_; apply gw_d; exact w_load_box rfl rfl rfl .here rfl; refine gF rfl rfl rfl ?_; apply gw_d; exact w_load_box rfl rfl rfl .here rfl; refine gF rfl rfl rfl ?_; apply gw_d; exact w_load_part rfl rfl rfl .here rfl rfl; refine gM rfl rfl (by conv => (lhs; whnf)) ?_; apply gw_d; exact w_call rfl rfl (hC _) rfl; apply gw_d; exact det_extract rfl rfl rfl (by conv => (lhs; whnf)); apply gw_d; exact det_extract rfl rfl rfl (by conv => (lhs; whnf)); apply gw_d; exact det_extract rfl rfl rfl (by conv => (lhs; whnf)); refine gM rfl rfl (by conv => (lhs; whnf)) ?_; refine gM rfl rfl (by conv => (lhs; whnf)) ?_; refine gM rfl rfl (by conv => (lhs; whnf)) ?_; refine gO ?_; refine gc_ret ?_)
  refine gx_ret3 (u := .slice _ _ _) (v := .slice _ _ _) (x := .int _ _) rfl rfl rfl rfl (fun _ _ => ?_)
  rfl
theorem charges_ok (hL : Lay w) (hs : StyV w w.heap.size (.agg #[v0, v1, v2, v3, v4, v5, v6]) s) (hb : Sl rBun w w.heap.size vb bs) (hw : Sl rWrk w w.heap.size vw ws) (hx : Sl rScn w w.heap.size vx xs) (hl : Sl rRet w w.heap.size vl l) (he : chgErr r le (opCheckE s plE) bs ws xs.length l.length = 0) :
    OkM Tryz.prog 27 [.agg #[v0, v1, v2, v3, v4, v5, v6, vb, vw, vx, .int .i64 r, .int .i64 le], vl].toArray w
      (fun x : (Option Addr × Nat) × Nat => .tuple #[.slice x.1.1 (chgL r le s.ops bs (paidL s.ops ws (ticks bs) xs) l).length x.1.2, .slice (some ⟨x.2, 0, none⟩) l.length l.length, .int .i64 0])
      (fun x => [Own x.1.1 (chgL r le s.ops bs (paidL s.ops ws (ticks bs) xs) l).length x.1.2 74 5 ((chgL r le s.ops bs (paidL s.ops ws (ticks bs) xs) l).flatMap encC), Box x.2 3 ((outsR (okR s.ops.length bs (paidL s.ops ws (ticks bs) xs)) [] l).map (Value.int .i64)).toArray]) := by
  have hC := fun (L : List Res) (w' : World) (s' : St w L w') => Charges_ok (hL.later s') (StyV.later s' hs) (hb.later s') (hw.later s') (hx.later s') (hl.later s') he
  generalize chgL r le s.ops bs (paidL s.ops ws (ticks bs) xs) l = cl at hC ⊢
  generalize outsR (okR s.ops.length bs (paidL s.ops ws (ticks bs) xs)) [] l = ol at hC ⊢
  unfold OkM
  refine ok_enter Tryz.func27 rfl Tryz.ntmps27 rfl ?_
  focus (refine gc_seq ?_; refine gc_region ?_; refine gw_boxd (v := .agg _) rfl rfl (fun _ => ?_); refine gM rfl rfl (by conv => (lhs; whnf)) ?_; refine gM rfl rfl (by conv => (lhs; whnf)) ?_; refine gM rfl rfl (by conv => (lhs; whnf)) ?_; refine gN ?_; refine gF rfl rfl rfl ?_; apply gw_d; exact w_load_part rfl rfl rfl .here rfl rfl; refine gF rfl rfl rfl ?_; apply gw_d; exact w_load_box rfl rfl rfl .here rfl; refine gF rfl rfl rfl ?_; apply gw_d; exact w_load_box rfl rfl rfl .here rfl; refine gF rfl rfl rfl ?_; apply gw_d; exact w_load_box rfl rfl rfl .here rfl; refine gF rfl rfl rfl ?_; apply gw_d; exact w_load_part rfl rfl rfl .here rfl rfl; refine gM rfl rfl (by conv => (lhs; whnf)) ?_)
  refine gw_callm rfl (hC _) rfl (fun x => ?_)
  obtain ⟨⟨A, ca⟩, bo⟩ := x
  focus (apply gw_d; exact det_extract rfl rfl rfl (by conv => (lhs; whnf)); apply gw_d; exact det_extract rfl rfl rfl (by conv => (lhs; whnf)); apply gw_d; exact det_extract rfl rfl rfl (by conv => (lhs; whnf)); refine gM rfl rfl (by conv => (lhs; whnf)) ?_; refine gM rfl rfl (by conv => (lhs; whnf)) ?_; refine gM rfl rfl (by conv => (lhs; whnf)) ?_; refine gO ?_; refine gc_ret ?_)
  exact gx_ret3 (u := .slice _ _ _) (v := .slice _ _ _) (x := .int _ _) rfl rfl rfl rfl (fun w' s' => ⟨((A, ca), bo), rfl, (St.sub (K := [Own A cl.length ca 74 5 (cl.flatMap encC), Box bo 3 (ol.map (Value.int .i64)).toArray]) (.cons .here (.cons .here .nil)) s').sep⟩)
end

theorem light58_ok (w : World) (v : Value) (c : Shp) (hc : ShopV w v c) : OkM Tryz.prog 26 [v].toArray w (fun b : Bool => .bool b) (fun _ => []) := by
  obtain ⟨v0, v1, v2, v3, v4, v5, v6, vb, vw, vx, rfl, hs, hb, hw, hx⟩ := hc
  have h6 := sty_ops hs
  obtain ⟨Al, cl, rfl, hlc, hlm⟩ := len_small h6
  obtain ⟨Ab, cb, rfl, hbc, hbm⟩ := len_small hb
  obtain ⟨Aw, cw, rfl, hwc, hwm⟩ := len_small hw
  obtain ⟨Ax, cx, rfl, hxc, hxm⟩ := len_small hx
  have hS : ∀ (L : List Res) (w' : World), St w L w' → OkM Tryz.prog 45 [.agg #[v0, v1, v2, v3, v4, v5, .slice Al c.sty.ops.length cl]].toArray w' (fun b : Bool => .bool b) (fun _ => []) := fun L w' s' => light_ok w' _ c.sty (StyV.later s' hs)
  unfold OkM
  refine ok_enter Tryz.func26 rfl Tryz.ntmps26 rfl ?_
  focus (refine gc_seq ?_; refine gc_region ?_; refine gw_boxd (v := .agg _) rfl rfl (fun _ => ?_); refine gM rfl rfl (by conv => (lhs; whnf)) ?_; refine gO ?_; refine gc_seq ?_; refine gc_seq ?_; refine gc_region ?_; refine gF rfl rfl rfl ?_; apply gw_d; exact w_load_part rfl rfl rfl .here rfl rfl)
  refine gw_callm rfl (hS _) rfl (fun b => ?_)
  focus (apply gw_d; exact det_not_ rfl rfl rfl; refine gM rfl rfl (by conv => (lhs; whnf)) ?_; refine gw_guard rfl rfl (fun _ => ?_) (fun _ => ?_); refine gU rfl ?_; refine gU rfl ?_; refine gU rfl ?_; refine gU rfl ?_; apply gw_d; exact det_pick_t (v := .bool _) rfl rfl rfl rfl; refine gM rfl rfl (by conv => (lhs; whnf)) ?_; refine gU rfl ?_; refine gU rfl ?_; refine gU rfl ?_; refine gU rfl ?_; apply gw_d; exact det_pick_t (v := .bool _) rfl rfl rfl rfl; refine gM rfl rfl (by conv => (lhs; whnf)) ?_; refine gU rfl ?_; refine gU rfl ?_; refine gU rfl ?_; refine gU rfl ?_; apply gw_d; exact det_pick_t (v := .bool _) rfl rfl rfl rfl; refine gO ?_; refine gc_if_true rfl ?_; refine gc_seq ?_; refine gc_region ?_; refine gM rfl rfl (by conv => (lhs; whnf)) ?_; refine gO ?_; refine gc_ret ?_; refine gx_then_ret ?_; rotate_left; refine gF rfl rfl rfl ?_; apply gw_d; exact w_load_box rfl rfl rfl .here rfl; refine gL rfl rfl rfl ?_; refine gC rfl rfl rfl rfl rfl ?_; apply gw_d; exact det_pick_f (v := .bool _) rfl rfl rfl rfl; refine gM rfl rfl (by conv => (lhs; whnf)) ?_; refine gw_guard_dec rfl rfl (fun _ => ?_) (fun _ => ?_); refine gU rfl ?_; refine gU rfl ?_; refine gU rfl ?_; refine gU rfl ?_; apply gw_d; exact det_pick_t (v := .bool _) rfl rfl rfl rfl; refine gM rfl rfl (by conv => (lhs; whnf)) ?_; refine gU rfl ?_; refine gU rfl ?_; refine gU rfl ?_; refine gU rfl ?_; apply gw_d; exact det_pick_t (v := .bool _) rfl rfl rfl rfl; refine gO ?_; refine gc_if_true rfl ?_; refine gc_seq ?_; refine gc_region ?_; refine gM rfl rfl (by conv => (lhs; whnf)) ?_; refine gO ?_; refine gc_ret ?_; refine gx_then_ret ?_; rotate_left; refine gF rfl rfl rfl ?_; apply gw_d; exact w_load_box rfl rfl rfl .here rfl; refine gL rfl rfl rfl ?_; refine gC rfl rfl rfl rfl rfl ?_; apply gw_d; exact det_pick_f (v := .bool _) rfl rfl rfl rfl; refine gM rfl rfl (by conv => (lhs; whnf)) ?_; refine gw_guard_dec rfl rfl (fun _ => ?_) (fun _ => ?_); refine gU rfl ?_; refine gU rfl ?_; refine gU rfl ?_; refine gU rfl ?_; apply gw_d; exact det_pick_t (v := .bool _) rfl rfl rfl rfl; refine gO ?_; refine gc_if_true rfl ?_; refine gc_seq ?_; refine gc_region ?_; refine gM rfl rfl (by conv => (lhs; whnf)) ?_; refine gO ?_; refine gc_ret ?_; refine gx_then_ret ?_; rotate_left; refine gF rfl rfl rfl ?_; apply gw_d; exact w_load_box rfl rfl rfl .here rfl; refine gL rfl rfl rfl ?_; refine gC rfl rfl rfl rfl rfl ?_; apply gw_d; exact det_pick_f (v := .bool _) rfl rfl rfl rfl; refine gO ?_; refine gc_if_dec rfl (fun _ => ?_) (fun _ => ?_); refine gc_seq ?_; refine gc_region ?_; refine gM rfl rfl (by conv => (lhs; whnf)) ?_; refine gO ?_; refine gc_ret ?_; refine gx_then_ret ?_; rotate_left; refine gc_skip ?_; refine gx_next ?_; refine gc_seq ?_; refine gc_seq ?_; refine gc_region ?_; refine gM rfl rfl (by conv => (lhs; whnf)) ?_; refine gO ?_; refine gc_block ?_; rotate_left)
  all_goals first | exact gx_ret1 (v := .bool _) rfl rfl (fun _ _ => ⟨_, rfl, trivial⟩) | skip
  refine gc_loopK (σ := Nat) [27, 28, 29, 30, 31, 34, 35, 36, 37, 38, 39, 40, 41, 42, 43, 44, 45, 46, 47, 48, 49, 50, 51, 2, 32, 33, 3] (fun k => [(3, .int .i64 k)]) (fun k => k ≤ c.ws.length) (fun k => c.ws.length - k) 0 (Nat.zero_le _) ⟨rfl, trivial⟩ ?_
  rintro k base hk
  focus (refine gc_seq ?_; refine gc_seq ?_; refine gc_region ?_; refine gM rfl rfl (by conv => (lhs; whnf)) ?_; refine gF rfl rfl rfl ?_; apply gw_d; exact w_load_box rfl rfl rfl .here rfl; refine gL rfl rfl rfl ?_; refine gC rfl rfl rfl rfl rfl ?_; refine gO ?_)
  refine gc_if_dec rfl (fun h => ?_) (fun h => ?_)
  · have hlt : k < c.ws.length := by omega
    obtain ⟨ad, _, hv, _, _, hb1, hcell⟩ := hw.at' 2 rfl (by omega)
    injection hv with e1 e2 e3
    subst e1 e3
    obtain ⟨cs', hce, A1, c1, rfl, hn1, q1⟩ := hcell k hlt
    have hce0 := hce 0 _ rfl
    have hce1 := hce 1 _ rfl
    focus (refine gc_skip ?_; refine gx_next ?_; refine gc_seq ?_; refine gc_block ?_; refine gc_seq ?_; refine gc_region ?_; refine gF rfl rfl rfl ?_; apply gw_d; exact w_load_box rfl rfl rfl .here rfl; refine gM rfl rfl (by conv => (lhs; whnf)) ?_; apply gw_d; exact w_index rfl rfl rfl rfl (by with_reducible exact rfl) (by omega); refine gF rfl rfl rfl ?_; apply gw_d; exact w_load_fld rfl rfl rfl (by assumption) (by assumption); refine gL rfl rfl rfl ?_; refine gC rfl rfl rfl rfl rfl ?_; refine gM rfl rfl (by conv => (lhs; whnf)) ?_; refine gw_guard_dec rfl rfl (fun _ => ?_) (fun _ => ?_); refine gU rfl ?_; refine gU rfl ?_; refine gU rfl ?_; refine gU rfl ?_; refine gU rfl ?_; refine gU rfl ?_; refine gU rfl ?_; refine gU rfl ?_; apply gw_d; exact det_pick_t (v := .bool _) rfl rfl rfl rfl; refine gO ?_; refine gc_if_true rfl ?_; refine gc_seq ?_; refine gc_region ?_; refine gM rfl rfl (by conv => (lhs; whnf)) ?_; refine gO ?_; refine gc_ret ?_; refine gx_block_ret ?_; refine gx_then_ret ?_; refine gx_then_ret ?_; refine gx_block_ret ?_; refine gx_then_ret ?_; rotate_left; refine gF rfl rfl rfl ?_; apply gw_d; exact w_load_box rfl rfl rfl .here rfl; refine gM rfl rfl (by conv => (lhs; whnf)) ?_; apply gw_d; exact w_index rfl rfl rfl rfl (by with_reducible exact rfl) (by omega); refine gF rfl rfl rfl ?_; apply gw_d; exact w_load_fld rfl rfl rfl (by assumption) (by assumption); apply gw_d; exact w_len_str rfl rfl rfl; refine gC rfl rfl rfl rfl rfl ?_; apply gw_d; exact det_pick_f (v := .bool _) rfl rfl rfl rfl; refine gO ?_; refine gc_if_dec rfl (fun _ => ?_) (fun _ => ?_); refine gc_seq ?_; refine gc_region ?_; refine gM rfl rfl (by conv => (lhs; whnf)) ?_; refine gO ?_; refine gc_ret ?_; refine gx_block_ret ?_; refine gx_then_ret ?_; refine gx_then_ret ?_; refine gx_block_ret ?_; refine gx_then_ret ?_; rotate_left; refine gc_skip ?_; refine gx_block ?_; refine gx_next ?_; refine gc_region ?_; refine gM rfl rfl (by conv => (lhs; whnf)) ?_; apply gw_d; exact det_ar rfl rfl rfl rfl rfl (by omega); refine gM rfl rfl (by conv => (lhs; whnf)) ?_; refine gw_nil ?_; rotate_left)
    all_goals first | exact gx_ret1 (v := .bool _) rfl rfl (fun _ _ => ⟨_, rfl, trivial⟩) | skip
    all_goals exact gx_round (k + 1) (by omega) (by omega) (by repeat (first | exact Keeps.refl | refine Keeps.upd rfl ?_ | refine Keeps.sets rfl ?_ | refine Keeps.havoc rfl ?_)) ⟨rfl, trivial⟩ (Sub.all _)
  focus (refine gc_exit ?_; refine gx_then_exit ?_; refine gx_then_exit ?_; refine gx_block_exit ?_; refine gx_next ?_; refine gc_seq ?_; refine gc_seq ?_; refine gc_region ?_; refine gM rfl rfl (by conv => (lhs; whnf)) ?_; refine gO ?_; refine gc_block ?_)
  refine gc_loopK (σ := Nat) [52, 53, 54, 55, 56, 57, 60, 61, 62, 63, 64, 65, 66, 67, 68, 69, 70, 71, 72, 73, 74, 75, 76, 77, 78, 79, 80, 81, 82, 83, 84, 85, 86, 87, 88, 89, 90, 2, 58, 59, 4] (fun k => [(4, .int .i64 k)]) (fun k => k ≤ c.sty.ops.length) (fun k => c.sty.ops.length - k) 0 (Nat.zero_le _) ⟨rfl, trivial⟩ ?_
  rintro k2 base2 hk2
  focus (refine gc_seq ?_; refine gc_seq ?_; refine gc_region ?_; refine gM rfl rfl (by conv => (lhs; whnf)) ?_; refine gF rfl rfl rfl ?_; refine gF rfl rfl rfl ?_; apply gw_d; exact w_load_box rfl rfl rfl .here rfl; refine gL rfl rfl rfl ?_; refine gC rfl rfl rfl rfl rfl ?_; refine gO ?_)
  refine gc_if_dec rfl (fun h => ?_) (fun h => ?_)
  · have hlt : k2 < c.sty.ops.length := by omega
    obtain ⟨ad, _, hv, _, _, hb1, hcell⟩ := h6.at' 5 rfl (by omega)
    injection hv with e1 e2 e3
    subst e1 e3
    obtain ⟨cs', hce, Aa, ca, Au, cu, rfl, hnm, q1, q2⟩ := hcell k2 hlt
    have hce0 := hce 0 _ rfl
    have hce3 := hce 3 _ rfl
    have hce4 := hce 4 _ rfl
    focus (refine gc_skip ?_; refine gx_next ?_; refine gc_seq ?_; refine gc_block ?_; refine gc_seq ?_; refine gc_region ?_; refine gF rfl rfl rfl ?_; refine gF rfl rfl rfl ?_; apply gw_d; exact w_load_box rfl rfl rfl .here rfl; refine gM rfl rfl (by conv => (lhs; whnf)) ?_; apply gw_d; exact w_index rfl rfl rfl rfl (by with_reducible exact rfl) (by omega); refine gF rfl rfl rfl ?_; apply gw_d; exact w_load_fld rfl rfl rfl (by assumption) (by assumption); refine gL rfl rfl rfl ?_; refine gC rfl rfl rfl rfl rfl ?_; refine gM rfl rfl (by conv => (lhs; whnf)) ?_; refine gw_guard_dec rfl rfl (fun _ => ?_) (fun _ => ?_); refine gU rfl ?_; refine gU rfl ?_; refine gU rfl ?_; refine gU rfl ?_; refine gU rfl ?_; refine gU rfl ?_; refine gU rfl ?_; refine gU rfl ?_; refine gU rfl ?_; apply gw_d; exact det_pick_t (v := .bool _) rfl rfl rfl rfl; refine gM rfl rfl (by conv => (lhs; whnf)) ?_; refine gU rfl ?_; refine gU rfl ?_; refine gU rfl ?_; refine gU rfl ?_; refine gU rfl ?_; refine gU rfl ?_; refine gU rfl ?_; refine gU rfl ?_; refine gU rfl ?_; apply gw_d; exact det_pick_t (v := .bool _) rfl rfl rfl rfl; refine gO ?_; refine gc_if_true rfl ?_; refine gc_seq ?_; refine gc_region ?_; refine gM rfl rfl (by conv => (lhs; whnf)) ?_; refine gO ?_; refine gc_ret ?_; refine gx_block_ret ?_; refine gx_then_ret ?_; refine gx_then_ret ?_; refine gx_block_ret ?_; refine gx_then_ret ?_; rotate_left; refine gF rfl rfl rfl ?_; refine gF rfl rfl rfl ?_; apply gw_d; exact w_load_box rfl rfl rfl .here rfl; refine gM rfl rfl (by conv => (lhs; whnf)) ?_; apply gw_d; exact w_index rfl rfl rfl rfl (by with_reducible exact rfl) (by omega); refine gF rfl rfl rfl ?_; apply gw_d; exact w_load_fld rfl rfl rfl (by assumption) (by assumption); refine gL rfl rfl rfl ?_; refine gC rfl rfl rfl rfl rfl ?_; apply gw_d; exact det_pick_f (v := .bool _) rfl rfl rfl rfl; refine gM rfl rfl (by conv => (lhs; whnf)) ?_; refine gw_guard_dec rfl rfl (fun _ => ?_) (fun _ => ?_); refine gU rfl ?_; refine gU rfl ?_; refine gU rfl ?_; refine gU rfl ?_; refine gU rfl ?_; refine gU rfl ?_; refine gU rfl ?_; refine gU rfl ?_; refine gU rfl ?_; apply gw_d; exact det_pick_t (v := .bool _) rfl rfl rfl rfl; refine gO ?_; refine gc_if_true rfl ?_; refine gc_seq ?_; refine gc_region ?_; refine gM rfl rfl (by conv => (lhs; whnf)) ?_; refine gO ?_; refine gc_ret ?_; refine gx_block_ret ?_; refine gx_then_ret ?_; refine gx_then_ret ?_; refine gx_block_ret ?_; refine gx_then_ret ?_; rotate_left; refine gF rfl rfl rfl ?_; refine gF rfl rfl rfl ?_; apply gw_d; exact w_load_box rfl rfl rfl .here rfl; refine gM rfl rfl (by conv => (lhs; whnf)) ?_; apply gw_d; exact w_index rfl rfl rfl rfl (by with_reducible exact rfl) (by omega); refine gF rfl rfl rfl ?_; apply gw_d; exact w_load_fld rfl rfl rfl (by assumption) (by assumption); apply gw_d; exact w_len_str rfl rfl rfl; refine gC rfl rfl rfl rfl rfl ?_; apply gw_d; exact det_pick_f (v := .bool _) rfl rfl rfl rfl; refine gO ?_; refine gc_if_dec rfl (fun _ => ?_) (fun _ => ?_); refine gc_seq ?_; refine gc_region ?_; refine gM rfl rfl (by conv => (lhs; whnf)) ?_; refine gO ?_; refine gc_ret ?_; refine gx_block_ret ?_; refine gx_then_ret ?_; refine gx_then_ret ?_; refine gx_block_ret ?_; refine gx_then_ret ?_; rotate_left; refine gc_skip ?_; refine gx_block ?_; refine gx_next ?_; refine gc_region ?_; refine gM rfl rfl (by conv => (lhs; whnf)) ?_; apply gw_d; exact det_ar rfl rfl rfl rfl rfl (by omega); refine gM rfl rfl (by conv => (lhs; whnf)) ?_; refine gw_nil ?_; rotate_left)
    all_goals first | exact gx_ret1 (v := .bool _) rfl rfl (fun _ _ => ⟨_, rfl, trivial⟩) | skip
    all_goals exact gx_round (k2 + 1) (by omega) (by omega) (by repeat (first | exact Keeps.refl | refine Keeps.upd rfl ?_ | refine Keeps.sets rfl ?_ | refine Keeps.havoc rfl ?_)) ⟨rfl, trivial⟩ (Sub.all _)
  · focus (refine gc_exit ?_; refine gx_then_exit ?_; refine gx_then_exit ?_; refine gx_block_exit ?_; refine gx_next ?_; refine gc_seq ?_; refine gc_region ?_; refine gM rfl rfl (by conv => (lhs; whnf)) ?_; refine gO ?_; refine gc_ret ?_)
    exact gx_ret1 (v := .bool _) rfl rfl (fun _ _ => ⟨_, rfl, trivial⟩)

/-! ### The examples -/
def rets4 : List Ret := [⟨7, 0, 0⟩, ⟨7, 9, 0⟩, ⟨7, 0, 0⟩, ⟨8, 0, 0⟩]
def chgs2 : List Chg := [⟨0, 7, 0, 0, 4⟩, ⟨0, 7, 9, 0, 3⟩]
theorem e58a : opCheckE shopSty plE = 0 := by kernel_rfl
theorem e58b : chgErr 260 0 0 shopBuns shopWrks 1 4 = 0 := by kernel_rfl
theorem e58c : chgL 260 0 shopOps shopBuns (paidL shopOps shopWrks (ticks shopBuns) shopScns) rets4 = chgs2 := by kernel_rfl
theorem e58d : outsR (okR shopOps.length shopBuns (paidL shopOps shopWrks (ticks shopBuns) shopScns)) [] rets4 = [1, 1, 2, 3] := by kernel_rfl
theorem e58e : trE shopOps.length shopBuns (paidL shopOps shopWrks (ticks shopBuns) shopScns) ⟨7, 10, 0⟩ = 3 := by kernel_rfl
theorem e58f : trW shopOps.length shopBuns (paidL shopOps shopWrks (ticks shopBuns) shopScns) ⟨7, 10, 0⟩ = 0 := by kernel_rfl
theorem e58g : netE chgs2 [⟨0, 5, 2⟩] = 0 := by kernel_rfl
theorem e58h : netL chgs2 [⟨0, 5, 2⟩] = [2] := by kernel_rfl
theorem e58i : judgeAllE 0 shopBuns shopWrks 1 = 0 := by kernel_rfl
def ret12 : Array Value := #[.int .i64 7, .int .i64 0, .int .i64 0, .int .i64 7, .int .i64 9, .int .i64 0, .int .i64 7, .int .i64 0, .int .i64 0, .int .i64 8, .int .i64 0, .int .i64 0]
theorem chgs2_rep {w : World} {S : Nat → Prop} : ∀ q ∈ chgs2, rChg.rep w S q (encC q) := fun q hq => by
  unfold chgs2 at hq
  simp only [List.mem_cons, List.not_mem_nil, or_false] at hq
  rcases hq with rfl | rfl
  · exact ⟨rfl, inI rfl, inI rfl, inI rfl, inI rfl, inI rfl⟩
  · exact ⟨rfl, inI rfl, inI rfl, inI rfl, inI rfl, inI rfl⟩
section
variable {w0 w : World} {L : List Res} {x : (Nat → Nat) × Option Addr × Nat} {b : Nat}
theorem shop_charges (s : St w0 (Box b 76 ret12 :: (shopR x ++ L)) w) (hL : Lay w) : OkM Tryz.prog 27 [shopV58 x, .slice (some ⟨b, 0, none⟩) 4 4].toArray w (fun y : (Option Addr × Nat) × Nat => .tuple #[.slice y.1.1 2 y.1.2, .slice (some ⟨y.2, 0, none⟩) 4 4, .int .i64 0]) (fun y => [Own y.1.1 2 y.1.2 74 5 (chgs2.flatMap encC), Box y.2 3 #[.int .i64 1, .int .i64 1, .int .i64 2, .int .i64 3]]) := by
  have hl : Sl rRet w w.heap.size (.slice (some ⟨b, 0, none⟩) 4 4) rets4 := Sl.ofCells s.head rfl (by decide) (by decide) ⟨⟨rfl, inI rfl, inI rfl, inI rfl⟩, ⟨rfl, inI rfl, inI rfl, inI rfl⟩, ⟨rfl, inI rfl, inI rfl, inI rfl⟩, ⟨rfl, inI rfl, inI rfl, inI rfl⟩, trivial⟩
  have h := charges_ok (r := 260) (le := 0) hL (shop_sty s.drop) (shop_buns s.drop) (shop_wrks s.drop) (shop_scns s.drop) hl (by rw [e58a]; exact e58b)
  change OkM _ _ _ _ (fun y : (Option Addr × Nat) × Nat => .tuple #[.slice y.1.1 (chgL 260 0 shopOps shopBuns (paidL shopOps shopWrks (ticks shopBuns) shopScns) rets4).length y.1.2, _, _]) (fun y => [Own y.1.1 (chgL 260 0 shopOps shopBuns (paidL shopOps shopWrks (ticks shopBuns) shopScns) rets4).length y.1.2 _ _ ((chgL 260 0 shopOps shopBuns (paidL shopOps shopWrks (ticks shopBuns) shopScns) rets4).flatMap encC), Box y.2 _ ((outsR (okR shopOps.length shopBuns (paidL shopOps shopWrks (ticks shopBuns) shopScns)) [] rets4).map (Value.int .i64)).toArray]) at h
  rw [e58c, e58d] at h
  exact h
theorem shop_trace (s : St w0 (shopR x ++ L) w) : Ok Tryz.prog 28 [shopStyV x.1, one (x.1 6), one (x.1 8), one (x.1 9), .agg #[.int .i64 7, .int .i64 10, .int .i64 0]].toArray w fun y _ => y = .tuple #[.int .i64 0, .int .i64 3] := by
  have h := Trace_ok ⟨7, 10, 0⟩ (shop_sty s) (shop_buns s) (shop_wrks s) (shop_scns s) (by rw [e58a]; exact e58i)
  change Ok _ _ _ _ (fun y _ => y = .tuple #[.int .i64 (trW shopOps.length shopBuns (paidL shopOps shopWrks (ticks shopBuns) shopScns) ⟨7, 10, 0⟩), .int .i64 (trE shopOps.length shopBuns (paidL shopOps shopWrks (ticks shopBuns) shopScns) ⟨7, 10, 0⟩)]) at h
  rw [e58e, e58f] at h
  exact h
theorem shop_net {A : Option Addr} {c : Nat} (s : St w0 (Box b 44 #[.int .i64 0, .int .i64 5, .int .i64 2] :: Own A 2 c 74 5 (chgs2.flatMap encC) :: L) w) : OkM Tryz.prog 23 [.slice (some ⟨b, 0, none⟩) 1 1, .slice A 2 c].toArray w (fun y : Nat => .tuple #[.slice (some ⟨y, 0, none⟩) 1 1, .int .i64 0]) (fun y => [Box y 3 #[.int .i64 2]]) := by
  have h := Net_all w (.slice (some ⟨b, 0, none⟩) 1 1) (.slice A 2 c) [⟨0, 5, 2⟩] chgs2 (Sl.ofCells s.head rfl (by decide) (by decide) ⟨⟨rfl, inI rfl, inI rfl, inI rfl⟩, trivial⟩) (Sl.own (R := rChg) (enc := encC) s (.there .here) rfl chgs2_rep) (by decide)
  unfold netRes netOwn at h
  simp only [if_pos e58g, e58h] at h
  exact h
end
theorem alive_ok (w : World) (hL : Lay w) : Ok Tryz.prog 22 [].toArray w fun r _ => r = .bool true := by
  refine ok_enter Tryz.func22 rfl Tryz.ntmps22 rfl ?_
  focus (refine gc_seq ?_; refine gc_region ?_; refine gM rfl rfl (by conv => (lhs; whnf)) ?_; refine gN ?_)
  refine gw_callm rfl (fun w s => shop_ok w) rfl (fun x => ?_)
  focus (refine w_alloc rfl (fun _ => ?_); refine w_store_all rfl rfl rfl rfl rfl .here rfl ?_; refine gN ?_; apply gw_d; exact w_load_boxN rfl rfl rfl .here rfl)
  rename_i bx
  refine gw_ent (K := Box bx 66 (shopV58 x).cells :: (shopR x ++ [])) (Sub.ent (.cons .here (Sub.all _))) ?_
  focus (apply gw_d; exact w_buildP [(0, .int .i64 7), (1, .int .i64 0)] (cells := #[.int .i64 7, .int .i64 0, .int .i64 0]) (by kernel_rfl) rfl rfl rfl; apply gw_d; exact w_buildP [(0, .int .i64 7), (1, .int .i64 9)] (cells := #[.int .i64 7, .int .i64 9, .int .i64 0]) (by kernel_rfl) rfl rfl rfl; apply gw_d; exact w_buildP [(0, .int .i64 7), (1, .int .i64 0)] (cells := #[.int .i64 7, .int .i64 0, .int .i64 0]) (by kernel_rfl) rfl rfl rfl; apply gw_d; exact w_buildP [(0, .int .i64 8)] (cells := #[.int .i64 8, .int .i64 0, .int .i64 0]) (by kernel_rfl) rfl rfl rfl)
  refine gw_bslice (cells := ret12) rfl ?_ ?_ ?_ (fun b4 => ?_)
  · rfl
  · rfl
  · kernel_rfl
  refine gw_ent (K := Box b4 76 ret12 :: (shopR x ++ [Box bx 66 (shopV58 x).cells])) (Sub.ent (.cons .here (.cons (.there .here) (.cons (.there .here) (.cons (.there .here) (.cons (.there .here) (.cons (.there .here) (.cons (.there .here) (.cons (.there .here) (.cons (.there .here) (.cons (.there .here) (.cons (.there .here) (.cons (.there .here) (.cons (.there .here) (.cons (.there .here) (.cons (.there .here) (.cons .here .nil))))))))))))))))) ?_
  refine gw_callm rfl (fun w s => shop_charges s (hL.later s)) rfl (fun y => ?_)
  obtain ⟨⟨A, ca⟩, bo⟩ := y
  refine gw_ent (K := Own A 2 ca 74 5 (chgs2.flatMap encC) :: Box bo 3 #[.int .i64 1, .int .i64 1, .int .i64 2, .int .i64 3] :: Box bx 66 (shopV58 x).cells :: (shopR x ++ [])) (Sub.ent (.cons .here (.cons .here (.cons (.there (.there (.there (.there (.there (.there (.there (.there (.there (.there (.there (.there (.there (.there (.there .here))))))))))))))) (.cons (.there .here) (.cons (.there .here) (.cons (.there .here) (.cons (.there .here) (.cons (.there .here) (.cons (.there .here) (.cons (.there .here) (.cons (.there .here) (.cons (.there .here) (.cons (.there .here) (.cons (.there .here) (.cons (.there .here) (.cons (.there .here) (.cons (.there .here) .nil)))))))))))))))))) ?_
  focus (refine gM rfl rfl (by conv => (lhs; whnf)) ?_; apply gw_d; exact det_extract rfl rfl rfl (by conv => (lhs; whnf)); apply gw_d; exact det_extract rfl rfl rfl (by conv => (lhs; whnf)); apply gw_d; exact det_extract rfl rfl rfl (by conv => (lhs; whnf)); refine gM rfl rfl (by conv => (lhs; whnf)) ?_; refine gM rfl rfl (by conv => (lhs; whnf)) ?_; refine gM rfl rfl (by conv => (lhs; whnf)) ?_; refine gN ?_; refine gF rfl rfl rfl ?_; apply gw_d; exact w_load_part rfl rfl rfl (.there (.there .here)) rfl rfl; refine gF rfl rfl rfl ?_; apply gw_d; exact w_load_box rfl rfl rfl (.there (.there .here)) rfl; refine gF rfl rfl rfl ?_; apply gw_d; exact w_load_box rfl rfl rfl (.there (.there .here)) rfl; refine gF rfl rfl rfl ?_; apply gw_d; exact w_load_box rfl rfl rfl (.there (.there .here)) rfl; apply gw_d; exact w_buildP [(0, .int .i64 7), (1, .int .i64 10)] (cells := #[.int .i64 7, .int .i64 10, .int .i64 0]) (by kernel_rfl) rfl rfl rfl; apply gw_d; exact w_call rfl rfl (fun w s => shop_trace s.drop.drop.drop) rfl; refine gM rfl rfl (by conv => (lhs; whnf)) ?_; apply gw_d; exact det_extract rfl rfl rfl (by conv => (lhs; whnf)); apply gw_d; exact det_extract rfl rfl rfl (by conv => (lhs; whnf)); refine gM rfl rfl (by conv => (lhs; whnf)) ?_; refine gM rfl rfl (by conv => (lhs; whnf)) ?_; refine gN ?_; apply gw_d; exact w_buildP [(0, .int .i64 0), (1, .int .i64 5), (2, .int .i64 2)] (cells := #[.int .i64 0, .int .i64 5, .int .i64 2]) (by kernel_rfl) rfl rfl rfl)
  refine gw_bslice1 (v := .agg #[.int .i64 0, .int .i64 5, .int .i64 2]) rfl rfl rfl rfl rfl (fun b5 => ?_)
  focus (refine gM rfl rfl (by conv => (lhs; whnf)) ?_)
  refine gw_callm rfl (fun w s => shop_net s) rfl (fun bn => ?_)
  refine gw_ent (K := [Own A 2 ca 74 5 (chgs2.flatMap encC), Box bo 3 #[.int .i64 1, .int .i64 1, .int .i64 2, .int .i64 3], Box bn 3 #[.int .i64 2]]) (Sub.ent (.cons (.there (.there .here)) (.cons (.there (.there .here)) (.cons .here .nil)))) ?_
  focus (refine gM rfl rfl (by conv => (lhs; whnf)) ?_; apply gw_d; exact det_extract rfl rfl rfl (by conv => (lhs; whnf)); apply gw_d; exact det_extract rfl rfl rfl (by conv => (lhs; whnf)); refine gM rfl rfl (by conv => (lhs; whnf)) ?_; refine gM rfl rfl (by conv => (lhs; whnf)) ?_; refine gN ?_; refine gM rfl rfl (by conv => (lhs; whnf)) ?_; refine gC rfl rfl rfl rfl rfl ?_; refine gM rfl rfl (by conv => (lhs; whnf)) ?_; refine gM rfl rfl (by conv => (lhs; whnf)) ?_; refine gC rfl rfl rfl rfl rfl ?_; apply gw_d; exact det_pick_t (v := .bool _) rfl rfl rfl rfl; refine gM rfl rfl (by conv => (lhs; whnf)) ?_; refine gM rfl rfl (by conv => (lhs; whnf)) ?_; refine gC rfl rfl rfl rfl rfl ?_; apply gw_d; exact det_pick_t (v := .bool _) rfl rfl rfl rfl; refine gM rfl rfl (by conv => (lhs; whnf)) ?_; refine gM rfl rfl (by conv => (lhs; whnf)) ?_; refine gC rfl rfl rfl rfl rfl ?_; apply gw_d; exact det_pick_t (v := .bool _) rfl rfl rfl rfl; refine gM rfl rfl (by conv => (lhs; whnf)) ?_; refine gM rfl rfl (by conv => (lhs; whnf)) ?_; apply gw_d; exact w_buildP [(1, .int .i64 7), (4, .int .i64 4)] (cells := #[.int .i64 0, .int .i64 7, .int .i64 0, .int .i64 0, .int .i64 4]) (by kernel_rfl) rfl rfl rfl; apply gw_d; exact w_buildP [(1, .int .i64 7), (2, .int .i64 9), (4, .int .i64 3)] (cells := #[.int .i64 0, .int .i64 7, .int .i64 9, .int .i64 0, .int .i64 3]) (by kernel_rfl) rfl rfl rfl)
  refine gw_bslice (cells := #[.int .i64 0, .int .i64 7, .int .i64 0, .int .i64 0, .int .i64 4, .int .i64 0, .int .i64 7, .int .i64 9, .int .i64 0, .int .i64 3]) rfl ?_ ?_ ?_ (fun b6 => ?_)
  · rfl
  · rfl
  · kernel_rfl
  have hS1 : ∀ (L : List Res) (w' : World), St w (Box b6 74 #[.int .i64 0, .int .i64 7, .int .i64 0, .int .i64 0, .int .i64 4, .int .i64 0, .int .i64 7, .int .i64 9, .int .i64 0, .int .i64 3] :: Own A 2 ca 74 5 (chgs2.flatMap encC) :: L) w' → Ok Tryz.prog 31 [.slice A 2 ca, .slice (some ⟨b6, 0, none⟩) 2 2].toArray w' fun r _ => r = .bool true := fun L w' s => by
    have := same58_ok w' (.slice A 2 ca) (.slice (some ⟨b6, 0, none⟩) 2 2) chgs2 chgs2 (Sl.own (R := rChg) (enc := encC) s (.there .here) rfl chgs2_rep) (Sl.ofCells s.head rfl (by decide) (by decide) ⟨⟨rfl, inI rfl, inI rfl, inI rfl, inI rfl, inI rfl⟩, ⟨rfl, inI rfl, inI rfl, inI rfl, inI rfl, inI rfl⟩, trivial⟩)
    simpa using this
  focus (apply gw_d; exact w_call rfl rfl (hS1 _) rfl; apply gw_d; exact det_pick_t (v := .bool _) rfl rfl rfl rfl; refine gM rfl rfl (by conv => (lhs; whnf)) ?_; refine gM rfl rfl (by conv => (lhs; whnf)) ?_)
  refine gw_bslice (cells := #[.int .i64 1, .int .i64 1, .int .i64 2, .int .i64 3]) rfl ?_ ?_ ?_ (fun b7 => ?_)
  · rfl
  · rfl
  · kernel_rfl
  have hS2 : ∀ (L : List Res) (w' : World), St w (Box b7 3 #[.int .i64 1, .int .i64 1, .int .i64 2, .int .i64 3] :: Box b6 74 #[.int .i64 0, .int .i64 7, .int .i64 0, .int .i64 0, .int .i64 4, .int .i64 0, .int .i64 7, .int .i64 9, .int .i64 0, .int .i64 3] :: Own A 2 ca 74 5 (chgs2.flatMap encC) :: Box bo 3 #[.int .i64 1, .int .i64 1, .int .i64 2, .int .i64 3] :: L) w' → Ok Tryz.prog 25 [.slice (some ⟨bo, 0, none⟩) 4 4, .slice (some ⟨b7, 0, none⟩) 4 4].toArray w' fun r _ => r = .bool true := fun L w' s => by
    have := sameInts_ok w' (.slice (some ⟨bo, 0, none⟩) 4 4) (.slice (some ⟨b7, 0, none⟩) 4 4) [1, 1, 2, 3] [1, 1, 2, 3] (Sl.ofCells s.drop.drop.drop.head rfl (by decide) (by decide) ⟨⟨rfl, inI rfl⟩, ⟨rfl, inI rfl⟩, ⟨rfl, inI rfl⟩, ⟨rfl, inI rfl⟩, trivial⟩) (Sl.ofCells s.head rfl (by decide) (by decide) ⟨⟨rfl, inI rfl⟩, ⟨rfl, inI rfl⟩, ⟨rfl, inI rfl⟩, ⟨rfl, inI rfl⟩, trivial⟩)
    simpa using this
  focus (apply gw_d; exact w_call rfl rfl (hS2 _) rfl; apply gw_d; exact det_pick_t (v := .bool _) rfl rfl rfl rfl; refine gM rfl rfl (by conv => (lhs; whnf)) ?_; refine gM rfl rfl (by conv => (lhs; whnf)) ?_)
  refine gw_bslice1 (v := .int .i64 2) rfl rfl rfl rfl rfl (fun b8 => ?_)
  refine gw_ent (K := [Box b8 3 #[.int .i64 2], Box bn 3 #[.int .i64 2]]) (Sub.ent (.cons .here (.cons (.there (.there (.there (.there .here)))) .nil))) ?_
  have hS3 : ∀ (L : List Res) (w' : World), St w (Box b8 3 #[.int .i64 2] :: Box bn 3 #[.int .i64 2] :: L) w' → Ok Tryz.prog 25 [.slice (some ⟨bn, 0, none⟩) 1 1, .slice (some ⟨b8, 0, none⟩) 1 1].toArray w' fun r _ => r = .bool true := fun L w' s => by
    have := sameInts_ok w' (.slice (some ⟨bn, 0, none⟩) 1 1) (.slice (some ⟨b8, 0, none⟩) 1 1) [2] [2] (Sl.ofCells s.drop.head rfl (by decide) (by decide) ⟨⟨rfl, inI rfl⟩, trivial⟩) (Sl.ofCells s.head rfl (by decide) (by decide) ⟨⟨rfl, inI rfl⟩, trivial⟩)
    simpa using this
  focus (apply gw_d; exact w_call rfl rfl (hS3 _) rfl; apply gw_d; exact det_pick_t (v := .bool _) rfl rfl rfl rfl; refine gM rfl rfl (by conv => (lhs; whnf)) ?_; refine gO ?_; refine gc_ret ?_)
  refine gx_ret1 (v := .bool _) rfl rfl (fun _ _ => ?_)
  rfl
end Go.Proofs.YtljibjlkjelpbaaGreatDoor

/- What charges give, as the laws of chapter 58 use it. -/
namespace Go.Proofs.YtljibjlkjelpbaaGreatDoor
open Go.RowKit
set_option maxRecDepth 100000
set_option maxHeartbeats 4000000

theorem chg_rep {w w0 : World} {B B' : Nat} {S : Nat → Prop} {vx vl : Value} {r le : Int} {ops : List Opn} {bs : List Bun} {ws : List Wrk} {xs : List Scn} {l : List Ret} (hp : Plies bs) (hx : Sl rScn w0 B vx xs) (hl : Sl rRet w0 B' vl l) : ∀ q ∈ chgL r le ops bs (paidL ops ws (ticks bs) xs) l, rChg.rep w S q (encC q) := fun q hq => by
  have har := chg_range hp hq
  obtain ⟨x, rfl, hxl, hok⟩ := chg_mem hq
  obtain ⟨b, y, hT⟩ := trE_zero (of_decide_eq_true hok)
  obtain ⟨hy, _, _⟩ := whoAt_mem hT.who
  have hyx := paid_mem hy
  obtain ⟨i, hi, rfl⟩ := List.getElem_of_mem hyx
  obtain ⟨_, _, _, _, _, hcell⟩ := hx.scn
  obtain ⟨_, _, _, _, _, _, hw, _⟩ := hcell i hi
  obtain ⟨j, hj, rfl⟩ := List.getElem_of_mem hxl
  obtain ⟨_, _, _, _, _, hcell2⟩ := hl.ret
  obtain ⟨_, _, _, _, h1, h2, h3⟩ := hcell2 j hj
  refine ⟨rfl, ?_, h1, h2, h3, ?_⟩
  · show inI64 (trW _ _ _ _)
    rw [hT.w]
    exact hw
  · unfold inI64
    omega
theorem outR_in {ok : Ret → Bool} {D : List Ret} {x : Ret} : outR ok D x = 1 ∨ outR ok D x = 2 ∨ outR ok D x = 3 := by
  unfold outR
  split
  · exact .inr (.inr rfl)
  · split
    · exact .inr (.inl rfl)
    · exact .inl rfl
theorem outsR_in {ok : Ret → Bool} : ∀ {xs D : List Ret}, ∀ v ∈ outsR ok D xs, inI64 v
  | [], _, v, h => by cases h
  | x :: xs, D, v, h => by
    rcases List.mem_cons.1 h with h | h
    · have := outR_in (ok := ok) (D := D) (x := x)
      unfold inI64
      omega
    · exact outsR_in v h
theorem tar_cases (r le : Int) : tarE r le = 0 ∨ tarE r le = 3 := by
  unfold tarE
  split
  · exact .inr rfl
  · exact .inl rfl
theorem chgErr_tar {r le e : Int} {bs : List Bun} {ws : List Wrk} {nx nl : Nat} (h1 : nl ≤ 300) (h2 : judgeAllE e bs ws nx = 0) : chgErr r le e bs ws nx nl = tarE r le := by
  unfold chgErr
  rw [if_neg (by omega), if_neg (by rw [h2]; decide)]
theorem chgErr_judge {r le e : Int} {bs : List Bun} {ws : List Wrk} {nx nl : Nat} (h1 : nl ≤ 300) (h2 : ¬ judgeAllE e bs ws nx = 0) : chgErr r le e bs ws nx nl = judgeAllE e bs ws nx := by
  unfold chgErr
  rw [if_neg (by omega), if_pos h2]
theorem Sl.boxI' {w : World} {b n : Nat} {l : List Int} {ty : TypeId} (hb : w.heap[b]? = some (.cells (l.map (Value.int .i64)).toArray ty (0, 0))) (hn : n = l.length) (hn2 : n ≤ 1000) (hin : ∀ x ∈ l, inI64 x) : Sl rInt w w.heap.size (.slice (some ⟨b, 0, none⟩) n n) l := by
  subst hn
  refine Sl.ofBox (R := rInt) hb rfl (Nat.le_refl _) (by unfold maxLen; omega) fun k hk => ?_
  refine ⟨?_, hin _ (List.getElem_mem hk)⟩
  show (((l.map (Value.int .i64)).toArray.toList.drop (k * 1)).take 1) = _
  rw [List.toList_toArray, Nat.mul_one, ← List.map_drop, ← List.map_take, List.drop_eq_getElem_cons hk]
  rfl
/-- Two lists of charges that are one. -/
theorem same_same {w0 w : World} {L L1 L2 : List Res} {A B : Option Addr} {n m c d : Nat} {l l' : List Chg} (s : St w0 L w) (hp : Pick L (Own A n c 74 5 (l.flatMap encC)) L1) (hq : Pick L (Own B m d 74 5 (l'.flatMap encC)) L2) (hn : n = l.length) (hm : m = l'.length) (he : l' = l) (hr : ∀ q ∈ l, rChg.rep w (fun b => b < w.heap.size) q (encC q)) :
    Ok Tryz.prog 31 [.slice A n c, .slice B m d].toArray w fun r _ => r = .bool true := by
  subst he
  have := same58_ok w _ _ l' l' (Sl.own (R := rChg) (enc := encC) s hp hn hr) (Sl.own (R := rChg) (enc := encC) s hq hm hr)
  simpa using this
theorem same_nil (w : World) : Ok Tryz.prog 31 [.slice none 0 0, .slice none 0 0].toArray w fun r _ => r = .bool true := by
  have := same58_ok w _ _ [] [] (Sl.nil _ _) (Sl.nil _ _)
  simpa using this
theorem sameI_nil (w : World) : Ok Tryz.prog 25 [.slice none 0 0, .slice none 0 0].toArray w fun r _ => r = .bool true := by
  have := sameInts_ok w _ _ [] [] (Sl.nil _ _) (Sl.nil _ _)
  simpa using this
theorem net_parts {cs : List Chg} {ps : List Pay} (h : netE cs ps = 0) : cs.all chgE = true ∧ ∀ k (hk : k < ps.length), (0 ≤ ps[k].work ∧ ps[k].work ≤ 1099511627776) ∧ (0 ≤ ps[k].top ∧ ps[k].top ≤ 1099511627776) ∧ satF cs ps[k].who = sumW cs ps[k].who ∧ 0 ≤ satF cs ps[k].who := by
  unfold netE at h
  split at h
  · cases h
  · rename_i h1
    have ha : cs.all chgE = true := by simpa using h1
    refine ⟨ha, fun k hk => ?_⟩
    have h2 := firstE_at h k hk
    unfold netPE at h2
    rw [List.getElem?_eq_getElem hk] at h2
    dsimp only at h2
    split at h2
    · cases h2
    · split at h2
      · cases h2
      · rename_i h4
        have m : ∀ b : Bool, ¬ b = false → b = true := fun b hb => by simpa using hb
        have m1 := m _ fun hx => h4 (.inl hx)
        have m2 := m _ fun hx => h4 (.inr (.inl hx))
        have m4 := m _ fun hx => h4 (.inr (.inr (.inr hx)))
        exact ⟨money_iff.1 m1, money_iff.1 m2, (sat_sum ha _).1 m4, (money_iff.1 m4).1⟩
theorem net_in {cs : List Chg} {ps : List Pay} (h : netE cs ps = 0) : ∀ x ∈ netL cs ps, inI64 x := fun x hx => by
  obtain ⟨p, hp, rfl⟩ := List.mem_map.1 hx
  obtain ⟨k, hk, rfl⟩ := List.getElem_of_mem hp
  obtain ⟨_, h2⟩ := net_parts h
  obtain ⟨a1, a2, _, a3⟩ := h2 k hk
  unfold inI64 netV
  omega
section
variable {w : World} {vp vc : Value} {ps : List Pay} {cs : List Chg}
theorem Net_good (hp : Sl rPay w w.heap.size vp ps) (hc : Sl rChg w w.heap.size vc cs) (h60 : ps.length ≤ 1000) (he : netE cs ps = 0) : OkM Tryz.prog 23 [vp, vc].toArray w (fun b : Nat => .tuple #[.slice (some ⟨b, 0, none⟩) ps.length ps.length, .int .i64 0]) (fun b => [Box b 3 ((netL cs ps).map (Value.int .i64)).toArray]) := by
  have h := Net_all w vp vc ps cs hp hc h60
  unfold netRes netOwn at h
  simp only [if_pos he] at h
  exact h
theorem Net_bad (hp : Sl rPay w w.heap.size vp ps) (hc : Sl rChg w w.heap.size vc cs) (h60 : ps.length ≤ 1000) (he : ¬ netE cs ps = 0) : OkM Tryz.prog 23 [vp, vc].toArray w (fun _ : Nat => .tuple #[.slice none 0 0, .int .i64 (netE cs ps)]) (fun _ => []) := by
  have h := Net_all w vp vc ps cs hp hc h60
  unfold netRes netOwn at h
  simp only [if_neg he] at h
  exact h
end
end Go.Proofs.YtljibjlkjelpbaaGreatDoor
