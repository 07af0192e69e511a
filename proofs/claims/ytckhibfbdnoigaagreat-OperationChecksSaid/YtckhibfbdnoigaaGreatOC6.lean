/- Texts in one file: RJ RS C23 RK C20O C21 C22 C24 C25 C26 C27 C28 LT L1 Open Open2. -/
import Derived.Test.YtckhibfbdnoigaaGreatOC5
import Derived.Test.YtckhibfbdnoigaaGreatOC2
import Derived.Test.YtckhibfbdnoigaaGreatOC4
/- Contracts: styles by the chapter's own rule (reference 25). -/
namespace Go.Proofs.YtckhibfbdnoigaaGreat
open Go.RowKit
set_option maxRecDepth 100000
set_option maxHeartbeats 4000000

def widthsE (p : Pc) : Int := if ¬ p.widths.length = p.edges.length then 1 else if p.widths.any wideB = true then 3 else 0
theorem r_widths_ok (w : World) (p : Pc) (Ae An Ac Aw : Option Addr) (ce cn cc cw nn nc : Nat) (he : p.edges.length ≤ 9223372036854775807) (hws : Sl rInt w w.heap.size (.slice Aw p.widths.length cw) p.widths) :
    Ok Tryz.prog 85 [.agg #[.string p.name, .slice Ae p.edges.length ce, .int .i64 p.grain, .slice An nn cn, .slice Ac nc cc, .slice Aw p.widths.length cw, .bool p.mt]].toArray w
      fun r _ => r = .int .i64 (widthsE p) := by
  obtain ⟨_, _, hv, hwc, hwm, hwcell⟩ := hws.int
  injection hv with e1 e2 e3
  subst e1 e3
  refine ok_enter Tryz.func85 rfl Tryz.ntmps85 rfl ?_
  focus (refine gc_seq ?_; refine gc_region ?_; refine gw_boxd (v := .agg _) rfl rfl (fun _ => ?_); refine gM rfl rfl (by conv => (lhs; whnf)) ?_; refine gO ?_; refine gc_seq ?_; refine gc_seq ?_; refine gc_region ?_; refine gF rfl rfl rfl ?_; apply gw_d; exact w_load_box rfl rfl rfl .here rfl; refine gL rfl rfl rfl ?_; refine gF rfl rfl rfl ?_; apply gw_d; exact w_load_box rfl rfl rfl .here rfl; refine gL rfl rfl rfl ?_; refine gC rfl rfl rfl rfl rfl ?_; refine gO ?_; refine gc_if_dec rfl (fun _ => ?_) (fun _ => ?_); refine gc_seq ?_; refine gc_region ?_; refine gM rfl rfl (by conv => (lhs; whnf)) ?_; refine gO ?_; refine gc_ret ?_; refine gx_then_ret ?_; rotate_left; refine gc_skip ?_; refine gx_next ?_; refine gc_seq ?_; refine gc_seq ?_; refine gc_region ?_; refine gM rfl rfl (by conv => (lhs; whnf)) ?_; refine gO ?_; refine gc_block ?_; rotate_left)
  · refine gx_ret1 (v := .int _ _) rfl rfl (fun _ _ => ?_)
    unfold widthsE
    rw [if_pos (by omega)]
  refine gc_loopK (σ := Nat) [11, 12, 13, 14, 15, 18, 19, 20, 21, 22, 23, 24, 25, 26, 27, 28, 29, 30, 31, 2, 16, 17, 3] (fun k => [(3, .int .i64 k)]) (fun k => k ≤ p.widths.length ∧ (p.widths.take k).any wideB = false) (fun k => p.widths.length - k) 0 ⟨Nat.zero_le _, rfl⟩ ⟨rfl, trivial⟩ ?_
  rintro k base2 ⟨hk, hJ⟩
  focus (refine gc_seq ?_; refine gc_seq ?_; refine gc_region ?_; refine gM rfl rfl (by conv => (lhs; whnf)) ?_; refine gF rfl rfl rfl ?_; apply gw_d; exact w_load_box rfl rfl rfl .here rfl; refine gL rfl rfl rfl ?_; refine gC rfl rfl rfl rfl rfl ?_; refine gO ?_)
  refine gc_if_dec rfl (fun h => ?_) (fun h => ?_)
  · have hlt : k < p.widths.length := by omega
    obtain ⟨ad, rfl, hb, hce, _⟩ := hwcell k hlt
    focus (refine gc_skip ?_; refine gx_next ?_; refine gc_seq ?_; refine gc_block ?_; refine gc_seq ?_; refine gc_region ?_; refine gF rfl rfl rfl ?_; apply gw_d; exact w_load_box rfl rfl rfl .here rfl; refine gM rfl rfl (by conv => (lhs; whnf)) ?_; apply gw_d; exact w_index rfl rfl rfl rfl (by with_reducible exact rfl) (by omega); apply gw_d; exact w_load_at rfl rfl rfl (by assumption) (by assumption); refine gC rfl rfl rfl rfl rfl ?_; refine gM rfl rfl (by conv => (lhs; whnf)) ?_; refine gw_guard_dec rfl rfl (fun _ => ?_) (fun _ => ?_); refine gU rfl ?_; refine gU rfl ?_; refine gU rfl ?_; refine gU rfl ?_; refine gU rfl ?_; refine gU rfl ?_; apply gw_d; exact det_pick_t (v := .bool _) rfl rfl rfl rfl; refine gO ?_; refine gc_if_true rfl ?_; refine gc_seq ?_; refine gc_region ?_; refine gM rfl rfl (by conv => (lhs; whnf)) ?_; refine gO ?_; refine gc_ret ?_; refine gx_block_ret ?_; refine gx_then_ret ?_; refine gx_then_ret ?_; refine gx_block_ret ?_; refine gx_then_ret ?_; rotate_left; refine gF rfl rfl rfl ?_; apply gw_d; exact w_load_box rfl rfl rfl .here rfl; refine gM rfl rfl (by conv => (lhs; whnf)) ?_; apply gw_d; exact w_index rfl rfl rfl rfl (by with_reducible exact rfl) (by omega); apply gw_d; exact w_load_at rfl rfl rfl (by assumption) (by assumption); refine gC rfl rfl rfl rfl rfl ?_; apply gw_d; exact det_pick_f (v := .bool _) rfl rfl rfl rfl; refine gO ?_; refine gc_if_dec rfl (fun _ => ?_) (fun _ => ?_); refine gc_seq ?_; refine gc_region ?_; refine gM rfl rfl (by conv => (lhs; whnf)) ?_; refine gO ?_; refine gc_ret ?_; refine gx_block_ret ?_; refine gx_then_ret ?_; refine gx_then_ret ?_; refine gx_block_ret ?_; refine gx_then_ret ?_; rotate_left; refine gc_skip ?_; refine gx_block ?_; refine gx_next ?_; refine gc_region ?_; refine gM rfl rfl (by conv => (lhs; whnf)) ?_; apply gw_d; exact det_ar rfl rfl rfl rfl rfl (by omega); refine gM rfl rfl (by conv => (lhs; whnf)) ?_; refine gw_nil ?_; rotate_left)
    · refine gx_ret1 (v := .int _ _) rfl rfl (fun _ _ => ?_)
      unfold widthsE
      rw [if_neg (by omega), if_pos (any_at hlt (by unfold wideB; simp only [Bool.or_eq_true, decide_eq_true_eq]; left; assumption))]
    · refine gx_ret1 (v := .int _ _) rfl rfl (fun _ _ => ?_)
      unfold widthsE
      rw [if_neg (by omega), if_pos (any_at hlt (by unfold wideB; simp only [Bool.or_eq_true, decide_eq_true_eq]; right; assumption))]
    · exact gx_round (k + 1) ⟨by omega, take_any_snoc hlt hJ (by unfold wideB; simp only [Bool.or_eq_false_iff, decide_eq_false_iff_not]; constructor <;> assumption)⟩ (by omega) (by repeat (first | exact Keeps.refl | refine Keeps.upd rfl ?_ | refine Keeps.sets rfl ?_ | refine Keeps.havoc rfl ?_)) ⟨rfl, trivial⟩ (Sub.all _)
  obtain rfl : k = p.widths.length := by omega
  rw [List.take_length] at hJ
  focus (refine gc_exit ?_; refine gx_then_exit ?_; refine gx_then_exit ?_; refine gx_block_exit ?_; refine gx_next ?_; refine gc_seq ?_; refine gc_region ?_; refine gM rfl rfl (by conv => (lhs; whnf)) ?_; refine gO ?_; refine gc_ret ?_)
  refine gx_ret1 (v := .int _ _) rfl rfl (fun _ _ => ?_)
  unfold widthsE
  rw [if_neg (by omega), if_neg (by rw [hJ]; decide)]

theorem piece_eq (e : List Pc) (p : Pc) (x : Int) : pieceE e p x = if ¬ (nameB p.name = true ∧ ¬ (¬ p.grain = 1 ∧ ¬ p.grain = 2 ∧ ¬ p.grain = 4)) then 1 else if (e.any fun y => eqS y.name p.name) = true then 7 else if ¬ gradedE p.edges p.corners = 0 then gradedE p.edges p.corners else if ¬ x = 0 then x else widthsE p := by
  unfold pieceE widthsE
  by_cases h1 : nameB p.name = true
  · rw [if_pos h1]
    by_cases h2 : ¬ p.grain = 1 ∧ ¬ p.grain = 2 ∧ ¬ p.grain = 4
    · rw [if_pos h2, if_pos (fun h => h.2 h2)]
    · rw [if_neg h2, if_neg (show ¬ ¬ (nameB p.name = true ∧ ¬ (¬ p.grain = 1 ∧ ¬ p.grain = 2 ∧ ¬ p.grain = 4)) from fun h => h ⟨h1, h2⟩)]
  · rw [if_neg h1, if_pos (fun h => h1 h.1)]
theorem r_piece_ok (w : World) (ve : Value) (e : List Pc) (p : Pc) (Ae An Ac Aw : Option Addr) (ce cn cc cw : Nat) (he : Sl rPiece w w.heap.size ve e)
    (hl : Sl rEdge w w.heap.size (.slice Ae p.edges.length ce) p.edges) (hcs : Sl rSpot w w.heap.size (.slice Ac p.corners.length cc) p.corners) (hns : Sl rSpot w w.heap.size (.slice An p.notches.length cn) p.notches) (hws : Sl rInt w w.heap.size (.slice Aw p.widths.length cw) p.widths) (hnm : p.name.size ≤ 9223372036854775807) :
    Ok Tryz.prog 61 [ve, .agg #[.string p.name, .slice Ae p.edges.length ce, .int .i64 p.grain, .slice An p.notches.length cn, .slice Ac p.corners.length cc, .slice Aw p.widths.length cw, .bool p.mt]].toArray w
      fun r _ => r = .int .i64 (pieceE e p (placedE p.edges p.corners p.notches)) := by
  obtain ⟨A, c, rfl, hec, hem⟩ := len_small he
  obtain ⟨_, _, hv, hlc, hlm⟩ := len_small hl
  injection hv with e1 e2 e3
  subst e1 e3
  rw [piece_eq]
  have hN : ∀ (L : List Res) (w' : World), St w L w' → Ok Tryz.prog 63 [.string p.name].toArray w' fun r _ => r = .bool (nameB p.name) := fun L w' _ => rname_ok w' _ hnm
  by_cases hg : ¬ (nameB p.name = true ∧ ¬ (¬ p.grain = 1 ∧ ¬ p.grain = 2 ∧ ¬ p.grain = 4))
  · rw [if_pos hg]
    cases hb : nameB p.name with
    | false =>
      rw [hb] at hN
      refine ok_enter Tryz.func61 rfl Tryz.ntmps61 rfl ?_
      focus (refine gc_seq ?_; refine gc_region ?_; refine gw_boxd (v := .agg _) rfl rfl (fun _ => ?_); refine gM rfl rfl (by conv => (lhs; whnf)) ?_; refine gO ?_; refine gc_seq ?_; refine gc_seq ?_; refine gc_region ?_; refine gF rfl rfl rfl ?_; apply gw_d; exact w_load_box rfl rfl rfl .here rfl; apply gw_d; exact w_call rfl rfl (hN _) rfl; apply gw_d; exact det_not_ rfl rfl rfl; refine gM rfl rfl (by conv => (lhs; whnf)) ?_; refine gU rfl ?_; refine gU rfl ?_; refine gU rfl ?_; refine gU rfl ?_; refine gU rfl ?_; refine gU rfl ?_; refine gU rfl ?_; refine gU rfl ?_; refine gU rfl ?_; refine gU rfl ?_; refine gU rfl ?_; refine gU rfl ?_; refine gU rfl ?_; apply gw_d; exact det_pick_t (v := .bool _) rfl rfl rfl rfl; refine gO ?_; refine gc_if_true rfl ?_; refine gc_seq ?_; refine gc_region ?_; refine gM rfl rfl (by conv => (lhs; whnf)) ?_; refine gO ?_; refine gc_ret ?_; refine gx_then_ret ?_)
      refine gx_ret1 (v := .int _ _) rfl rfl (fun _ _ => ?_)
      rfl
    | true =>
      have hgr : ¬ p.grain = 1 ∧ ¬ p.grain = 2 ∧ ¬ p.grain = 4 := Classical.not_not.1 fun h => hg ⟨hb, h⟩
      rw [hb] at hN
      refine ok_enter Tryz.func61 rfl Tryz.ntmps61 rfl ?_
      focus (refine gc_seq ?_; refine gc_region ?_; refine gw_boxd (v := .agg _) rfl rfl (fun _ => ?_); refine gM rfl rfl (by conv => (lhs; whnf)) ?_; refine gO ?_; refine gc_seq ?_; refine gc_seq ?_; refine gc_region ?_; refine gF rfl rfl rfl ?_; apply gw_d; exact w_load_box rfl rfl rfl .here rfl; apply gw_d; exact w_call rfl rfl (hN _) rfl; apply gw_d; exact det_not_ rfl rfl rfl; refine gM rfl rfl (by conv => (lhs; whnf)) ?_; refine gF rfl rfl rfl ?_; apply gw_d; exact w_load_box rfl rfl rfl .here rfl; refine gC rfl rfl rfl rfl rfl ?_; refine gM rfl rfl (by conv => (lhs; whnf)) ?_; refine gw_guard_dec rfl rfl (fun _ => ?_) (fun _ => ?_); refine gF rfl rfl rfl ?_; apply gw_d; exact w_load_box rfl rfl rfl .here rfl; refine gC rfl rfl rfl rfl rfl ?_; apply gw_d; exact det_pick_t (v := .bool _) rfl rfl rfl rfl; refine gM rfl rfl (by conv => (lhs; whnf)) ?_; refine gw_guard_dec rfl rfl (fun _ => ?_) (fun _ => ?_); refine gF rfl rfl rfl ?_; apply gw_d; exact w_load_box rfl rfl rfl .here rfl; refine gC rfl rfl rfl rfl rfl ?_; apply gw_d; exact det_pick_t (v := .bool _) rfl rfl rfl rfl; apply gw_d; exact det_pick_f (v := .bool _) rfl rfl rfl rfl; refine gO ?_; refine gc_if_dec rfl (fun _ => ?_) (fun _ => ?_); refine gc_seq ?_; refine gc_region ?_; refine gM rfl rfl (by conv => (lhs; whnf)) ?_; refine gO ?_; refine gc_ret ?_; refine gx_then_ret ?_; rotate_left; refine gc_skip ?_; refine gx_next ?_; refine gc_seq ?_; refine gc_seq ?_; refine gc_region ?_; refine gM rfl rfl (by conv => (lhs; whnf)) ?_; refine gO ?_; refine gc_block ?_; rotate_left; refine gU rfl ?_; refine gU rfl ?_; refine gU rfl ?_; apply gw_d; exact det_pick_f (v := .bool _) rfl rfl rfl rfl; apply gw_d; exact det_pick_f (v := .bool _) rfl rfl rfl rfl; refine gO ?_; refine gc_if_false rfl ?_; refine gc_skip ?_; refine gx_next ?_; refine gc_seq ?_; refine gc_seq ?_; refine gc_region ?_; refine gM rfl rfl (by conv => (lhs; whnf)) ?_; refine gO ?_; refine gc_block ?_; rotate_left; refine gU rfl ?_; refine gU rfl ?_; refine gU rfl ?_; apply gw_d; exact det_pick_f (v := .bool _) rfl rfl rfl rfl; refine gM rfl rfl (by conv => (lhs; whnf)) ?_; refine gU rfl ?_; refine gU rfl ?_; refine gU rfl ?_; apply gw_d; exact det_pick_f (v := .bool _) rfl rfl rfl rfl; apply gw_d; exact det_pick_f (v := .bool _) rfl rfl rfl rfl; refine gO ?_; refine gc_if_false rfl ?_; refine gc_skip ?_; refine gx_next ?_; refine gc_seq ?_; refine gc_seq ?_; refine gc_region ?_; refine gM rfl rfl (by conv => (lhs; whnf)) ?_; refine gO ?_; refine gc_block ?_; rotate_left)
      all_goals first | (exfalso; omega) | skip
      refine gx_ret1 (v := .int _ _) rfl rfl (fun _ _ => ?_)
      rfl
  have hg' := Classical.not_not.1 hg
  obtain ⟨hb, hgr⟩ := hg'
  rw [if_neg hg]
  rw [hb] at hN
  refine ok_enter Tryz.func61 rfl Tryz.ntmps61 rfl ?_
  refine gc_seq ?_
  refine gc_region ?_
  refine gw_boxd (v := .agg _) rfl rfl (fun bp => ?_)
  apply gw_d
  · exact det_m rfl rfl (by conv => (lhs; whnf))
  refine gw_nil ?_
  refine gx_next ?_
  refine gc_sum [10, 11, 12, 13, 14, 15, 16, 17, 18, 19, 20, 21, 22, 23, 24, 25, 26, 27, 28] [] (K := [Box bp 80 #[.string p.name, .slice Ae p.edges.length ce, .int .i64 p.grain, .slice An p.notches.length cn, .slice Ac p.corners.length cc, .slice Aw p.widths.length cw, .bool p.mt]]) ?_ (fun base => ?_)
  · focus (refine gc_seq ?_; refine gc_region ?_; refine gF rfl rfl rfl ?_; apply gw_d; exact w_load_box rfl rfl rfl .here rfl; apply gw_d; exact w_call rfl rfl (hN _) rfl; apply gw_d; exact det_not_ rfl rfl rfl; refine gM rfl rfl (by conv => (lhs; whnf)) ?_; refine gF rfl rfl rfl ?_; apply gw_d; exact w_load_box rfl rfl rfl .here rfl; refine gC rfl rfl rfl rfl rfl ?_; refine gM rfl rfl (by conv => (lhs; whnf)) ?_; refine gw_guard_dec rfl rfl (fun _ => ?_) (fun _ => ?_); refine gF rfl rfl rfl ?_; apply gw_d; exact w_load_box rfl rfl rfl .here rfl; refine gC rfl rfl rfl rfl rfl ?_; apply gw_d; exact det_pick_t (v := .bool _) rfl rfl rfl rfl; refine gM rfl rfl (by conv => (lhs; whnf)) ?_; refine gw_guard_dec rfl rfl (fun _ => ?_) (fun _ => ?_); refine gF rfl rfl rfl ?_; apply gw_d; exact w_load_box rfl rfl rfl .here rfl; refine gC rfl rfl rfl rfl rfl ?_; apply gw_d; exact det_pick_t (v := .bool _) rfl rfl rfl rfl; apply gw_d; exact det_pick_f (v := .bool _) rfl rfl rfl rfl; refine gO ?_; refine gc_if_dec rfl (fun _ => ?_) (fun _ => ?_); refine gc_seq ?_; refine gc_region ?_; refine gM rfl rfl (by conv => (lhs; whnf)) ?_; refine gO ?_; refine gc_ret ?_; refine gx_then_ret ?_; rotate_left; refine gc_skip ?_; rotate_left; refine gU rfl ?_; refine gU rfl ?_; refine gU rfl ?_; apply gw_d; exact det_pick_f (v := .bool _) rfl rfl rfl rfl; apply gw_d; exact det_pick_f (v := .bool _) rfl rfl rfl rfl; refine gO ?_; refine gc_if_false rfl ?_; refine gc_skip ?_; rotate_left; refine gU rfl ?_; refine gU rfl ?_; refine gU rfl ?_; apply gw_d; exact det_pick_f (v := .bool _) rfl rfl rfl rfl; refine gM rfl rfl (by conv => (lhs; whnf)) ?_; refine gU rfl ?_; refine gU rfl ?_; refine gU rfl ?_; apply gw_d; exact det_pick_f (v := .bool _) rfl rfl rfl rfl; apply gw_d; exact det_pick_f (v := .bool _) rfl rfl rfl rfl; refine gO ?_; refine gc_if_false rfl ?_; refine gc_skip ?_; rotate_left)
    all_goals first | (exfalso; omega) | skip
    all_goals exact gx_left (by repeat (first | exact Keeps.refl | refine Keeps.upd rfl ?_ | refine Keeps.sets rfl ?_ | refine Keeps.havoc rfl ?_)) trivial (Sub.all _)
  focus (refine gc_seq ?_; refine gc_seq ?_; refine gc_region ?_; refine gM rfl rfl (by conv => (lhs; whnf)) ?_; refine gO ?_; refine gc_block ?_)
  refine gc_loopK (σ := Nat) [29, 30, 31, 32, 35, 36, 37, 38, 39, 40, 41, 42, 4, 33, 34, 5] (fun k => [(5, .int .i64 k)]) (fun k => k ≤ e.length ∧ ((e.take k).any fun x => eqS x.name p.name) = false) (fun k => e.length - k) 0 ⟨Nat.zero_le _, rfl⟩ ⟨rfl, trivial⟩ ?_
  rintro k base ⟨hk, hI⟩
  focus (refine gc_seq ?_; refine gc_seq ?_; refine gc_region ?_; refine gM rfl rfl (by conv => (lhs; whnf)) ?_; refine gM rfl rfl (by conv => (lhs; whnf)) ?_; refine gL rfl rfl rfl ?_; refine gC rfl rfl rfl rfl rfl ?_; refine gO ?_)
  refine gc_if_dec rfl (fun h => ?_) (fun h => ?_)
  · have hlt : k < e.length := by omega
    obtain ⟨ad, _, hv, _, _, hb, hcell⟩ := he.at' 7 rfl (by omega)
    injection hv with e1 e2 e3
    subst e1 e3
    obtain ⟨cs, hce, _, _, _, _, _, _, _, _, rfl, _⟩ := hcell k hlt
    have hce0 := hce 0 _ rfl
    focus (refine gc_skip ?_; refine gx_next ?_; refine gc_seq ?_; refine gc_block ?_; refine gc_seq ?_)
    refine gc_draw 8 (by kernel_rfl) (by kernel_rfl) ?_
    focus (apply gd_d; exact det_m rfl rfl (by conv => (lhs; whnf)); apply gd_d; exact det_m rfl rfl (by conv => (lhs; whnf)); apply gd_d; exact w_index rfl rfl rfl rfl (by with_reducible exact rfl) (by omega); apply gd_d; exact w_field rfl rfl rfl; apply gd_d; exact w_load_fld rfl rfl rfl (by assumption) (by assumption); apply gd_d; exact w_field rfl rfl rfl; apply gd_d; exact w_load_box rfl rfl rfl .here rfl; apply gd_d; exact det_seq rfl rfl rfl rfl; refine gd_nil ?_; refine gO ?_)
    refine gc_if rfl (fun h => ?_) (fun h => ?_)
    · focus (refine gc_seq ?_; refine gc_region ?_; refine gM rfl rfl (by conv => (lhs; whnf)) ?_; refine gO ?_; refine gc_ret ?_; refine gx_block_ret ?_; refine gx_then_ret ?_; refine gx_then_ret ?_; refine gx_block_ret ?_; refine gx_then_ret ?_)
      refine gx_ret1 (v := .int _ _) rfl rfl (fun _ _ => ?_)
      rw [if_pos (any_at hlt h)]
    · focus (refine gc_skip ?_; refine gx_block ?_; refine gx_next ?_; refine gc_region ?_; refine gM rfl rfl (by conv => (lhs; whnf)) ?_; apply gw_d; exact det_ar rfl rfl rfl rfl rfl (by omega); refine gM rfl rfl (by conv => (lhs; whnf)) ?_; refine gw_nil ?_)
      exact gx_round (k + 1) ⟨by omega, take_any_snoc hlt hI h⟩ (by omega) (by repeat (first | exact Keeps.refl | refine Keeps.upd rfl ?_ | refine Keeps.sets rfl ?_ | refine Keeps.havoc rfl ?_)) ⟨rfl, trivial⟩ (Sub.all _)
  obtain rfl : k = e.length := by omega
  rw [List.take_length] at hI
  rw [if_neg (show ¬ (e.any fun y => eqS y.name p.name) = true by rw [hI]; decide)]
  focus (refine gc_exit ?_; refine gx_then_exit ?_; refine gx_then_exit ?_; refine gx_block_exit ?_; refine gx_next ?_; refine gc_seq ?_; refine gc_seq ?_; refine gc_region ?_; apply gw_d; exact w_load_boxN rfl rfl rfl .here rfl)
  refine gw_callm rfl (fun w s => r_graded_ok w _ _ _ _ _ _ _ _ _ _ _ _ _ _ _ (hl.later s) (hcs.later s)) rfl (fun x => ?_)
  focus (refine gM rfl rfl (by conv => (lhs; whnf)) ?_; apply gw_d; exact det_extract rfl rfl rfl (by conv => (lhs; whnf)); apply gw_d; exact det_extract rfl rfl rfl (by conv => (lhs; whnf)); refine gM rfl rfl (by conv => (lhs; whnf)) ?_; refine gM rfl rfl (by conv => (lhs; whnf)) ?_; refine gN ?_; refine gM rfl rfl (by conv => (lhs; whnf)) ?_; refine gC rfl rfl rfl rfl rfl ?_; refine gO ?_)
  refine gc_if_dec rfl (fun h => ?_) (fun h => ?_)
  · focus (refine gc_seq ?_; refine gc_region ?_; refine gM rfl rfl (by conv => (lhs; whnf)) ?_; refine gM rfl rfl (by conv => (lhs; whnf)) ?_; refine gO ?_; refine gc_ret ?_; refine gx_then_ret ?_)
    refine gx_ret1 (v := .int _ _) rfl rfl (fun _ _ => ?_)
    rw [if_pos h]
  have h0 : gradedE p.edges p.corners = 0 := by simpa using h
  rw [if_neg h]
  rw [if_pos h0]
  refine gc_ent (K := [Box _ _ _]) (Sub.ent (.cons (.there .here) .nil)) ?_
  focus (refine gc_skip ?_; refine gx_next ?_; refine gc_seq ?_; refine gc_seq ?_; refine gc_region ?_; apply gw_d; exact w_load_boxN rfl rfl rfl .here rfl)
  refine gw_callm rfl (fun w s => r_placed_ok w _ _ _ _ _ _ _ _ _ _ _ _ _ _ _ (hl.later s) (hns.later s) (hcs.later s)) rfl (fun y => ?_)
  focus (refine gM rfl rfl (by conv => (lhs; whnf)) ?_; apply gw_d; exact det_extract rfl rfl rfl (by conv => (lhs; whnf)); apply gw_d; exact det_extract rfl rfl rfl (by conv => (lhs; whnf)); refine gM rfl rfl (by conv => (lhs; whnf)) ?_; refine gM rfl rfl (by conv => (lhs; whnf)) ?_; refine gN ?_; refine gM rfl rfl (by conv => (lhs; whnf)) ?_; refine gC rfl rfl rfl rfl rfl ?_; refine gO ?_)
  refine gc_if_dec rfl (fun h => ?_) (fun h => ?_)
  · focus (refine gc_seq ?_; refine gc_region ?_; refine gM rfl rfl (by conv => (lhs; whnf)) ?_; refine gM rfl rfl (by conv => (lhs; whnf)) ?_; refine gO ?_; refine gc_ret ?_; refine gx_then_ret ?_)
    refine gx_ret1 (v := .int _ _) rfl rfl (fun _ _ => ?_)
    rw [if_pos h]
  rw [if_neg h]
  focus (refine gc_skip ?_; refine gx_next ?_; refine gc_seq ?_; refine gc_region ?_; apply gw_d; exact w_load_boxN rfl rfl rfl .here rfl; apply gw_d; exact w_call rfl rfl (fun w s => r_widths_ok w p _ _ _ _ _ _ _ _ _ _ (by omega) (hws.later s)) rfl; refine gM rfl rfl (by conv => (lhs; whnf)) ?_; refine gO ?_; refine gc_ret ?_)
  refine gx_ret1 (v := .int _ _) rfl rfl (fun _ _ => ?_)
  rfl

def joinedE (s : Sty) : Int := if ¬ firstE (useE s) s.uses.length = 0 then firstE (useE s) s.uses.length else firstE (seamE s) s.seams.length
theorem r_joined_ok (w : World) (v : Value) (s : Sty) (hs : StyV w w.heap.size v s) : Ok Tryz.prog 62 [v].toArray w fun r _ => r = .int .i64 (joinedE s) := by
  have hs' := hs
  obtain ⟨As, cs, Am, cm, Ap, cp, Au, cu, Ae, ce, Ao, co, rfl, hnm, h1, h2, h3, h4, h5, h6⟩ := hs
  obtain ⟨_, _, hv, hpc, hpm⟩ := len_small h3
  injection hv with e1 e2 e3
  subst e1 e3
  obtain ⟨_, _, hv, huc, hum⟩ := len_small h4
  injection hv with e1 e2 e3
  subst e1 e3
  obtain ⟨_, _, hv, hec, hem⟩ := len_small h5
  injection hv with e1 e2 e3
  subst e1 e3
  refine ok_enter Tryz.func62 rfl Tryz.ntmps62 rfl ?_
  focus (refine gc_seq ?_; refine gc_region ?_; refine gw_boxd (v := .agg _) rfl rfl (fun _ => ?_); refine gM rfl rfl (by conv => (lhs; whnf)) ?_; refine gO ?_; refine gc_seq ?_; refine gc_seq ?_; refine gc_region ?_; refine gM rfl rfl (by conv => (lhs; whnf)) ?_; refine gO ?_; refine gc_block ?_)
  refine gc_loopK (σ := Nat) [7, 8, 9, 10, 11, 14, 15, 16, 17, 18, 4, 19, 20, 21, 22, 23, 24, 25, 26, 27, 28, 29, 30, 31, 32, 33, 34, 35, 36, 37, 38, 39, 2, 12, 13, 3] (fun k => [(3, .int .i64 k)]) (fun k => k ≤ s.uses.length ∧ firstE (useE s) k = 0) (fun k => s.uses.length - k) 0 ⟨Nat.zero_le _, rfl⟩ ⟨rfl, trivial⟩ ?_
  rintro k base2 ⟨hk2, hJ⟩
  focus (refine gc_seq ?_; refine gc_seq ?_; refine gc_region ?_; refine gM rfl rfl (by conv => (lhs; whnf)) ?_; refine gF rfl rfl rfl ?_; apply gw_d; exact w_load_box rfl rfl rfl .here rfl; refine gL rfl rfl rfl ?_; refine gC rfl rfl rfl rfl rfl ?_; refine gO ?_)
  refine gc_if_dec rfl (fun h8 => ?_) (fun h8 => ?_)
  · have hlt : k < s.uses.length := by omega
    obtain ⟨ad, _, hv, _, _, hb, hcell⟩ := h4.at' 3 rfl (by omega)
    injection hv with e1 e2 e3
    subst e1 e3
    obtain ⟨cs', hce, rfl, _⟩ := hcell k hlt
    have hat : useE s k = if s.uses[k].1 < 0 ∨ s.uses[k].1 ≥ s.pieces.length ∨ s.uses[k].2.1 < 1 ∨ s.uses[k].2.1 > 4 then 3 else 0 := by unfold useE; rw [List.getElem?_eq_getElem hlt]
    have hbad : (s.uses[k].1 < 0 ∨ s.uses[k].1 ≥ s.pieces.length ∨ s.uses[k].2.1 < 1 ∨ s.uses[k].2.1 > 4) → joinedE s = 3 := fun h => by
      rw [if_pos h] at hat
      unfold joinedE
      rw [firstE_stop hJ (by rw [hat]; decide) hlt, hat]
      exact if_pos (by decide)
    generalize s.uses[k] = u at hce hat hbad
    focus (refine gc_skip ?_; refine gx_next ?_; refine gc_seq ?_; refine gc_block ?_; refine gc_seq ?_; refine gc_region ?_; refine gF rfl rfl rfl ?_; apply gw_d; exact w_load_box rfl rfl rfl .here rfl; refine gM rfl rfl (by conv => (lhs; whnf)) ?_; apply gw_d; exact w_index rfl rfl rfl rfl (by with_reducible exact rfl) (by omega); apply gw_d; exact w_load_elem rfl rfl rfl (by assumption) (by assumption) (by rfl); refine w_alloc rfl (fun _ => ?_); refine w_store_all rfl rfl rfl rfl rfl .here rfl ?_; refine gN ?_; refine gF rfl rfl rfl ?_; apply gw_d; exact w_load_box rfl rfl rfl .here rfl; refine gC rfl rfl rfl rfl rfl ?_; refine gM rfl rfl (by conv => (lhs; whnf)) ?_; refine gw_guard_dec rfl rfl (fun _ => ?_) (fun _ => ?_); refine gU rfl ?_; refine gU rfl ?_; refine gU rfl ?_; refine gU rfl ?_; refine gU rfl ?_; refine gU rfl ?_; apply gw_d; exact det_pick_t (v := .bool _) rfl rfl rfl rfl; refine gM rfl rfl (by conv => (lhs; whnf)) ?_; refine gU rfl ?_; refine gU rfl ?_; refine gU rfl ?_; apply gw_d; exact det_pick_t (v := .bool _) rfl rfl rfl rfl; refine gM rfl rfl (by conv => (lhs; whnf)) ?_; refine gU rfl ?_; refine gU rfl ?_; refine gU rfl ?_; apply gw_d; exact det_pick_t (v := .bool _) rfl rfl rfl rfl; refine gO ?_; refine gc_if_true rfl ?_; refine gc_seq ?_; refine gc_region ?_; refine gM rfl rfl (by conv => (lhs; whnf)) ?_; refine gO ?_; refine gc_ret ?_; refine gx_block_ret ?_; refine gx_then_ret ?_; refine gx_then_ret ?_; refine gx_block_ret ?_; refine gx_then_ret ?_; rotate_left; refine gF rfl rfl rfl ?_; apply gw_d; exact w_load_box rfl rfl rfl .here rfl; refine gF rfl rfl rfl ?_; apply gw_d; exact w_load_box rfl rfl rfl (.there .here) rfl; refine gL rfl rfl rfl ?_; refine gC rfl rfl rfl rfl rfl ?_; apply gw_d; exact det_pick_f (v := .bool _) rfl rfl rfl rfl; refine gM rfl rfl (by conv => (lhs; whnf)) ?_; refine gw_guard_dec rfl rfl (fun _ => ?_) (fun _ => ?_); refine gU rfl ?_; refine gU rfl ?_; refine gU rfl ?_; apply gw_d; exact det_pick_t (v := .bool _) rfl rfl rfl rfl; refine gM rfl rfl (by conv => (lhs; whnf)) ?_; refine gU rfl ?_; refine gU rfl ?_; refine gU rfl ?_; apply gw_d; exact det_pick_t (v := .bool _) rfl rfl rfl rfl; refine gO ?_; refine gc_if_true rfl ?_; refine gc_seq ?_; refine gc_region ?_; refine gM rfl rfl (by conv => (lhs; whnf)) ?_; refine gO ?_; refine gc_ret ?_; refine gx_block_ret ?_; refine gx_then_ret ?_; refine gx_then_ret ?_; refine gx_block_ret ?_; refine gx_then_ret ?_; rotate_left; refine gF rfl rfl rfl ?_; apply gw_d; exact w_load_box rfl rfl rfl .here rfl; refine gC rfl rfl rfl rfl rfl ?_; apply gw_d; exact det_pick_f (v := .bool _) rfl rfl rfl rfl; refine gM rfl rfl (by conv => (lhs; whnf)) ?_; refine gw_guard_dec rfl rfl (fun _ => ?_) (fun _ => ?_); refine gU rfl ?_; refine gU rfl ?_; refine gU rfl ?_; apply gw_d; exact det_pick_t (v := .bool _) rfl rfl rfl rfl; refine gO ?_; refine gc_if_true rfl ?_; refine gc_seq ?_; refine gc_region ?_; refine gM rfl rfl (by conv => (lhs; whnf)) ?_; refine gO ?_; refine gc_ret ?_; refine gx_block_ret ?_; refine gx_then_ret ?_; refine gx_then_ret ?_; refine gx_block_ret ?_; refine gx_then_ret ?_; rotate_left; refine gF rfl rfl rfl ?_; apply gw_d; exact w_load_box rfl rfl rfl .here rfl; refine gC rfl rfl rfl rfl rfl ?_; apply gw_d; exact det_pick_f (v := .bool _) rfl rfl rfl rfl; refine gO ?_; refine gc_if_dec rfl (fun _ => ?_) (fun _ => ?_); refine gc_seq ?_; refine gc_region ?_; refine gM rfl rfl (by conv => (lhs; whnf)) ?_; refine gO ?_; refine gc_ret ?_; refine gx_block_ret ?_; refine gx_then_ret ?_; refine gx_then_ret ?_; refine gx_block_ret ?_; refine gx_then_ret ?_; rotate_left; refine gc_skip ?_; refine gx_block ?_; refine gx_next ?_; refine gc_region ?_; refine gM rfl rfl (by conv => (lhs; whnf)) ?_; apply gw_d; exact det_ar rfl rfl rfl rfl rfl (by omega); refine gM rfl rfl (by conv => (lhs; whnf)) ?_; refine gw_nil ?_; rotate_left)
    · refine gx_ret1 (v := .int _ _) rfl rfl (fun _ _ => ?_)
      rw [hbad (by omega)]
    · refine gx_ret1 (v := .int _ _) rfl rfl (fun _ _ => ?_)
      rw [hbad (by omega)]
    · refine gx_ret1 (v := .int _ _) rfl rfl (fun _ _ => ?_)
      rw [hbad (by omega)]
    · refine gx_ret1 (v := .int _ _) rfl rfl (fun _ _ => ?_)
      rw [hbad (by omega)]
    · exact gx_round (k + 1) ⟨by omega, firstE_snoc hJ (by rw [hat, if_neg (by omega)])⟩ (by omega) (by repeat (first | exact Keeps.refl | refine Keeps.upd rfl ?_ | refine Keeps.sets rfl ?_ | refine Keeps.havoc rfl ?_)) ⟨rfl, trivial⟩ Sub.tail
  obtain rfl : k = s.uses.length := by omega
  focus (refine gc_exit ?_; refine gx_then_exit ?_; refine gx_then_exit ?_; refine gx_block_exit ?_; refine gx_next ?_; refine gc_seq ?_; refine gc_seq ?_; refine gc_region ?_; refine gM rfl rfl (by conv => (lhs; whnf)) ?_; refine gO ?_; refine gc_block ?_)
  refine gc_loopK (σ := Nat) [40, 41, 42, 43, 44, 47, 48, 49, 50, 51, 6, 52, 53, 54, 55, 56, 57, 58, 59, 60, 61, 62, 63, 64, 65, 66, 67, 2, 68, 69, 70, 45, 46, 5] (fun k => [(5, .int .i64 k)]) (fun k => k ≤ s.seams.length ∧ firstE (seamE s) k = 0) (fun k => s.seams.length - k) 0 ⟨Nat.zero_le _, rfl⟩ ⟨rfl, trivial⟩ ?_
  rintro k base3 ⟨hk3, hK⟩
  focus (refine gc_seq ?_; refine gc_seq ?_; refine gc_region ?_; refine gM rfl rfl (by conv => (lhs; whnf)) ?_; refine gF rfl rfl rfl ?_; apply gw_d; exact w_load_box rfl rfl rfl .here rfl; refine gL rfl rfl rfl ?_; refine gC rfl rfl rfl rfl rfl ?_; refine gO ?_)
  refine gc_if_dec rfl (fun h7 => ?_) (fun h7 => ?_)
  · have hlt : k < s.seams.length := by omega
    obtain ⟨ad, _, hv, _, _, hb, hcell⟩ := h5.at' 6 rfl (by omega)
    injection hv with e1 e2 e3
    subst e1 e3
    obtain ⟨cs', hce, rfl⟩ := hcell k hlt
    have hat : seamE s k = if isEdgeB s s.seams[k].1 s.seams[k].2.1 = true ∧ isEdgeB s s.seams[k].2.2.1 s.seams[k].2.2.2.1 = true then if s.seams[k].2.2.2.2.2 < 0 then 1 else 0 else 3 := by unfold seamE; rw [List.getElem?_eq_getElem hlt]
    have hstop : ∀ x : Int, seamE s k = x → ¬ x = 0 → joinedE s = x := fun x hx h => by
      unfold joinedE
      rw [if_neg (by rw [hJ]; decide), firstE_stop hK (by rw [hx]; exact h) hlt, hx]
    generalize s.seams[k] = u at hce hat hstop
    focus (refine gc_skip ?_; refine gx_next ?_; refine gc_seq ?_; refine gc_block ?_; refine gc_seq ?_; refine gc_region ?_; refine gF rfl rfl rfl ?_; apply gw_d; exact w_load_box rfl rfl rfl .here rfl; refine gM rfl rfl (by conv => (lhs; whnf)) ?_; apply gw_d; exact w_index rfl rfl rfl rfl (by with_reducible exact rfl) (by omega); apply gw_d; exact w_load_elem rfl rfl rfl (by assumption) (by assumption) (by rfl); refine w_alloc rfl (fun _ => ?_); refine w_store_all rfl rfl rfl rfl rfl .here rfl ?_; refine gO ?_; refine gc_seq ?_; refine gc_seq ?_; refine gc_region ?_; apply gw_d; exact w_load_boxN rfl rfl rfl (.there .here) rfl; refine gF rfl rfl rfl ?_; apply gw_d; exact w_load_box rfl rfl rfl .here rfl; refine gF rfl rfl rfl ?_; apply gw_d; exact w_load_box rfl rfl rfl .here rfl)
    focus (apply gw_d; exact w_call rfl rfl (fun w s => r_inside_ok w _ _ _ _ (hs'.later s)) rfl; apply gw_d; exact det_not_ rfl rfl rfl; refine gM rfl rfl (by conv => (lhs; whnf)) ?_; refine gw_guard rfl rfl (fun _ => ?_) (fun _ => ?_); refine gU rfl ?_; refine gU rfl ?_; refine gU rfl ?_; refine gU rfl ?_; refine gU rfl ?_; refine gU rfl ?_; refine gU rfl ?_; apply gw_d; exact det_pick_t (v := .bool _) rfl rfl rfl rfl; refine gO ?_; refine gc_if_true rfl ?_; refine gc_seq ?_; refine gc_region ?_; refine gM rfl rfl (by conv => (lhs; whnf)) ?_; refine gO ?_; refine gc_ret ?_; refine gx_then_ret ?_; refine gx_block_ret ?_; refine gx_then_ret ?_; refine gx_then_ret ?_; refine gx_block_ret ?_; refine gx_then_ret ?_; rotate_left; apply gw_d; exact w_load_boxN rfl rfl rfl (.there .here) rfl; refine gF rfl rfl rfl ?_; apply gw_d; exact w_load_box rfl rfl rfl .here rfl; refine gF rfl rfl rfl ?_; apply gw_d; exact w_load_box rfl rfl rfl .here rfl; apply gw_d; exact w_call rfl rfl (fun w s => r_inside_ok w _ _ _ _ (hs'.later s)) rfl; apply gw_d; exact det_not_ rfl rfl rfl; apply gw_d; exact det_pick_f (v := .bool _) rfl rfl rfl rfl; refine gO ?_; refine gc_if rfl (fun _ => ?_) (fun _ => ?_); refine gc_seq ?_; refine gc_region ?_; refine gM rfl rfl (by conv => (lhs; whnf)) ?_; refine gO ?_; refine gc_ret ?_; refine gx_then_ret ?_; refine gx_block_ret ?_; refine gx_then_ret ?_; refine gx_then_ret ?_; refine gx_block_ret ?_; refine gx_then_ret ?_; rotate_left; refine gc_skip ?_; refine gx_next ?_; refine gc_seq ?_; refine gc_region ?_; refine gF rfl rfl rfl ?_; apply gw_d; exact w_load_box rfl rfl rfl .here rfl; refine gC rfl rfl rfl rfl rfl ?_; refine gO ?_; refine gc_if_dec rfl (fun _ => ?_) (fun _ => ?_); refine gc_seq ?_; refine gc_region ?_; refine gM rfl rfl (by conv => (lhs; whnf)) ?_; refine gO ?_; refine gc_ret ?_; refine gx_block_ret ?_; refine gx_then_ret ?_; refine gx_then_ret ?_; refine gx_block_ret ?_; refine gx_then_ret ?_; rotate_left; refine gc_skip ?_; refine gx_block ?_; refine gx_next ?_; refine gc_region ?_; refine gM rfl rfl (by conv => (lhs; whnf)) ?_; apply gw_d; exact det_ar rfl rfl rfl rfl rfl (by omega); refine gM rfl rfl (by conv => (lhs; whnf)) ?_; refine gw_nil ?_; rotate_left)
    · refine gx_ret1 (v := .int _ _) rfl rfl (fun _ _ => ?_)
      rename_i h _ _
      rw [hstop 3 (by rw [hat, if_neg (by simp at h; simp [h])]) (by decide)]
    · refine gx_ret1 (v := .int _ _) rfl rfl (fun _ _ => ?_)
      rename_i h _ _
      rw [hstop 3 (by rw [hat, if_neg (by simp at h; simp [h])]) (by decide)]
    · refine gx_ret1 (v := .int _ _) rfl rfl (fun _ _ => ?_)
      rw [hstop 1 (by rw [hat, if_pos (by simp_all), if_pos (by assumption)]) (by decide)]
    · exact gx_round (k + 1) ⟨by omega, firstE_snoc hK (by rw [hat, if_pos (by simp_all), if_neg (by assumption)])⟩ (by omega) (by repeat (first | exact Keeps.refl | refine Keeps.upd rfl ?_ | refine Keeps.sets rfl ?_ | refine Keeps.havoc rfl ?_)) ⟨rfl, trivial⟩ Sub.tail
  obtain rfl : k = s.seams.length := by omega
  focus (refine gc_exit ?_; refine gx_then_exit ?_; refine gx_then_exit ?_; refine gx_block_exit ?_; refine gx_next ?_; refine gc_seq ?_; refine gc_region ?_; refine gM rfl rfl (by conv => (lhs; whnf)) ?_; refine gO ?_; refine gc_ret ?_)
  refine gx_ret1 (v := .int _ _) rfl rfl (fun _ _ => ?_)
  unfold joinedE
  rw [if_neg (by rw [hJ]; decide), hK]
end Go.Proofs.YtckhibfbdnoigaaGreat

/- Contracts: sorted operations by the chapter's own rule (reference 45). -/
namespace Go.Proofs.YtckhibfbdnoigaaGreat
open Go.RowKit
set_option maxRecDepth 100000
set_option maxHeartbeats 4000000

theorem arr_tail (l : List Opn) : ∀ (f : Nat) (o : List Int), arr l (f + 1) o = match nextOf l (arr l f o) with | some i => arr l f o ++ [(i : Int)] | none => arr l f o
  | 0, o => rfl
  | f + 1, o => by
    cases hn : nextOf l o with
    | none =>
      rw [arr_end (f := f + 1 + 1) hn, arr_end (f := f + 1) hn, hn]
    | some i =>
      rw [arr_step (f := f + 1) hn, arr_step (f := f) hn]
      exact arr_tail l f (o ++ [(i : Int)])
theorem arr_len (l : List Opn) : ∀ f, (arr l f []).length ≤ f
  | 0 => Nat.le_refl _
  | f + 1 => by
    rw [arr_tail]
    have := arr_len l f
    split
    · rw [List.length_append, List.length_singleton]; omega
    · omega

theorem rsorted_ok (w : World) (v : Value) (l : List Opn) (hl : Sl rOp w w.heap.size v l) (h16 : l.length ≤ 1000) :
    OkM Tryz.prog 32 [v].toArray w (fun x : Option Addr × Nat => .slice x.1 (sortedL l).length x.2) (fun x => [Own x.1 (sortedL l).length x.2 3 1 ((sortedL l).map (Value.int .i64))]) := by
  obtain ⟨A0, c0, rfl, hc, hm⟩ := len_small hl
  unfold OkM
  refine ok_enter Tryz.func32 rfl Tryz.ntmps32 rfl ?_
  focus (refine gc_seq ?_; refine gc_region ?_; refine gM rfl rfl (by conv => (lhs; whnf)) ?_; refine gN ?_; refine gM rfl rfl (by conv => (lhs; whnf)) ?_; refine gO ?_; refine gc_seq ?_; refine gc_seq ?_; refine gc_region ?_; refine gM rfl rfl (by conv => (lhs; whnf)) ?_; refine gL rfl rfl rfl ?_; refine gM rfl rfl (by conv => (lhs; whnf)) ?_; refine gO ?_; refine gc_block ?_)
  refine gc_own0 3 1 ?_
  refine gc_loop (σ := Nat × Option Addr × Nat) [10, 4, 11, 12, 13, 14, 17, 18, 19, 20, 5, 6, 21, 22, 23, 24, 25, 26, 27, 28, 31, 32, 33, 34, 35, 36, 37, 38, 39, 40, 41, 42, 43, 29, 30, 44, 45, 46, 47, 48, 3, 15, 16, 49, 9] (fun s => [(3, .slice s.2.1 (arr l s.1 []).length s.2.2), (9, .int .i64 s.1)]) (fun s => [Own s.2.1 (arr l s.1 []).length s.2.2 3 1 ((arr l s.1 []).map (Value.int .i64))]) (fun s => s.1 ≤ l.length) (fun s => l.length - s.1) (0, none, 0) (Nat.zero_le _) ⟨rfl, rfl, trivial⟩ (.cons .here .nil) ?_
  rintro ⟨r, A, c⟩ base hr
  dsimp only at hr ⊢
  have htail := arr_tail l r []
  have hol := arr_len l r
  have hin : ∀ x ∈ arr l r [], inI64 x := fun x hx => by
    have := arr_mem (l := l) r [] (fun x hx => by cases hx) x hx
    unfold inI64
    omega
  have hlast : r = l.length → arr l r [] = sortedL l := fun h => by rw [h]; rfl
  generalize arr l r [] = o at htail hol hin hlast ⊢
  focus (refine gc_seq ?_; refine gc_region ?_; refine gC rfl rfl rfl rfl rfl ?_; refine gO ?_; refine gc_seq ?_)
  refine gc_if_dec rfl (fun h => ?_) (fun h => ?_)
  · have hHas : ∀ (x : Int) (L : List Res) (w' : World), St w (Own A o.length c 3 1 (o.map (Value.int .i64)) :: L) w' → Ok Tryz.prog 33 [.slice A o.length c, .int .i64 x].toArray w' fun r _ => r = .bool (hasB o x) := fun x L w' s => has_ok w' _ _ x (Sl.ownI s .here rfl hin)
    focus (refine gc_skip ?_; refine gx_next ?_; refine gc_seq ?_; refine gc_block ?_; refine gc_seq ?_; refine gc_region ?_; refine gM rfl rfl (by conv => (lhs; whnf)) ?_; refine gO ?_; refine gc_block ?_)
    refine gc_loopK (σ := Nat) [11, 12, 13, 14, 17, 18, 19, 20, 5, 6, 21, 22, 23, 24, 25, 26, 27, 28, 31, 32, 33, 34, 35, 36, 37, 38, 39, 40, 41, 42, 43, 29, 30, 44, 45, 46, 47, 48, 3, 15, 16, 4] (fun m => [(4, .int .i64 m), (3, .slice A o.length c)]) (fun m => m ≤ l.length ∧ ∀ i, i < m → readyB l o i = false) (fun m => l.length - m) 0 ⟨Nat.zero_le _, fun i hi => by omega⟩ ⟨rfl, rfl, trivial⟩ ?_
    rintro m base2 ⟨hmi, hM⟩
    focus (refine gc_seq ?_; refine gc_seq ?_; refine gc_region ?_; refine gM rfl rfl (by conv => (lhs; whnf)) ?_; refine gM rfl rfl (by conv => (lhs; whnf)) ?_; refine gL rfl rfl rfl ?_; refine gC rfl rfl rfl rfl rfl ?_; refine gO ?_)
    refine gc_if_dec rfl (fun h2 => ?_) (fun h2 => ?_)
    · have hml : m < l.length := by omega
      obtain ⟨ad, _, hv, _, _, hb, hcell⟩ := hl.at' 5 rfl (by omega)
      injection hv with e1 e2 e3
      subst e1 e3
      obtain ⟨cs, hce, Aa, ca, Au, cu, rfl, _, q1, q2⟩ := hcell m hml
      have hce3 := hce 3 _ rfl
      have ha : Sl rInt w w.heap.size (.slice Aa l[m].after.length ca) l[m].after := q1
      obtain ⟨_, _, hv, hac, ham, hacell⟩ := ha.int
      injection hv with e1 e2 e3
      subst e1 e3
      have hready : readyB l o m = (!hasB o (m : Int) && l[m].after.all (hasB o)) := by unfold readyB; rw [afterOf_get hml]
      focus (refine gc_skip ?_; refine gx_next ?_; refine gc_seq ?_; refine gc_block ?_; refine gc_seq ?_; refine gc_region ?_; refine gM rfl rfl (by conv => (lhs; whnf)) ?_; refine gM rfl rfl (by conv => (lhs; whnf)) ?_; apply gw_d; exact w_call rfl rfl (hHas _ _) rfl; apply gw_d; exact det_not_ rfl rfl rfl; refine gM rfl rfl (by conv => (lhs; whnf)) ?_; refine gO ?_; refine gc_seq ?_; refine gc_seq ?_; refine gc_region ?_; refine gM rfl rfl (by conv => (lhs; whnf)) ?_; refine gO ?_; refine gc_block ?_)
      refine gc_loopK (σ := Nat) [21, 22, 23, 24, 25, 26, 27, 28, 31, 32, 33, 34, 35, 36, 37, 38, 39, 40, 41, 42, 43, 5, 29, 30, 6] (fun j => [(6, .int .i64 j), (5, .bool (!hasB o (m : Int) && (l[m].after.take j).all (hasB o)))]) (fun j => j ≤ l[m].after.length) (fun j => l[m].after.length - j) 0 (Nat.zero_le _) ⟨rfl, by simp only [List.take_zero, List.all_nil, Bool.and_true]; rfl, trivial⟩ ?_
      rintro j base3 hj
      focus (refine gc_seq ?_; refine gc_seq ?_; refine gc_region ?_; refine gM rfl rfl (by conv => (lhs; whnf)) ?_; refine gM rfl rfl (by conv => (lhs; whnf)) ?_; refine gM rfl rfl (by conv => (lhs; whnf)) ?_; apply gw_d; exact w_index rfl rfl rfl rfl (by with_reducible exact rfl) (by omega); refine gF rfl rfl rfl ?_; apply gw_d; exact w_load_fld rfl rfl rfl (by assumption) (by assumption); refine gL rfl rfl rfl ?_; refine gC rfl rfl rfl rfl rfl ?_; refine gO ?_)
      refine gc_if_dec rfl (fun h3 => ?_) (fun h3 => ?_)
      · have hjl : j < l[m].after.length := by omega
        obtain ⟨ad2, rfl, hb2, hce2, _⟩ := hacell j hjl
        have hsn : (l[m].after.take (j + 1)).all (hasB o) = ((l[m].after.take j).all (hasB o) && hasB o l[m].after[j]) := by rw [List.take_succ_eq_append_getElem hjl, List.all_append]; simp
        focus (refine gc_skip ?_; refine gx_next ?_; refine gc_seq ?_; refine gc_block ?_; refine gc_region ?_; refine gM rfl rfl (by conv => (lhs; whnf)) ?_; refine gM rfl rfl (by conv => (lhs; whnf)) ?_; refine gw_guard rfl rfl (fun _ => ?_) (fun _ => ?_); refine gM rfl rfl (by conv => (lhs; whnf)) ?_; refine gM rfl rfl (by conv => (lhs; whnf)) ?_; refine gM rfl rfl (by conv => (lhs; whnf)) ?_; apply gw_d; exact w_index rfl rfl rfl rfl (by with_reducible exact rfl) (by omega); refine gF rfl rfl rfl ?_; apply gw_d; exact w_load_fld rfl rfl rfl (by assumption) (by assumption); refine gM rfl rfl (by conv => (lhs; whnf)) ?_; apply gw_d; exact w_index rfl rfl rfl rfl (by with_reducible exact rfl) (by omega); apply gw_d; exact w_load_at rfl rfl rfl (by assumption) (by assumption); apply gw_d; exact w_call rfl rfl (hHas _ _) rfl; apply gw_d; exact det_pick_t (v := .bool _) rfl rfl rfl rfl; refine gM rfl rfl (by conv => (lhs; whnf)) ?_; refine gw_nil ?_; refine gx_block ?_; refine gx_next ?_; refine gc_region ?_; refine gM rfl rfl (by conv => (lhs; whnf)) ?_; apply gw_d; exact det_ar rfl rfl rfl rfl rfl (by omega); refine gM rfl rfl (by conv => (lhs; whnf)) ?_; refine gw_nil ?_; rotate_left; refine gU rfl ?_; refine gU rfl ?_; refine gU rfl ?_; refine gU rfl ?_; refine gU rfl ?_; refine gU rfl ?_; refine gU rfl ?_; refine gU rfl ?_; refine gU rfl ?_; refine gU rfl ?_; apply gw_d; exact det_pick_f (v := .bool _) rfl rfl rfl rfl; refine gM rfl rfl (by conv => (lhs; whnf)) ?_; refine gw_nil ?_; refine gx_block ?_; refine gx_next ?_; refine gc_region ?_; refine gM rfl rfl (by conv => (lhs; whnf)) ?_; apply gw_d; exact det_ar rfl rfl rfl rfl rfl (by omega); refine gM rfl rfl (by conv => (lhs; whnf)) ?_; refine gw_nil ?_; rotate_left)
        · rename_i hx
          exact gx_round (j + 1) hjl (by omega) (by repeat (first | exact Keeps.refl | refine Keeps.upd rfl ?_ | refine Keeps.sets rfl ?_ | refine Keeps.havoc rfl ?_)) ⟨rfl, by rw [hsn, ← Bool.and_assoc, hx, Bool.true_and]; rfl, trivial⟩ (Sub.all _)
        · rename_i hx
          exact gx_round (j + 1) hjl (by omega) (by repeat (first | exact Keeps.refl | refine Keeps.upd rfl ?_ | refine Keeps.sets rfl ?_ | refine Keeps.havoc rfl ?_)) ⟨rfl, by rw [hsn, ← Bool.and_assoc, hx, Bool.false_and]; rfl, trivial⟩ (Sub.all _)
      · obtain rfl : j = l[m].after.length := by omega
        rw [List.take_length, ← hready]
        focus (refine gc_exit ?_; refine gx_then_exit ?_; refine gx_then_exit ?_; refine gx_block_exit ?_; refine gx_next ?_; refine gc_seq ?_; refine gc_region ?_; refine gM rfl rfl (by conv => (lhs; whnf)) ?_; refine gO ?_)
        refine gc_if rfl (fun h4 => ?_) (fun h4 => ?_)
        · have hnext : nextOf l o = some m := find_range hml h4 hM
          rw [hnext] at htail
          focus (refine gc_seq ?_; refine gc_region ?_; refine gM rfl rfl (by conv => (lhs; whnf)) ?_; refine gM rfl rfl (by conv => (lhs; whnf)) ?_)
          refine gw_bslice1 (v := .int .i64 (m : Int)) rfl rfl rfl rfl rfl (fun bb => ?_)
          refine gw_append (news := [.int .i64 (m : Int)]) rfl rfl rfl (.there .here) rfl (fun w' s _ => ?_) (fun u hu => ?_) (by unfold maxLen; omega) (by omega) (by decide) rfl (fun A2 c3 => ?_)
          · refine ⟨⟨bb, 0, none⟩, rfl, fun i u hu => ?_⟩
            rw [add_zero]
            refine (Box.cell s.head i).trans ?_
            change (#[Value.int .i64 (m : Int)] : Array Value)[i]? = some u
            rw [List.getElem?_toArray]
            exact hu
          · rw [List.mem_singleton] at hu
            subst hu
            rfl
          · focus (refine gM rfl rfl (by conv => (lhs; whnf)) ?_; refine gO ?_; refine gc_exit ?_; refine gx_block_other rfl ?_; refine gx_then_exit ?_; refine gx_then_exit ?_; refine gx_block_exit ?_; refine gx_block ?_; refine gx_next ?_; refine gc_region ?_; apply gw_d; exact det_ar rfl rfl rfl rfl rfl (by omega); refine gM rfl rfl (by conv => (lhs; whnf)) ?_; refine gw_nil ?_)
            refine gx_round (r + 1, A2, c3) (by dsimp only; omega) (by dsimp only; omega) (by repeat (first | exact Keeps.refl | refine Keeps.upd rfl ?_ | refine Keeps.sets rfl ?_ | refine Keeps.havoc rfl ?_)) ⟨by rw [htail, List.length_append]; rfl, rfl, trivial⟩ ?_
            dsimp only
            rw [htail, List.length_append, List.map_append]
            exact .cons .here .nil
        · focus (refine gc_skip ?_; refine gx_block ?_; refine gx_next ?_; refine gc_region ?_; refine gM rfl rfl (by conv => (lhs; whnf)) ?_; apply gw_d; exact det_ar rfl rfl rfl rfl rfl (by omega); refine gM rfl rfl (by conv => (lhs; whnf)) ?_; refine gw_nil ?_)
          refine gx_round (m + 1) ⟨by omega, fun i hi => ?_⟩ (by omega) (by repeat (first | exact Keeps.refl | refine Keeps.upd rfl ?_ | refine Keeps.sets rfl ?_ | refine Keeps.havoc rfl ?_)) ⟨rfl, rfl, trivial⟩ (Sub.all _)
          by_cases hij : i = m
          · rw [hij]; exact h4
          · exact hM i (by omega)
    · have hnone : nextOf l o = none := List.find?_eq_none.2 fun i hi => by rw [hM i (by have := List.mem_range.1 hi; omega)]; decide
      rw [hnone] at htail
      focus (refine gc_exit ?_; refine gx_then_exit ?_; refine gx_then_exit ?_; refine gx_block_exit ?_; refine gx_block ?_; refine gx_next ?_; refine gc_region ?_; apply gw_d; exact det_ar rfl rfl rfl rfl rfl (by omega); refine gM rfl rfl (by conv => (lhs; whnf)) ?_; refine gw_nil ?_)
      refine gx_round (r + 1, A, c) (by dsimp only; omega) (by dsimp only; omega) (by repeat (first | exact Keeps.refl | refine Keeps.upd rfl ?_ | refine Keeps.sets rfl ?_ | refine Keeps.havoc rfl ?_)) ⟨by rw [htail]; rfl, rfl, trivial⟩ ?_
      dsimp only
      rw [htail]
      exact Sub.all _
  · rw [hlast (by omega)]
    focus (refine gc_exit ?_; refine gx_then_exit ?_; refine gx_then_exit ?_; refine gx_block_exit ?_; refine gx_next ?_; refine gc_seq ?_; refine gc_region ?_; refine gM rfl rfl (by conv => (lhs; whnf)) ?_; refine gM rfl rfl (by conv => (lhs; whnf)) ?_; refine gO ?_; refine gc_ret ?_)
    exact gx_ret1 rfl rfl fun w s => ⟨(A, c), rfl, s.sep⟩

theorem sorted_len (l : List Opn) : (sortedL l).length ≤ l.length := arr_len l l.length
theorem list_eq (l : List Opn) (u : Int) : listE l u = if ¬ singleE l u = 0 then singleE l u else if (sortedL l).length < l.length then 9 else 0 := by
  have hs := sorted_len l
  unfold listE singleE
  by_cases h16 : 16 < l.length
  · rw [if_pos h16, if_pos h16, if_pos (by decide)]
  · rw [if_neg h16, if_neg h16]
    by_cases h1 : firstE (opE l u) l.length = 0
    · have hc : ¬ ¬ firstE (opE l u) l.length = 0 := fun h => h h1
      rw [if_neg hc, if_neg hc]
      unfold fullB
      by_cases h2 : (sortedL l).length = l.length
      · rw [if_pos (decide_eq_true h2), if_neg (by omega)]
      · rw [if_neg (by simpa using h2), if_pos (by omega)]
    · rw [if_pos h1, if_pos h1]
theorem single_16 {l : List Opn} {u : Int} (h : singleE l u = 0) : l.length ≤ 16 := by
  unfold singleE at h
  split at h
  · cases h
  · omega
end Go.Proofs.YtckhibfbdnoigaaGreat

/- Contracts: operation.Check for every style. -/
namespace Go.Proofs.YtckhibfbdnoigaaGreat
open Go.RowKit
set_option maxRecDepth 100000
set_option maxHeartbeats 2000000

def markIn (bs : List Bool) (us : List Int) : List Bool := us.foldl (fun bs u => bs.set u.toNat true) bs
def marks (n : Nat) (l : List Opn) : List Bool := l.foldl (fun bs o => markIn bs o.uses) (List.replicate n false)
def opCheckE (s : Sty) (pl : Pc → Int) : Int := if ¬ styleE s pl = 0 then styleE s pl else if ¬ listE s.ops s.uses.length = 0 then listE s.ops s.uses.length else if (marks s.uses.length s.ops).all id = true then 0 else 20
theorem markIn_len (us : List Int) : ∀ bs, (markIn bs us).length = bs.length := by
  induction us with
  | nil => intro bs; rfl
  | cons u us ih => intro bs; exact (ih _).trans (by simp)
theorem marks_len (n : Nat) (l : List Opn) : (marks n l).length = n := by
  unfold marks
  suffices h : ∀ (l : List Opn) (bs : List Bool), (l.foldl (fun bs o => markIn bs o.uses) bs).length = bs.length by rw [h]; simp
  intro l
  induction l with
  | nil => intro bs; rfl
  | cons x o ih => intro bs; exact (ih _).trans (markIn_len _ _)
theorem marks_snoc {n : Nat} {l : List Opn} {k : Nat} (hk : k < l.length) : marks n (l.take (k + 1)) = markIn (marks n (l.take k)) l[k].uses := by
  unfold marks
  rw [List.take_succ_eq_append_getElem hk, List.foldl_append]
  rfl
theorem markIn_snoc {bs : List Bool} {us : List Int} {k : Nat} (hk : k < us.length) : markIn bs (us.take (k + 1)) = (markIn bs (us.take k)).set us[k].toNat true := by
  unfold markIn
  rw [List.take_succ_eq_append_getElem hk, List.foldl_append]
  rfl
theorem list_uses {l : List Opn} {n : Nat} (he : listE l n = 0) {i : Nat} (hi : i < l.length) : ∀ x ∈ l[i].uses, 0 ≤ x ∧ x < (n : Int) := by
  have h16 : ¬ 16 < l.length := fun h => by unfold listE at he; rw [if_pos h] at he; cases he
  have hI0 : firstE (opE l n) l.length = 0 := by
    unfold listE at he
    rw [if_neg h16] at he
    split at he
    · rename_i h1; exact absurd he h1
    · rename_i h1; simpa using h1
  have h1 := firstE_at hI0 i hi
  unfold opE at h1
  rw [List.getElem?_eq_getElem hi] at h1
  dsimp only at h1
  split at h1
  · cases h1
  · split at h1
    · cases h1
    · split at h1
      · cases h1
      · split at h1
        · cases h1
        · rename_i h3
          refine areIx_at ?_
          cases hb : areIx l[i].uses n with
          | true => rfl
          | false => exact absurd (.inr ⟨by omega, hb⟩) h3

theorem style_uses {s : Sty} {pl : Pc → Int} (hS0 : styleE s pl = 0) : s.uses.length ≤ 12 := by
  unfold styleE at hS0
  split at hS0
  · rename_i h; exact absurd hS0 h
  · rename_i h
    have hw : wholeE s = 0 := by simpa using h
    unfold wholeE at hw
    repeat' split at hw
    all_goals first | omega | cases hw

theorem opCheck_ok (w : World) (v : Value) (s : Sty) (hs : StyV w w.heap.size v s) : Ok Tryz.prog 7 [v].toArray w fun r _ => r = .int .i64 (opCheckE s plE) := by
  have hs' := hs
  obtain ⟨As, cs, Am, cm, Ap, cp, Au, cu, Ae, ce, Ao, co, rfl, hnm, h1, h2, h3, h4, h5, h6⟩ := hs
  obtain ⟨_, _, hv, huc, hum⟩ := len_small h4
  injection hv with e1 e2 e3
  subst e1 e3
  obtain ⟨_, _, hv, hoc, hom⟩ := len_small h6
  injection hv with e1 e2 e3
  subst e1 e3
  refine ok_enter Tryz.func7 rfl Tryz.ntmps7 rfl ?_
  focus (refine gc_seq ?_; refine gc_region ?_; refine gw_boxd (v := .agg _) rfl rfl (fun _ => ?_); refine gM rfl rfl (by conv => (lhs; whnf)) ?_; refine gO ?_; refine gc_seq ?_; refine gc_seq ?_; refine gc_region ?_; apply gw_d; exact w_load_boxN rfl rfl rfl .here rfl; apply gw_d; exact w_call rfl rfl (fun w s => style_ok w _ _ (hs'.later s)) rfl; refine gM rfl rfl (by conv => (lhs; whnf)) ?_; refine gN ?_; refine gM rfl rfl (by conv => (lhs; whnf)) ?_; refine gC rfl rfl rfl rfl rfl ?_; refine gO ?_)
  refine gc_if_dec rfl (fun h => ?_) (fun h => ?_)
  · focus (refine gc_seq ?_; refine gc_region ?_; refine gM rfl rfl (by conv => (lhs; whnf)) ?_; refine gM rfl rfl (by conv => (lhs; whnf)) ?_; refine gO ?_; refine gc_ret ?_; refine gx_then_ret ?_)
    refine gx_ret1 (v := .int _ _) rfl rfl (fun _ _ => ?_)
    unfold opCheckE
    rw [if_pos h]
  have hS0 : styleE s plE = 0 := by simpa using h
  have hu12 := style_uses hS0
  by_cases he : listE s.ops s.uses.length = 0
  · focus (refine gc_skip ?_; refine gx_next ?_; refine gc_seq ?_; refine gc_seq ?_; refine gc_region ?_; refine gF rfl rfl rfl ?_; apply gw_d; exact w_load_box rfl rfl rfl .here rfl; refine gF rfl rfl rfl ?_; apply gw_d; exact w_load_box rfl rfl rfl .here rfl; refine gL rfl rfl rfl ?_)
    refine gw_callm rfl (fun w s' => checkList_good w _ s.ops s.uses.length (h6.later s') he) rfl (fun x => ?_)
    obtain ⟨A, c⟩ := x
    focus (refine gM rfl rfl (by conv => (lhs; whnf)) ?_; apply gw_d; exact det_extract rfl rfl rfl (by conv => (lhs; whnf)); apply gw_d; exact det_extract rfl rfl rfl (by conv => (lhs; whnf)); refine gM rfl rfl (by conv => (lhs; whnf)) ?_; refine gM rfl rfl (by conv => (lhs; whnf)) ?_; refine gN ?_; refine gM rfl rfl (by conv => (lhs; whnf)) ?_; refine gC rfl rfl rfl rfl rfl ?_; refine gO ?_)
    refine gc_if_dec rfl (fun h => absurd rfl h) (fun _ => ?_)
    focus (refine gc_skip ?_; refine gx_next ?_; refine gc_seq ?_; refine gc_region ?_; refine gF rfl rfl rfl ?_; apply gw_d; exact w_load_box rfl rfl rfl (.there .here) rfl; refine gL rfl rfl rfl ?_)
    refine gw_make1 (n := s.uses.length) rfl rfl rfl rfl rfl (by omega) (by omega) rfl (fun b => ?_)
    rw [show Array.replicate s.uses.length ((Value.bool false).cells.getD 0 undef) = ((marks s.uses.length (s.ops.take 0)).map Value.bool).toArray from row_make Value.bool s.uses.length false]
    focus (refine gM rfl rfl (by conv => (lhs; whnf)) ?_; refine gO ?_; refine gc_seq ?_; refine gc_seq ?_; refine gc_region ?_; refine gF rfl rfl rfl ?_; apply gw_d; exact w_load_box rfl rfl rfl (.there (.there .here)) rfl; refine gL rfl rfl rfl ?_; refine gM rfl rfl (by conv => (lhs; whnf)) ?_; refine gO ?_; refine gc_block ?_)
    refine gc_loop (σ := Nat) [38, 39, 40, 8, 41, 42, 43, 44, 45, 46, 47, 10, 48, 49, 50, 51, 52, 37] (fun k => [(37, .int .i64 k)]) (fun k => [Box b 4 ((marks s.uses.length (s.ops.take k)).map Value.bool).toArray]) (fun k => k ≤ s.ops.length) (fun k => s.ops.length - k) 0 (Nat.zero_le _) ⟨rfl, trivial⟩ (.cons .here .nil) ?_
    rintro k base hk
    focus (refine gc_seq ?_; refine gc_region ?_; refine gC rfl rfl rfl rfl rfl ?_; refine gO ?_; refine gc_seq ?_)
    refine gc_if_dec rfl (fun h => ?_) (fun h => ?_)
    · have hlt : k < s.ops.length := by omega
      obtain ⟨ad, _, hv, _, _, hb, hcell⟩ := h6.at' 5 rfl (by omega)
      injection hv with e1 e2 e3
      subst e1 e3
      obtain ⟨cs', hce, Aa, ca, Au', cu', rfl, _, q1, q2⟩ := hcell k hlt
      have ha : Sl rInt w w.heap.size (.slice Au' s.ops[k].uses.length cu') s.ops[k].uses := q2
      obtain ⟨_, _, hv, hac, ham, hacell⟩ := ha.int
      injection hv with e1 e2 e3
      subst e1 e3
      have hus := list_uses he hlt
      have hsn := marks_snoc (n := s.uses.length) hlt
      have hml := marks_len s.uses.length (s.ops.take k)
      generalize marks s.uses.length (s.ops.take k) = bs at hsn hml ⊢
      focus (refine gc_skip ?_; refine gx_next ?_; refine gc_seq ?_; refine gc_block ?_; refine gc_seq ?_; refine gc_region ?_; apply gw_d; exact w_index rfl rfl rfl rfl (by with_reducible exact rfl) (by omega); apply gw_d; exact w_load_elem rfl rfl rfl (by assumption) (by assumption) (by rfl); refine w_alloc rfl (fun _ => ?_); refine w_store_all rfl rfl rfl rfl rfl .here rfl ?_; refine gN ?_; refine gF rfl rfl rfl ?_; apply gw_d; exact w_load_box rfl rfl rfl .here rfl; refine gL rfl rfl rfl ?_; refine gM rfl rfl (by conv => (lhs; whnf)) ?_; refine gO ?_; refine gc_block ?_)
      refine gc_loop (σ := Nat) [45, 46, 47, 10, 48, 49, 50, 51, 44] (fun j => [(44, .int .i64 j)]) (fun j => [Box b 4 ((markIn bs (s.ops[k].uses.take j)).map Value.bool).toArray]) (fun j => j ≤ s.ops[k].uses.length) (fun j => s.ops[k].uses.length - j) 0 (Nat.zero_le _) ⟨rfl, trivial⟩ (.cons (.there .here) .nil) ?_
      rintro j base2 hj
      focus (refine gc_seq ?_; refine gc_region ?_; refine gC rfl rfl rfl rfl rfl ?_; refine gO ?_; refine gc_seq ?_)
      refine gc_if_dec rfl (fun h2 => ?_) (fun h2 => ?_)
      · have hjl : j < s.ops[k].uses.length := by omega
        obtain ⟨ad2, rfl, hb2, hce2, _⟩ := hacell j hjl
        have hpr := hus s.ops[k].uses[j] (List.getElem_mem hjl)
        obtain ⟨p, hp⟩ : ∃ p : Nat, s.ops[k].uses[j] = (p : Int) := ⟨s.ops[k].uses[j].toNat, by omega⟩
        have hsn2 := markIn_snoc (bs := bs) hjl
        rw [hp] at hce2 hsn2
        rw [Int.toNat_natCast] at hsn2
        have hl2 := markIn_len (s.ops[k].uses.take j) bs
        focus (refine gc_skip ?_; refine gx_next ?_; refine gc_seq ?_; refine gc_block ?_; refine gc_seq ?_; refine gc_region ?_; apply gw_d; exact w_index rfl rfl rfl rfl (by with_reducible exact rfl) (by omega); apply gw_d; exact w_load_at rfl rfl rfl (by assumption) (by assumption); refine gM rfl rfl (by conv => (lhs; whnf)) ?_; refine gO ?_; refine gc_region ?_; refine gM rfl rfl (by conv => (lhs; whnf)) ?_; refine gM rfl rfl (by conv => (lhs; whnf)) ?_; apply gw_d; exact w_index rfl rfl rfl rfl (by with_reducible exact rfl) (by omega))
        refine w_store_row (n := 1) (v := .bool true) rfl rfl rfl rfl rfl .here (by simp; omega) (row_set Value.bool (by omega) true) ?_
        focus (refine gw_nil ?_; refine gx_block ?_; refine gx_next ?_; refine gc_region ?_; apply gw_d; exact det_ar rfl rfl rfl rfl rfl (by omega); refine gM rfl rfl (by conv => (lhs; whnf)) ?_; refine gw_nil ?_)
        refine gx_round (j + 1) hjl (by omega) (by repeat (first | exact Keeps.refl | refine Keeps.upd rfl ?_ | refine Keeps.sets rfl ?_ | refine Keeps.havoc rfl ?_)) ⟨rfl, trivial⟩ ?_
        rw [hsn2]
        exact .cons .here .nil
      · obtain rfl : j = s.ops[k].uses.length := by omega
        rw [List.take_length, ← hsn]
        focus (refine gc_exit ?_; refine gx_then_exit ?_; refine gx_then_exit ?_; refine gx_block_exit ?_; refine gx_block ?_; refine gx_next ?_; refine gc_region ?_; apply gw_d; exact det_ar rfl rfl rfl rfl rfl (by omega); refine gM rfl rfl (by conv => (lhs; whnf)) ?_; refine gw_nil ?_)
        exact gx_round (k + 1) hlt (by omega) (by repeat (first | exact Keeps.refl | refine Keeps.upd rfl ?_ | refine Keeps.sets rfl ?_ | refine Keeps.havoc rfl ?_)) ⟨rfl, trivial⟩ (Sub.all _)
    obtain rfl : k = s.ops.length := by omega
    rw [List.take_length]
    have hE : opCheckE s plE = if (marks s.uses.length s.ops).all id = true then 0 else 20 := by unfold opCheckE; rw [if_neg (by rw [hS0]; decide), if_neg (by rw [he]; decide)]
    rw [hE]
    have hml := marks_len s.uses.length s.ops
    generalize marks s.uses.length s.ops = bs at hml ⊢
    focus (refine gc_exit ?_; refine gx_then_exit ?_; refine gx_then_exit ?_; refine gx_block_exit ?_; refine gx_next ?_; refine gc_seq ?_; refine gc_seq ?_; refine gc_region ?_; refine gM rfl rfl (by conv => (lhs; whnf)) ?_; refine gL rfl rfl rfl ?_; refine gM rfl rfl (by conv => (lhs; whnf)) ?_; refine gO ?_; refine gc_block ?_)
    refine gc_loopK (σ := Nat) [56, 57, 58, 12, 59, 60, 2, 61, 55] (fun k => [(55, .int .i64 k)]) (fun k => k ≤ bs.length ∧ (bs.take k).all id = true) (fun k => bs.length - k) 0 ⟨Nat.zero_le _, rfl⟩ ⟨rfl, trivial⟩ ?_
    rintro k base3 ⟨hk3, hK⟩
    focus (refine gc_seq ?_; refine gc_region ?_; refine gC rfl rfl rfl rfl rfl ?_; refine gO ?_; refine gc_seq ?_)
    refine gc_if_dec rfl (fun h => ?_) (fun h => ?_)
    · have hlt : k < bs.length := by omega
      have hpc : (bs.map Value.bool).toArray[k * 1]? = some (.bool (bs.getD k false)) := row_get Value.bool false (by omega)
      have hg : bs.getD k false = bs[k] := by simp [hlt]
      rw [hg] at hpc
      focus (refine gc_skip ?_; refine gx_next ?_; refine gc_seq ?_; refine gc_block ?_; refine gc_seq ?_; refine gc_region ?_; apply gw_d; exact w_index rfl rfl rfl rfl (by with_reducible exact rfl) (by omega); apply gw_d; exact w_load_row rfl rfl rfl .here hpc; refine gM rfl rfl (by conv => (lhs; whnf)) ?_; refine gN ?_; refine gM rfl rfl (by conv => (lhs; whnf)) ?_; apply gw_d; exact det_not_ rfl rfl rfl; refine gO ?_)
      refine gc_if rfl (fun h3 => ?_) (fun h3 => ?_)
      · focus (refine gc_seq ?_; refine gc_region ?_; refine gM rfl rfl (by conv => (lhs; whnf)) ?_; refine gO ?_; refine gc_ret ?_; refine gx_block_ret ?_; refine gx_then_ret ?_; refine gx_then_ret ?_; refine gx_block_ret ?_; refine gx_then_ret ?_)
        refine gx_ret1 (v := .int _ _) rfl rfl (fun _ _ => ?_)
        rw [if_neg (by rw [Bool.not_eq_true, List.all_eq_false]; exact ⟨bs[k], List.getElem_mem hlt, by simpa using h3⟩)]
      · focus (refine gc_skip ?_; refine gx_block ?_; refine gx_next ?_; refine gc_region ?_; apply gw_d; exact det_ar rfl rfl rfl rfl rfl (by omega); refine gM rfl rfl (by conv => (lhs; whnf)) ?_; refine gw_nil ?_)
        exact gx_round (k + 1) ⟨hlt, by rw [List.take_succ_eq_append_getElem hlt, List.all_append, hK]; simpa using h3⟩ (by omega) (by repeat (first | exact Keeps.refl | refine Keeps.upd rfl ?_ | refine Keeps.sets rfl ?_ | refine Keeps.havoc rfl ?_)) ⟨rfl, trivial⟩ (Sub.all _)
    · obtain rfl : k = bs.length := by omega
      rw [List.take_length] at hK
      focus (refine gc_exit ?_; refine gx_then_exit ?_; refine gx_then_exit ?_; refine gx_block_exit ?_; refine gx_next ?_; refine gc_seq ?_; refine gc_region ?_; refine gM rfl rfl (by conv => (lhs; whnf)) ?_; refine gO ?_; refine gc_ret ?_)
      refine gx_ret1 (v := .int _ _) rfl rfl (fun _ _ => ?_)
      rw [if_pos hK]
  · have hE : opCheckE s plE = listE s.ops s.uses.length := by unfold opCheckE; rw [if_neg (by rw [hS0]; decide), if_pos he]
    rw [hE]
    focus (refine gc_skip ?_; refine gx_next ?_; refine gc_seq ?_; refine gc_seq ?_; refine gc_region ?_; refine gF rfl rfl rfl ?_; apply gw_d; exact w_load_box rfl rfl rfl .here rfl; refine gF rfl rfl rfl ?_; apply gw_d; exact w_load_box rfl rfl rfl .here rfl; refine gL rfl rfl rfl ?_; apply gw_d; exact w_call rfl rfl (fun w s' => checkList_bad w _ s.ops s.uses.length (h6.later s') he) rfl; refine gM rfl rfl (by conv => (lhs; whnf)) ?_; apply gw_d; exact det_extract rfl rfl rfl (by conv => (lhs; whnf)); apply gw_d; exact det_extract rfl rfl rfl (by conv => (lhs; whnf)); refine gM rfl rfl (by conv => (lhs; whnf)) ?_; refine gM rfl rfl (by conv => (lhs; whnf)) ?_; refine gN ?_; refine gM rfl rfl (by conv => (lhs; whnf)) ?_; refine gC rfl rfl rfl rfl rfl ?_; refine gO ?_)
    refine gc_if_dec rfl (fun _ => ?_) (fun h => absurd he h)
    focus (refine gc_seq ?_; refine gc_region ?_; refine gM rfl rfl (by conv => (lhs; whnf)) ?_; refine gM rfl rfl (by conv => (lhs; whnf)) ?_; refine gO ?_; refine gc_ret ?_; refine gx_then_ret ?_)
    refine gx_ret1 (v := .int _ _) rfl rfl (fun _ _ => ?_)
    rfl
theorem opCheck0_ok (w : World) (v : Value) (s : Sty) (hs : StyV w w.heap.size v s) (hno : ∀ p ∈ s.pieces, p.notches = []) : Ok Tryz.prog 7 [v].toArray w fun r _ => r = .int .i64 (opCheckE s pl0) := by
  have h := opCheck_ok w v s hs
  unfold opCheckE at h ⊢
  rw [styleE_none hno] at h
  exact h
end Go.Proofs.YtckhibfbdnoigaaGreat

/- Contracts: style and operation checks by the chapter's own rule (references 25 and 45). -/
namespace Go.Proofs.YtckhibfbdnoigaaGreat
open Go.RowKit
set_option maxRecDepth 100000
set_option maxHeartbeats 4000000

theorem rStyle_ok (w : World) (v : Value) (s : Sty) (hs : StyV w w.heap.size v s) : Ok Tryz.prog 30 [v].toArray w fun r _ => r = .int .i64 (styleE s plE) := by
  have hs' := hs
  obtain ⟨As, cs, Am, cm, Ap, cp, Au, cu, Ae, ce, Ao, co, rfl, hnm, h1, h2, h3, h4, h5, h6⟩ := hs
  obtain ⟨_, _, hv, hmc, hmm, hmcell⟩ := h2.int
  injection hv with e1 e2 e3
  subst e1 e3
  obtain ⟨_, _, hv, hpc, hpm⟩ := len_small h3
  injection hv with e1 e2 e3
  subst e1 e3
  have hw : ∀ x : Int, wholeE s = x → ¬ x = 0 → styleE s plE = x := fun x hx h => by
    unfold styleE
    rw [hx, if_pos h]
  have hwe := whole_eq s
  refine ok_enter Tryz.func30 rfl Tryz.ntmps30 rfl ?_
  focus (refine gc_seq ?_; refine gc_region ?_; refine gw_boxd (v := .agg _) rfl rfl (fun _ => ?_); refine gM rfl rfl (by conv => (lhs; whnf)) ?_; refine gO ?_; refine gc_seq ?_; refine gc_seq ?_; refine gc_region ?_; apply gw_d; exact w_load_boxN rfl rfl rfl .here rfl)
  focus (apply gw_d; exact w_call rfl rfl (fun w s' => r_sized_ok w _ s (hs'.later s')) rfl; apply gw_d; exact det_not_ rfl rfl rfl; refine gO ?_)
  refine gc_if rfl (fun h => ?_) (fun h => ?_)
  · focus (refine gc_seq ?_; refine gc_region ?_; refine gM rfl rfl (by conv => (lhs; whnf)) ?_; refine gO ?_; refine gc_ret ?_; refine gx_then_ret ?_)
    refine gx_ret1 (v := .int _ _) rfl rfl (fun _ _ => ?_)
    rw [hw 1 (by rw [hwe, if_pos (by simpa using h)]) (by decide)]
  rw [if_neg (by simpa using h)] at hwe
  focus (refine gc_skip ?_; refine gx_next ?_; refine gc_seq ?_; refine gc_seq ?_; refine gc_region ?_; refine gF rfl rfl rfl ?_; apply gw_d; exact w_load_box rfl rfl rfl .here rfl; apply gw_d; exact w_call rfl rfl (fun w s' => r_twiceS_ok w _ s.sizes (h1.later s')) rfl; refine gO ?_)
  refine gc_if rfl (fun h => ?_) (fun h => ?_)
  · focus (refine gc_seq ?_; refine gc_region ?_; refine gM rfl rfl (by conv => (lhs; whnf)) ?_; refine gO ?_; refine gc_ret ?_; refine gx_then_ret ?_)
    refine gx_ret1 (v := .int _ _) rfl rfl (fun _ _ => ?_)
    rw [hw 7 (by rw [hwe, if_pos h]) (by decide)]
  rw [if_neg (by rw [h]; decide)] at hwe
  focus (refine gc_skip ?_; refine gx_next ?_; refine gc_seq ?_; refine gc_seq ?_; refine gc_region ?_; apply gw_d; exact w_load_boxN rfl rfl rfl .here rfl; apply gw_d; exact w_call rfl rfl (fun w s' => r_long_ok w _ s (hs'.later s')) rfl; refine gO ?_)
  refine gc_if rfl (fun h => ?_) (fun h => ?_)
  · focus (refine gc_seq ?_; refine gc_region ?_; refine gM rfl rfl (by conv => (lhs; whnf)) ?_; refine gO ?_; refine gc_ret ?_; refine gx_then_ret ?_)
    refine gx_ret1 (v := .int _ _) rfl rfl (fun _ _ => ?_)
    rw [hw 5 (by rw [hwe, if_pos h]) (by decide)]
  rw [if_neg (by rw [h]; decide)] at hwe
  focus (refine gc_skip ?_; refine gx_next ?_; refine gc_seq ?_; refine gc_seq ?_; refine gc_region ?_; refine gM rfl rfl (by conv => (lhs; whnf)) ?_; refine gO ?_; refine gc_block ?_)
  refine gc_loopK (σ := Nat) [14, 15, 16, 17, 18, 21, 22, 23, 24, 25, 26, 27, 28, 29, 30, 31, 32, 33, 34, 2, 19, 20, 3] (fun k => [(3, .int .i64 k)]) (fun k => k ≤ s.multiples.length ∧ (s.multiples.take k).any farM = false) (fun k => s.multiples.length - k) 0 ⟨Nat.zero_le _, rfl⟩ ⟨rfl, trivial⟩ ?_
  rintro k base3 ⟨hk3, hF⟩
  focus (refine gc_seq ?_; refine gc_seq ?_; refine gc_region ?_; refine gM rfl rfl (by conv => (lhs; whnf)) ?_; refine gF rfl rfl rfl ?_; apply gw_d; exact w_load_box rfl rfl rfl .here rfl; refine gL rfl rfl rfl ?_; refine gC rfl rfl rfl rfl rfl ?_; refine gO ?_)
  refine gc_if_dec rfl (fun h => ?_) (fun h => ?_)
  · have hlt : k < s.multiples.length := by omega
    obtain ⟨ad, rfl, hb, hce, _⟩ := hmcell k hlt
    focus (refine gc_skip ?_; refine gx_next ?_; refine gc_seq ?_; refine gc_block ?_; refine gc_seq ?_; refine gc_region ?_; refine gF rfl rfl rfl ?_; apply gw_d; exact w_load_box rfl rfl rfl .here rfl; refine gM rfl rfl (by conv => (lhs; whnf)) ?_; apply gw_d; exact w_index rfl rfl rfl rfl (by with_reducible exact rfl) (by omega); apply gw_d; exact w_load_at rfl rfl rfl (by assumption) (by assumption); refine gC rfl rfl rfl rfl rfl ?_; refine gM rfl rfl (by conv => (lhs; whnf)) ?_; refine gw_guard_dec rfl rfl (fun _ => ?_) (fun _ => ?_); refine gU rfl ?_; refine gU rfl ?_; refine gU rfl ?_; refine gU rfl ?_; refine gU rfl ?_; refine gU rfl ?_; apply gw_d; exact det_pick_t (v := .bool _) rfl rfl rfl rfl; refine gO ?_; refine gc_if_true rfl ?_; refine gc_seq ?_; refine gc_region ?_; refine gM rfl rfl (by conv => (lhs; whnf)) ?_; refine gO ?_; refine gc_ret ?_; refine gx_block_ret ?_; refine gx_then_ret ?_; refine gx_then_ret ?_; refine gx_block_ret ?_; refine gx_then_ret ?_; rotate_left; refine gF rfl rfl rfl ?_; apply gw_d; exact w_load_box rfl rfl rfl .here rfl; refine gM rfl rfl (by conv => (lhs; whnf)) ?_; apply gw_d; exact w_index rfl rfl rfl rfl (by with_reducible exact rfl) (by omega); apply gw_d; exact w_load_at rfl rfl rfl (by assumption) (by assumption); refine gC rfl rfl rfl rfl rfl ?_; apply gw_d; exact det_pick_f (v := .bool _) rfl rfl rfl rfl; refine gO ?_; refine gc_if_dec rfl (fun _ => ?_) (fun _ => ?_); refine gc_seq ?_; refine gc_region ?_; refine gM rfl rfl (by conv => (lhs; whnf)) ?_; refine gO ?_; refine gc_ret ?_; refine gx_block_ret ?_; refine gx_then_ret ?_; refine gx_then_ret ?_; refine gx_block_ret ?_; refine gx_then_ret ?_; rotate_left; refine gc_skip ?_; refine gx_block ?_; refine gx_next ?_; refine gc_region ?_; refine gM rfl rfl (by conv => (lhs; whnf)) ?_; apply gw_d; exact det_ar rfl rfl rfl rfl rfl (by omega); refine gM rfl rfl (by conv => (lhs; whnf)) ?_; refine gw_nil ?_; rotate_left)
    · refine gx_ret1 (v := .int _ _) rfl rfl (fun _ _ => ?_)
      rw [hw 3 (by rw [hwe, if_pos (any_at hlt (by unfold farM; simp only [Bool.or_eq_true, decide_eq_true_eq]; right; assumption))]) (by decide)]
    · refine gx_ret1 (v := .int _ _) rfl rfl (fun _ _ => ?_)
      rw [hw 3 (by rw [hwe, if_pos (any_at hlt (by unfold farM; simp only [Bool.or_eq_true, decide_eq_true_eq]; left; assumption))]) (by decide)]
    · exact gx_round (k + 1) ⟨by omega, take_any_snoc hlt hF (by unfold farM; simp only [Bool.or_eq_false_iff, decide_eq_false_iff_not]; constructor <;> assumption)⟩ (by omega) (by repeat (first | exact Keeps.refl | refine Keeps.upd rfl ?_ | refine Keeps.sets rfl ?_ | refine Keeps.havoc rfl ?_)) ⟨rfl, trivial⟩ (Sub.all _)
  obtain rfl : k = s.multiples.length := by omega
  rw [List.take_length] at hF
  rw [if_neg (by rw [hF]; decide)] at hwe
  have hsty : styleE s plE = if ¬ firstE (pieceAt s plE) s.pieces.length = 0 then firstE (pieceAt s plE) s.pieces.length else joinedE s := by
    unfold styleE joinedE
    rw [if_neg (show ¬ ¬ wholeE s = 0 from fun hc => hc hwe)]
  rw [hsty]
  focus (refine gc_exit ?_; refine gx_then_exit ?_; refine gx_then_exit ?_; refine gx_block_exit ?_; refine gx_next ?_; refine gc_seq ?_; refine gc_seq ?_; refine gc_region ?_; refine gM rfl rfl (by conv => (lhs; whnf)) ?_; refine gO ?_; refine gc_block ?_)
  refine gc_loopK (σ := Nat) [35, 36, 37, 38, 39, 42, 43, 44, 45, 46, 47, 48, 49, 50, 51, 5, 52, 53, 54, 2, 40, 41, 4] (fun k => [(4, .int .i64 k)]) (fun k => k ≤ s.pieces.length ∧ firstE (pieceAt s plE) k = 0) (fun k => s.pieces.length - k) 0 ⟨Nat.zero_le _, rfl⟩ ⟨rfl, trivial⟩ ?_
  rintro k base ⟨hk, hI⟩
  focus (refine gc_seq ?_; refine gc_seq ?_; refine gc_region ?_; refine gM rfl rfl (by conv => (lhs; whnf)) ?_; refine gF rfl rfl rfl ?_; apply gw_d; exact w_load_box rfl rfl rfl .here rfl; refine gL rfl rfl rfl ?_; refine gC rfl rfl rfl rfl rfl ?_; refine gO ?_)
  refine gc_if_dec rfl (fun h9 => ?_) (fun h9 => ?_)
  · have hlt : k < s.pieces.length := by omega
    obtain ⟨ad, _, hv, _, _, hb, hcell⟩ := h3.at' 7 rfl (by omega)
    injection hv with e1 e2 e3
    subst e1 e3
    obtain ⟨cs', hce, Ae', ce', An', cn', Ac', cc', Aw', cw', rfl, ⟨q1, _⟩, q2, q3, q4, q5⟩ := hcell k hlt
    unfold maxLen at q1
    have q2' : Sl rEdge w w.heap.size (.slice Ae' s.pieces[k].edges.length ce') s.pieces[k].edges := q2
    have q3' : Sl rSpot w w.heap.size (.slice An' s.pieces[k].notches.length cn') s.pieces[k].notches := q3
    have q4' : Sl rSpot w w.heap.size (.slice Ac' s.pieces[k].corners.length cc') s.pieces[k].corners := q4
    have q5' : Sl rInt w w.heap.size (.slice Aw' s.pieces[k].widths.length cw') s.pieces[k].widths := q5
    have q6' := h3.take (m := k) (by omega)
    have hC : ∀ (L : List Res) (w' : World), St w L w' → Ok Tryz.prog 61 [.slice (some ad) k cp, .agg #[.string s.pieces[k].name, .slice Ae' s.pieces[k].edges.length ce', .int .i64 s.pieces[k].grain, .slice An' s.pieces[k].notches.length cn', .slice Ac' s.pieces[k].corners.length cc', .slice Aw' s.pieces[k].widths.length cw', .bool s.pieces[k].mt]].toArray w' fun r _ => r = .int .i64 (pieceE (s.pieces.take k) s.pieces[k] (plE s.pieces[k])) := fun L w s' => r_piece_ok w (.slice (some ad) k cp) (s.pieces.take k) s.pieces[k] Ae' An' Ac' Aw' ce' cn' cc' cw' (q6'.later s') (q2'.later s') (q4'.later s') (q3'.later s') (q5'.later s') (by omega)
    focus (refine gc_skip ?_; refine gx_next ?_; refine gc_seq ?_; refine gc_block ?_; refine gc_seq ?_)
    refine gc_draw 10 (by kernel_rfl) (by kernel_rfl) ?_
    focus (apply gd_d; exact w_field rfl rfl rfl; apply gd_d; exact w_load_box rfl rfl rfl .here rfl; apply gd_d; exact det_m rfl rfl (by conv => (lhs; whnf)); apply gd_d; exact w_cut_hi rfl rfl rfl rfl (by with_reducible exact rfl) (by omega); apply gd_d; exact w_field rfl rfl rfl; apply gd_d; exact w_load_box rfl rfl rfl .here rfl; apply gd_d; exact det_m rfl rfl (by conv => (lhs; whnf)); apply gd_d; exact w_index rfl rfl rfl rfl (by with_reducible exact rfl) (by omega); apply gd_d; exact w_load_elem rfl rfl rfl (by assumption) (by assumption) (by rfl); apply gd_d; exact w_call rfl rfl (hC _) rfl; refine gd_nil ?_; refine gM rfl rfl (by conv => (lhs; whnf)) ?_; refine gN ?_; refine gM rfl rfl (by conv => (lhs; whnf)) ?_; refine gC rfl rfl rfl rfl rfl ?_; refine gO ?_)
    have hat : pieceAt s plE k = pieceE (s.pieces.take k) s.pieces[k] (plE s.pieces[k]) := by unfold pieceAt; rw [List.getElem?_eq_getElem hlt]
    refine gc_if_dec rfl (fun h => ?_) (fun h => ?_)
    · focus (refine gc_seq ?_; refine gc_region ?_; refine gM rfl rfl (by conv => (lhs; whnf)) ?_; refine gM rfl rfl (by conv => (lhs; whnf)) ?_; refine gO ?_; refine gc_ret ?_; refine gx_block_ret ?_; refine gx_then_ret ?_; refine gx_then_ret ?_; refine gx_block_ret ?_; refine gx_then_ret ?_)
      refine gx_ret1 (v := .int _ _) rfl rfl (fun _ _ => ?_)
      rw [← hat] at h ⊢
      rw [firstE_stop hI h hlt, if_pos h]
    · focus (refine gc_skip ?_; refine gx_block ?_; refine gx_next ?_; refine gc_region ?_; refine gM rfl rfl (by conv => (lhs; whnf)) ?_; apply gw_d; exact det_ar rfl rfl rfl rfl rfl (by omega); refine gM rfl rfl (by conv => (lhs; whnf)) ?_; refine gw_nil ?_)
      exact gx_round (k + 1) ⟨by omega, firstE_snoc hI (by rw [hat]; simpa using h)⟩ (by omega) (by repeat (first | exact Keeps.refl | refine Keeps.upd rfl ?_ | refine Keeps.sets rfl ?_ | refine Keeps.havoc rfl ?_)) ⟨rfl, trivial⟩ (Sub.all _)
  obtain rfl : k = s.pieces.length := by omega
  rw [if_neg (show ¬ ¬ firstE (pieceAt s plE) s.pieces.length = 0 from fun hc => hc hI)]
  focus (refine gc_exit ?_; refine gx_then_exit ?_; refine gx_then_exit ?_; refine gx_block_exit ?_; refine gx_next ?_; refine gc_seq ?_; refine gc_region ?_; apply gw_d; exact w_load_boxN rfl rfl rfl .here rfl; apply gw_d; exact w_call rfl rfl (fun w s' => r_joined_ok w _ s (hs'.later s')) rfl; refine gM rfl rfl (by conv => (lhs; whnf)) ?_; refine gO ?_; refine gc_ret ?_)
  refine gx_ret1 (v := .int _ _) rfl rfl (fun _ _ => ?_)
  rfl

/-! ### Uses that are taken -/
theorem markIn_at {u : Nat} : ∀ (us : List Int) (bs : List Bool), u < bs.length → (∀ x ∈ us, 0 ≤ x ∧ x < (bs.length : Int)) → (markIn bs us).getD u false = (bs.getD u false || hasB us (u : Int))
  | [], bs, _, _ => by simp [markIn, hasB]
  | x :: us, bs, hu, hr => by
    have h1 := hr x List.mem_cons_self
    show (markIn (bs.set x.toNat true) us).getD u false = _
    rw [markIn_at us (bs.set x.toNat true) (by simpa using hu) (fun y hy => by have := hr y (List.mem_cons_of_mem _ hy); simpa using this)]
    have hh : hasB (x :: us) (u : Int) = (decide (x = (u : Int)) || hasB us (u : Int)) := rfl
    rw [hh]
    by_cases hx : x.toNat = u
    · have : x = (u : Int) := by omega
      subst hx
      rw [List.getD_eq_getElem?_getD, List.getElem?_set_self hu, decide_eq_true this]
      simp
    · have : ¬ x = (u : Int) := by omega
      rw [List.getD_eq_getElem?_getD, List.getElem?_set_ne hx, decide_eq_false this]
      simp [List.getD_eq_getElem?_getD]
def takenB (l : List Opn) (u : Nat) : Bool := l.any fun o => hasB o.uses (u : Int)
theorem marks_at {n u : Nat} {l : List Opn} (hu : u < n) (hr : ∀ k (hk : k < l.length), ∀ x ∈ l[k].uses, 0 ≤ x ∧ x < (n : Int)) : ∀ k, k ≤ l.length → (marks n (l.take k)).getD u false = takenB (l.take k) u
  | 0, _ => by simp [marks, takenB, List.getD_eq_getElem?_getD, hu]
  | k + 1, hk => by
    have hk' : k < l.length := hk
    have ih := marks_at (l := l) hu hr k (by omega)
    rw [marks_snoc hk', markIn_at _ _ (by rw [marks_len]; exact hu) (fun x hx => by rw [marks_len]; exact hr k hk' x hx), ih]
    unfold takenB
    rw [any_take_snoc _ hk']
theorem marks_all {n : Nat} {l : List Opn} (hr : ∀ k (hk : k < l.length), ∀ x ∈ l[k].uses, 0 ≤ x ∧ x < (n : Int)) : (marks n l).all id = (List.range n).all (takenB l) := by
  have h := fun u (hu : u < n) => marks_at hu hr l.length (Nat.le_refl _)
  rw [List.take_length] at h
  have hl := marks_len n l
  rw [Bool.eq_iff_iff, List.all_eq_true, List.all_eq_true]
  constructor
  · intro h1 u hu
    have hu := List.mem_range.1 hu
    rw [← h u hu, List.getD_eq_getElem?_getD, List.getElem?_eq_getElem (by omega)]
    exact h1 _ (List.getElem_mem _)
  · intro h1 b hb
    obtain ⟨u, hu, rfl⟩ := List.getElem_of_mem hb
    have h2 := h1 u (List.mem_range.2 (by omega))
    rw [← h u (by omega), List.getD_eq_getElem?_getD, List.getElem?_eq_getElem hu] at h2
    exact h2

theorem rOpCheck_ok (w : World) (v : Value) (s : Sty) (hs : StyV w w.heap.size v s) : Ok Tryz.prog 8 [v].toArray w fun r _ => r = .int .i64 (opCheckE s plE) := by
  have hs' := hs
  obtain ⟨As, cs, Am, cm, Ap, cp, Au, cu, Ae, ce, Ao, co, rfl, hnm, h1, h2, h3, h4, h5, h6⟩ := hs
  obtain ⟨_, _, hv, huc, hum⟩ := len_small h4
  injection hv with e1 e2 e3
  subst e1 e3
  obtain ⟨_, _, hv, hoc, hom⟩ := len_small h6
  injection hv with e1 e2 e3
  subst e1 e3
  have hle := list_eq s.ops s.uses.length
  refine ok_enter Tryz.func8 rfl Tryz.ntmps8 rfl ?_
  focus (refine gc_seq ?_; refine gc_region ?_; refine gw_boxd (v := .agg _) rfl rfl (fun _ => ?_); refine gM rfl rfl (by conv => (lhs; whnf)) ?_; refine gO ?_; refine gc_seq ?_; refine gc_seq ?_; refine gc_region ?_; apply gw_d; exact w_load_boxN rfl rfl rfl .here rfl)
  focus (apply gw_d; exact w_call rfl rfl (fun w s' => rStyle_ok w _ s (hs'.later s')) rfl; refine gM rfl rfl (by conv => (lhs; whnf)) ?_; refine gN ?_; refine gM rfl rfl (by conv => (lhs; whnf)) ?_; refine gC rfl rfl rfl rfl rfl ?_; refine gO ?_)
  refine gc_if_dec rfl (fun h => ?_) (fun h => ?_)
  · focus (refine gc_seq ?_; refine gc_region ?_; refine gM rfl rfl (by conv => (lhs; whnf)) ?_; refine gM rfl rfl (by conv => (lhs; whnf)) ?_; refine gO ?_; refine gc_ret ?_; refine gx_then_ret ?_)
    refine gx_ret1 (v := .int _ _) rfl rfl (fun _ _ => ?_)
    unfold opCheckE
    rw [if_pos h]
  have hS0 : ¬ ¬ styleE s plE = 0 := h
  have hu12 := style_uses (Classical.not_not.1 hS0)
  focus (refine gc_skip ?_; refine gx_next ?_; refine gc_seq ?_; refine gc_seq ?_; refine gc_region ?_; refine gF rfl rfl rfl ?_; apply gw_d; exact w_load_box rfl rfl rfl .here rfl; refine gF rfl rfl rfl ?_; apply gw_d; exact w_load_box rfl rfl rfl .here rfl; refine gL rfl rfl rfl ?_; apply gw_d; exact w_call rfl rfl (fun w s' => single_ok w _ s.ops s.uses.length (h6.later s')) rfl; refine gM rfl rfl (by conv => (lhs; whnf)) ?_; refine gN ?_; refine gM rfl rfl (by conv => (lhs; whnf)) ?_; refine gC rfl rfl rfl rfl rfl ?_; refine gO ?_)
  refine gc_if_dec rfl (fun h => ?_) (fun h => ?_)
  · rw [if_pos h] at hle
    focus (refine gc_seq ?_; refine gc_region ?_; refine gM rfl rfl (by conv => (lhs; whnf)) ?_; refine gM rfl rfl (by conv => (lhs; whnf)) ?_; refine gO ?_; refine gc_ret ?_; refine gx_then_ret ?_)
    refine gx_ret1 (v := .int _ _) rfl rfl (fun _ _ => ?_)
    unfold opCheckE
    rw [if_neg hS0, hle, if_pos h]
  rw [if_neg h] at hle
  have h16 := single_16 (Classical.not_not.1 h)
  have hso : ∀ (L : List Res) (w' : World), St w L w' → OkM Tryz.prog 32 [.slice Ao s.ops.length co].toArray w' (fun x : Option Addr × Nat => .slice x.1 (sortedL s.ops).length x.2) (fun x => [Own x.1 (sortedL s.ops).length x.2 3 1 ((sortedL s.ops).map (Value.int .i64))]) := fun L w' s' => rsorted_ok w' _ s.ops (h6.later s') (by omega)
  focus (refine gc_skip ?_; refine gx_next ?_; refine gc_seq ?_; refine gc_seq ?_)
  refine gc_block_draw (Option Addr × Nat) 8 (fun i => ([[], [0], [0, 1], [0, 1, 2], [], [4], [4, 5], [0, 1, 2, 3, 4, 5, 6]] : List (List Nat)).getD i []) rfl (by kernel_rfl) ?_
  focus (apply gb_d; (intro γ; exact w_field rfl rfl rfl); (intros; rfl); (intros; rfl); apply gb_d; (intro γ; exact w_load_box rfl rfl rfl .here rfl); (intros; rfl); (intros; rfl))
  refine gb_call (l := fun _ => [.slice Ao s.ops.length co]) (fun _ (x : Option Addr × Nat) => .slice x.1 (sortedL s.ops).length x.2) (fun _ (x : Option Addr × Nat) => [Own x.1 (sortedL s.ops).length x.2 3 1 ((sortedL s.ops).map (Value.int .i64))]) (fun _ => rfl) (fun _ w s => hso _ w s) (fun _ => rfl) (fun _ _ => ⟨rfl, rfl⟩) (fun _ => ⟨rfl, rfl⟩) ?_
  focus (apply gb_d; (intro γ; exact w_len rfl rfl rfl); (intros; rfl); (intros; rfl); apply gb_d; (intro γ; exact w_field rfl rfl rfl); (intros; rfl); (intros; rfl); apply gb_d; (intro γ; exact w_load_box rfl rfl rfl .here rfl); (intros; rfl); (intros; rfl); apply gb_d; (intro γ; exact w_len rfl rfl rfl); (intros; rfl); (intros; rfl); apply gb_d; (intro γ; exact det_cmp rfl rfl rfl rfl rfl); (intros; rfl); (intros; rfl))
  refine GB.nil (fun δ => ?_)
  refine gw_ent (K := [Box _ _ _]) (Sub.ent (.cons (.there .here) .nil)) ?_
  focus (refine gO ?_)
  refine gc_if_dec rfl (fun h => ?_) (fun h => ?_)
  · rw [if_pos (by omega)] at hle
    focus (refine gc_seq ?_; refine gc_region ?_; refine gM rfl rfl (by conv => (lhs; whnf)) ?_; refine gO ?_; refine gc_ret ?_; refine gx_then_ret ?_)
    refine gx_ret1 (v := .int _ _) rfl rfl (fun _ _ => ?_)
    unfold opCheckE
    rw [if_neg hS0, hle, if_pos (by decide)]
  rw [if_neg (by omega)] at hle
  have hus := fun k (hk : k < s.ops.length) => list_uses hle hk
  have hE : opCheckE s plE = if (List.range s.uses.length).all (takenB s.ops) = true then 0 else 20 := by
    unfold opCheckE
    rw [if_neg hS0, if_neg (by rw [hle]; decide), marks_all hus]
  rw [hE]
  focus (refine gc_skip ?_; refine gx_next ?_; refine gc_seq ?_; refine gc_seq ?_; refine gc_region ?_; refine gM rfl rfl (by conv => (lhs; whnf)) ?_; refine gO ?_; refine gc_block ?_)
  refine gc_loopK (σ := Nat) [30, 31, 32, 33, 34, 6, 7, 37, 38, 39, 40, 41, 44, 45, 46, 47, 48, 49, 50, 51, 52, 53, 54, 42, 43, 55, 56, 2, 35, 36, 5] (fun u => [(5, .int .i64 u)]) (fun u => u ≤ s.uses.length ∧ (List.range u).all (takenB s.ops) = true) (fun u => s.uses.length - u) 0 ⟨Nat.zero_le _, rfl⟩ ⟨rfl, trivial⟩ ?_
  rintro u base ⟨hu, hU⟩
  focus (refine gc_seq ?_; refine gc_seq ?_; refine gc_region ?_; refine gM rfl rfl (by conv => (lhs; whnf)) ?_; refine gF rfl rfl rfl ?_; apply gw_d; exact w_load_box rfl rfl rfl .here rfl; refine gL rfl rfl rfl ?_; refine gC rfl rfl rfl rfl rfl ?_; refine gO ?_)
  refine gc_if_dec rfl (fun h => ?_) (fun h => ?_)
  · have hul : u < s.uses.length := by omega
    focus (refine gc_skip ?_; refine gx_next ?_; refine gc_seq ?_; refine gc_block ?_; refine gc_seq ?_; refine gc_region ?_; refine gM rfl rfl (by conv => (lhs; whnf)) ?_; refine gO ?_; refine gc_seq ?_; refine gc_seq ?_; refine gc_region ?_; refine gM rfl rfl (by conv => (lhs; whnf)) ?_; refine gO ?_; refine gc_block ?_)
    refine gc_loopK (σ := Nat) [37, 38, 39, 40, 41, 44, 45, 46, 47, 48, 49, 50, 51, 52, 53, 54, 6, 42, 43, 7] (fun k => [(7, .int .i64 k), (6, .bool (takenB (s.ops.take k) u))]) (fun k => k ≤ s.ops.length) (fun k => s.ops.length - k) 0 (Nat.zero_le _) ⟨rfl, rfl, trivial⟩ ?_
    rintro k base2 hk
    focus (refine gc_seq ?_; refine gc_seq ?_; refine gc_region ?_; refine gM rfl rfl (by conv => (lhs; whnf)) ?_; refine gF rfl rfl rfl ?_; apply gw_d; exact w_load_box rfl rfl rfl .here rfl; refine gL rfl rfl rfl ?_; refine gC rfl rfl rfl rfl rfl ?_; refine gO ?_)
    refine gc_if_dec rfl (fun h2 => ?_) (fun h2 => ?_)
    · have hkl : k < s.ops.length := by omega
      obtain ⟨ad, _, hv, _, _, hb, hcell⟩ := h6.at' 5 rfl (by omega)
      injection hv with e1 e2 e3
      subst e1 e3
      obtain ⟨cs', hce, Aa, ca, Au', cu', rfl, _, q1, q2⟩ := hcell k hkl
      have ha : Sl rInt w w.heap.size (.slice Au' s.ops[k].uses.length cu') s.ops[k].uses := q2
      have hce4 := hce 4 _ rfl
      have hH : ∀ (L : List Res) (w' : World), St w L w' → Ok Tryz.prog 33 [.slice Au' s.ops[k].uses.length cu', .int .i64 (u : Int)].toArray w' fun r _ => r = .bool (hasB s.ops[k].uses (u : Int)) := fun L w' s' => has_ok w' _ _ _ (ha.later s')
      have hsn : takenB (s.ops.take (k + 1)) u = (takenB (s.ops.take k) u || hasB s.ops[k].uses (u : Int)) := any_take_snoc _ hkl
      generalize takenB (s.ops.take k) u = b at hsn
      focus (refine gc_skip ?_; refine gx_next ?_; refine gc_seq ?_; refine gc_block ?_; refine gc_region ?_; refine gM rfl rfl (by conv => (lhs; whnf)) ?_; refine gM rfl rfl (by conv => (lhs; whnf)) ?_; refine gw_guard rfl rfl (fun _ => ?_) (fun _ => ?_); refine gU rfl ?_; refine gU rfl ?_; refine gU rfl ?_; refine gU rfl ?_; refine gU rfl ?_; refine gU rfl ?_; refine gU rfl ?_; refine gU rfl ?_; apply gw_d; exact det_pick_t (v := .bool _) rfl rfl rfl rfl; refine gM rfl rfl (by conv => (lhs; whnf)) ?_; refine gw_nil ?_; refine gx_block ?_; refine gx_next ?_; refine gc_region ?_; refine gM rfl rfl (by conv => (lhs; whnf)) ?_; apply gw_d; exact det_ar rfl rfl rfl rfl rfl (by omega); refine gM rfl rfl (by conv => (lhs; whnf)) ?_; refine gw_nil ?_; rotate_left; refine gF rfl rfl rfl ?_; apply gw_d; exact w_load_box rfl rfl rfl .here rfl; refine gM rfl rfl (by conv => (lhs; whnf)) ?_; apply gw_d; exact w_index rfl rfl rfl rfl (by with_reducible exact rfl) (by omega); refine gF rfl rfl rfl ?_; apply gw_d; exact w_load_fld rfl rfl rfl (by assumption) (by assumption); refine gM rfl rfl (by conv => (lhs; whnf)) ?_; apply gw_d; exact w_call rfl rfl (hH _) rfl; apply gw_d; exact det_pick_f (v := .bool _) rfl rfl rfl rfl; refine gM rfl rfl (by conv => (lhs; whnf)) ?_; refine gw_nil ?_; refine gx_block ?_; refine gx_next ?_; refine gc_region ?_; refine gM rfl rfl (by conv => (lhs; whnf)) ?_; apply gw_d; exact det_ar rfl rfl rfl rfl rfl (by omega); refine gM rfl rfl (by conv => (lhs; whnf)) ?_; refine gw_nil ?_; rotate_left)
      · rename_i h9
        exact gx_round (k + 1) hkl (by omega) (by repeat (first | exact Keeps.refl | refine Keeps.upd rfl ?_ | refine Keeps.sets rfl ?_ | refine Keeps.havoc rfl ?_)) ⟨rfl, by rw [hsn, h9]; rfl, trivial⟩ (Sub.all _)
      · rename_i h9
        exact gx_round (k + 1) hkl (by omega) (by repeat (first | exact Keeps.refl | refine Keeps.upd rfl ?_ | refine Keeps.sets rfl ?_ | refine Keeps.havoc rfl ?_)) ⟨rfl, by rw [hsn, h9]; rfl, trivial⟩ (Sub.all _)
    · obtain rfl : k = s.ops.length := by omega
      rw [List.take_length]
      cases hb : takenB s.ops u with
      | false =>
        focus (refine gc_exit ?_; refine gx_then_exit ?_; refine gx_then_exit ?_; refine gx_block_exit ?_; refine gx_next ?_; refine gc_seq ?_; refine gc_region ?_; refine gM rfl rfl (by conv => (lhs; whnf)) ?_; apply gw_d; exact det_not_ rfl rfl rfl; refine gO ?_; refine gc_if_true rfl ?_; refine gc_seq ?_; refine gc_region ?_; refine gM rfl rfl (by conv => (lhs; whnf)) ?_; refine gO ?_; refine gc_ret ?_; refine gx_block_ret ?_; refine gx_then_ret ?_; refine gx_then_ret ?_; refine gx_block_ret ?_; refine gx_then_ret ?_)
        refine gx_ret1 (v := .int _ _) rfl rfl (fun _ _ => ?_)
        rw [if_neg]
        intro hc
        have := List.all_eq_true.1 hc u (List.mem_range.2 hul)
        rw [hb] at this
        cases this
      | true =>
        focus (refine gc_exit ?_; refine gx_then_exit ?_; refine gx_then_exit ?_; refine gx_block_exit ?_; refine gx_next ?_; refine gc_seq ?_; refine gc_region ?_; refine gM rfl rfl (by conv => (lhs; whnf)) ?_; apply gw_d; exact det_not_ rfl rfl rfl; refine gO ?_; refine gc_if_false rfl ?_; refine gc_skip ?_; refine gx_block ?_; refine gx_next ?_; refine gc_region ?_; refine gM rfl rfl (by conv => (lhs; whnf)) ?_; apply gw_d; exact det_ar rfl rfl rfl rfl rfl (by omega); refine gM rfl rfl (by conv => (lhs; whnf)) ?_; refine gw_nil ?_)
        exact gx_round (u + 1) ⟨hul, by rw [List.range_succ, List.all_append, hU]; simp [hb]⟩ (by omega) (by repeat (first | exact Keeps.refl | refine Keeps.upd rfl ?_ | refine Keeps.sets rfl ?_ | refine Keeps.havoc rfl ?_)) ⟨rfl, trivial⟩ (Sub.all _)
  · obtain rfl : u = s.uses.length := by omega
    focus (refine gc_exit ?_; refine gx_then_exit ?_; refine gx_then_exit ?_; refine gx_block_exit ?_; refine gx_next ?_; refine gc_seq ?_; refine gc_region ?_; refine gM rfl rfl (by conv => (lhs; whnf)) ?_; refine gO ?_; refine gc_ret ?_)
    refine gx_ret1 (v := .int _ _) rfl rfl (fun _ _ => ?_)
    rw [if_pos hU]
end Go.Proofs.YtckhibfbdnoigaaGreat

/- Contracts: operations in order. -/
namespace Go.Proofs.YtckhibfbdnoigaaGreat
open Go.RowKit
set_option maxRecDepth 100000
set_option maxHeartbeats 2000000

theorem Order_bad (w : World) (v : Value) (l : List Opn) (hl : Sl rOp w w.heap.size v l) (hne : ¬ listE l (-1) = 0) :
    Ok Tryz.prog 21 [v].toArray w fun r _ => r = .tuple #[.slice none 0 0, .int .i64 (listE l (-1))] := by
  obtain ⟨A0, c0, rfl, hc, hm⟩ := len_small hl
  refine ok_enter Tryz.func21 rfl Tryz.ntmps21 rfl ?_
  focus (refine gc_seq ?_; refine gc_region ?_; refine gM rfl rfl (by conv => (lhs; whnf)) ?_; refine gM rfl rfl (by conv => (lhs; whnf)) ?_; refine gN ?_; refine gM rfl rfl (by conv => (lhs; whnf)) ?_; apply gw_d; exact w_call rfl rfl (fun w s => checkList_bad w _ l (-1) (hl.later s) hne) rfl; apply gw_d; exact det_extract rfl rfl rfl (by conv => (lhs; whnf)); apply gw_d; exact det_extract rfl rfl rfl (by conv => (lhs; whnf)); refine gM rfl rfl (by conv => (lhs; whnf)) ?_; refine gM rfl rfl (by conv => (lhs; whnf)) ?_; refine gO ?_; refine gc_ret ?_)
  refine gx_ret2 (u := .slice _ _ _) (v := .int _ _) rfl rfl rfl (fun _ _ => ?_)
  rfl
theorem Order_good (w : World) (v : Value) (l : List Opn) (hl : Sl rOp w w.heap.size v l) (he : listE l (-1) = 0) :
    OkM Tryz.prog 21 [v].toArray w (fun x : Option Addr × Nat => .tuple #[.slice x.1 l.length x.2, .int .i64 0]) (fun x => [Own x.1 l.length x.2 3 1 ((sortedL l).map (Value.int .i64))]) := by
  obtain ⟨A0, c0, rfl, hc, hm⟩ := len_small hl
  unfold OkM
  refine ok_enter Tryz.func21 rfl Tryz.ntmps21 rfl ?_
  focus (refine gc_seq ?_; refine gc_region ?_; refine gM rfl rfl (by conv => (lhs; whnf)) ?_; refine gM rfl rfl (by conv => (lhs; whnf)) ?_; refine gN ?_; refine gM rfl rfl (by conv => (lhs; whnf)) ?_)
  refine gw_callm rfl (fun w s => checkList_good w _ l (-1) (hl.later s) he) rfl (fun x => ?_)
  focus (apply gw_d; exact det_extract rfl rfl rfl (by conv => (lhs; whnf)); apply gw_d; exact det_extract rfl rfl rfl (by conv => (lhs; whnf)); refine gM rfl rfl (by conv => (lhs; whnf)) ?_; refine gM rfl rfl (by conv => (lhs; whnf)) ?_; refine gO ?_; refine gc_ret ?_)
  exact gx_ret2 (u := .slice _ _ _) (v := .int _ _) rfl rfl rfl (fun w' s => ⟨x, rfl, s.sep⟩)
end Go.Proofs.YtckhibfbdnoigaaGreat

/- Contracts: critical sums, precedence. -/
namespace Go.Proofs.YtckhibfbdnoigaaGreat
open Go.RowKit
set_option maxRecDepth 100000
set_option maxHeartbeats 2000000

/-! ### Plain facts -/
structure Good (l : List Opn) : Prop where
  le : l.length ≤ 16
  op : ∀ i, i < l.length → opE l (-1) i = 0
  full : (sortedL l).length = l.length
theorem list_good {l : List Opn} (he : listE l (-1) = 0) : Good l := by
  have h16 : ¬ 16 < l.length := fun h => by unfold listE at he; rw [if_pos h] at he; cases he
  have hI0 : firstE (opE l (-1)) l.length = 0 := by
    unfold listE at he
    rw [if_neg h16] at he
    split at he
    · rename_i h1; exact absurd he h1
    · rename_i h1; simpa using h1
  refine ⟨by omega, firstE_at hI0, ?_⟩
  unfold listE at he
  rw [if_neg h16, if_neg (by rw [hI0]; decide)] at he
  split at he
  · rename_i h1
    exact of_decide_eq_true h1
  · cases he
theorem Good.one {l : List Opn} (h : Good l) {i : Nat} (hi : i < l.length) : (1 ≤ l[i].minutes ∧ l[i].minutes ≤ 10000) ∧ ∀ x ∈ l[i].after, 0 ≤ x ∧ x < l.length := by
  have h1 := h.op i hi
  unfold opE at h1
  rw [List.getElem?_eq_getElem hi] at h1
  dsimp only at h1
  split at h1
  · cases h1
  · split at h1
    · cases h1
    · split at h1
      · cases h1
      · rename_i h2
        split at h1
        · cases h1
        · rename_i h3
          refine ⟨by omega, areIx_at ?_⟩
          cases hb : areIx l[i].after l.length with
          | true => rfl
          | false => exact absurd (.inl hb) h3
theorem Good.after {l : List Opn} (h : Good l) (i : Nat) : ∀ x ∈ afterOf l i, 0 ≤ x ∧ x < l.length := by
  by_cases hi : i < l.length
  · rw [afterOf_get hi]; exact (h.one hi).2
  · unfold afterOf
    rw [List.getElem?_eq_none (by omega)]
    intro x hx
    cases hx

/-! ### Precedence -/
def precStep (a : Int) (i : Nat) (bs : List Bool) (p : Int) : List Bool := if p = a ∨ bs.getD p.toNat false = true then bs.set i true else bs
def precIn (a : Int) (i : Nat) (bs : List Bool) (ps : List Int) : List Bool := ps.foldl (precStep a i) bs
def precs (l : List Opn) (a : Int) (o : List Int) : List Bool := o.foldl (fun bs i => precIn a i.toNat bs (afterOf l i.toNat)) (List.replicate l.length false)
theorem precStep_len (a : Int) (i : Nat) (bs : List Bool) (p : Int) : (precStep a i bs p).length = bs.length := by
  unfold precStep
  split
  · simp
  · rfl
theorem precIn_len (a : Int) (i : Nat) (ps : List Int) : ∀ bs, (precIn a i bs ps).length = bs.length := by
  induction ps with
  | nil => intro bs; rfl
  | cons p ps ih => intro bs; exact (ih _).trans (precStep_len a i bs p)
theorem precs_len (l : List Opn) (a : Int) (o : List Int) : (precs l a o).length = l.length := by
  unfold precs
  suffices h : ∀ (o : List Int) (bs : List Bool), (o.foldl (fun bs i => precIn a i.toNat bs (afterOf l i.toNat)) bs).length = bs.length by rw [h]; simp
  intro o
  induction o with
  | nil => intro bs; rfl
  | cons x o ih => intro bs; exact (ih _).trans (precIn_len _ _ _ _)
theorem precs_snoc {l : List Opn} {a : Int} {o : List Int} {k : Nat} (hk : k < o.length) : precs l a (o.take (k + 1)) = precIn a o[k].toNat (precs l a (o.take k)) (afterOf l o[k].toNat) := by
  unfold precs
  rw [List.take_succ_eq_append_getElem hk, List.foldl_append]
  rfl
theorem precIn_snoc {a : Int} {i : Nat} {bs : List Bool} {ps : List Int} {k : Nat} (hk : k < ps.length) : precIn a i bs (ps.take (k + 1)) = precStep a i (precIn a i bs (ps.take k)) ps[k] := by
  unfold precIn
  rw [List.take_succ_eq_append_getElem hk, List.foldl_append]
  rfl

theorem preceded_ok (w : World) (v vo : Value) (l : List Opn) (o : List Int) (a : Int) (hl : Sl rOp w w.heap.size v l) (ho : Sl rInt w w.heap.size vo o) (h16 : l.length ≤ 16) (hom : ∀ x ∈ o, 0 ≤ x ∧ x < l.length) (haf : ∀ i, ∀ x ∈ afterOf l i, 0 ≤ x ∧ x < l.length) :
    OkM Tryz.prog 52 [v, vo, .int .i64 a].toArray w (fun b => .slice (some ⟨b, 0, none⟩) l.length l.length) (fun b => [Box b 4 ((precs l a o).map Value.bool).toArray]) := by
  obtain ⟨A0, c0, rfl, hc, hm⟩ := len_small hl
  obtain ⟨A1, c1, rfl, hoc, hom2, hocell⟩ := ho.int
  unfold OkM
  refine ok_enter Tryz.func52 rfl Tryz.ntmps52 rfl ?_
  focus (refine gc_seq ?_; refine gc_region ?_; refine gM rfl rfl (by conv => (lhs; whnf)) ?_; refine gN ?_; refine gM rfl rfl (by conv => (lhs; whnf)) ?_; refine gL rfl rfl rfl ?_)
  refine gw_make1 (n := l.length) rfl rfl rfl rfl rfl (by omega) (by omega) rfl (fun b => ?_)
  rw [show Array.replicate l.length ((Value.bool false).cells.getD 0 undef) = ((precs l a (o.take 0)).map Value.bool).toArray from row_make Value.bool l.length false]
  focus (refine gM rfl rfl (by conv => (lhs; whnf)) ?_; refine gO ?_; refine gc_seq ?_; refine gc_seq ?_; refine gc_region ?_; refine gM rfl rfl (by conv => (lhs; whnf)) ?_; refine gL rfl rfl rfl ?_; refine gM rfl rfl (by conv => (lhs; whnf)) ?_; refine gO ?_; refine gc_block ?_)
  refine gc_loop (σ := Nat) [18, 19, 20, 9, 21, 22, 23, 24, 25, 26, 27, 28, 29, 30, 11, 31, 32, 33, 34, 35, 36, 37, 38, 39, 40, 41, 42, 43, 44, 17] (fun k => [(17, .int .i64 k)]) (fun k => [Box b 4 ((precs l a (o.take k)).map Value.bool).toArray]) (fun k => k ≤ o.length) (fun k => o.length - k) 0 (Nat.zero_le _) ⟨rfl, trivial⟩ (.cons .here .nil) ?_
  rintro k base hk
  focus (refine gc_seq ?_; refine gc_region ?_; refine gC rfl rfl rfl rfl rfl ?_; refine gO ?_; refine gc_seq ?_)
  refine gc_if_dec rfl (fun h => ?_) (fun h => ?_)
  · have hlt : k < o.length := by omega
    obtain ⟨ad1, rfl, hb1, hce1, _⟩ := hocell k hlt
    have hok := hom o[k] (List.getElem_mem hlt)
    obtain ⟨i, hi⟩ : ∃ i : Nat, o[k] = (i : Int) := ⟨o[k].toNat, by omega⟩
    have hil : i < l.length := by omega
    have hsn := precs_snoc (l := l) (a := a) hlt
    rw [hi] at hce1 hsn
    rw [Int.toNat_natCast, afterOf_get hil] at hsn
    obtain ⟨ad, _, hv, _, _, hb, hcell⟩ := hl.at' 5 rfl (by omega)
    injection hv with e1 e2 e3
    subst e1 e3
    obtain ⟨cs, hce, Aa, ca, Au, cu, rfl, _, q1, q2⟩ := hcell i hil
    have hce3 := hce 3 _ rfl
    have ha : Sl rInt w w.heap.size (.slice Aa l[i].after.length ca) l[i].after := q1
    obtain ⟨_, _, hv, hac, ham, hacell⟩ := ha.int
    injection hv with e1 e2 e3
    subst e1 e3
    have hpl := precs_len l a (o.take k)
    generalize precs l a (o.take k) = bs at hsn hpl ⊢
    focus (refine gc_skip ?_; refine gx_next ?_; refine gc_seq ?_; refine gc_block ?_; refine gc_seq ?_; refine gc_region ?_; apply gw_d; exact w_index rfl rfl rfl rfl (by with_reducible exact rfl) (by omega); apply gw_d; exact w_load_at rfl rfl rfl (by assumption) (by assumption); refine gM rfl rfl (by conv => (lhs; whnf)) ?_; refine gN ?_; refine gM rfl rfl (by conv => (lhs; whnf)) ?_; refine gM rfl rfl (by conv => (lhs; whnf)) ?_; apply gw_d; exact w_index rfl rfl rfl rfl (by with_reducible exact rfl) (by omega); refine gF rfl rfl rfl ?_; apply gw_d; exact w_load_fld rfl rfl rfl (by assumption) (by assumption); refine gL rfl rfl rfl ?_; refine gM rfl rfl (by conv => (lhs; whnf)) ?_; refine gO ?_; refine gc_block ?_)
    refine gc_loop (σ := Nat) [28, 29, 30, 11, 31, 32, 33, 34, 35, 36, 37, 38, 39, 40, 41, 42, 43, 27] (fun j => [(27, .int .i64 j)]) (fun j => [Box b 4 ((precIn a i bs (l[i].after.take j)).map Value.bool).toArray]) (fun j => j ≤ l[i].after.length) (fun j => l[i].after.length - j) 0 (Nat.zero_le _) ⟨rfl, trivial⟩ (.cons .here .nil) ?_
    rintro j base2 hj
    focus (refine gc_seq ?_; refine gc_region ?_; refine gC rfl rfl rfl rfl rfl ?_; refine gO ?_; refine gc_seq ?_)
    refine gc_if_dec rfl (fun h2 => ?_) (fun h2 => ?_)
    · have hjl : j < l[i].after.length := by omega
      obtain ⟨ad2, rfl, hb2, hce2, _⟩ := hacell j hjl
      have hpr := haf i l[i].after[j] (by rw [afterOf_get hil]; exact List.getElem_mem hjl)
      obtain ⟨p, hp⟩ : ∃ p : Nat, l[i].after[j] = (p : Int) := ⟨l[i].after[j].toNat, by omega⟩
      have hsn2 := precIn_snoc (a := a) (i := i) (bs := bs) hjl
      rw [hp] at hce2 hsn2
      have hl2 := precIn_len a i (l[i].after.take j) bs
      generalize precIn a i bs (l[i].after.take j) = cs2 at hsn2 hl2 ⊢
      have hpc : (cs2.map Value.bool).toArray[p * 1]? = some (.bool (cs2.getD p false)) := row_get Value.bool false (by omega)
      unfold precStep at hsn2
      rw [Int.toNat_natCast] at hsn2
      focus (refine gc_skip ?_; refine gx_next ?_; refine gc_seq ?_; refine gc_block ?_; refine gc_seq ?_; refine gc_region ?_; apply gw_d; exact w_index rfl rfl rfl rfl (by with_reducible exact rfl) (by omega); apply gw_d; exact w_load_at rfl rfl rfl (by assumption) (by assumption); refine gM rfl rfl (by conv => (lhs; whnf)) ?_; refine gN ?_; refine gM rfl rfl (by conv => (lhs; whnf)) ?_; refine gM rfl rfl (by conv => (lhs; whnf)) ?_; refine gC rfl rfl rfl rfl rfl ?_; refine gM rfl rfl (by conv => (lhs; whnf)) ?_; refine gw_guard_dec rfl rfl (fun _ => ?_) (fun _ => ?_); refine gU rfl ?_; refine gU rfl ?_; refine gU rfl ?_; refine gU rfl ?_; apply gw_d; exact det_pick_t (v := .bool _) rfl rfl rfl rfl; refine gO ?_; refine gc_if_true rfl ?_; refine gc_region ?_; refine gM rfl rfl (by conv => (lhs; whnf)) ?_; refine gM rfl rfl (by conv => (lhs; whnf)) ?_; apply gw_d; exact w_index rfl rfl rfl rfl (by with_reducible exact rfl) (by omega); rotate_left; refine gM rfl rfl (by conv => (lhs; whnf)) ?_; refine gM rfl rfl (by conv => (lhs; whnf)) ?_; apply gw_d; exact w_index rfl rfl rfl rfl (by with_reducible exact rfl) (by omega); apply gw_d; exact w_load_row rfl rfl rfl .here hpc; apply gw_d; exact det_pick_f (v := .bool _) rfl rfl rfl rfl; refine gO ?_; refine gc_if rfl (fun _ => ?_) (fun _ => ?_); refine gc_region ?_; refine gM rfl rfl (by conv => (lhs; whnf)) ?_; refine gM rfl rfl (by conv => (lhs; whnf)) ?_; apply gw_d; exact w_index rfl rfl rfl rfl (by with_reducible exact rfl) (by omega); rotate_left; refine gc_skip ?_; refine gx_block ?_; refine gx_next ?_; refine gc_region ?_; apply gw_d; exact det_ar rfl rfl rfl rfl rfl (by omega); refine gM rfl rfl (by conv => (lhs; whnf)) ?_; refine gw_nil ?_; rotate_left)
      · refine w_store_row (n := 1) (v := .bool true) rfl rfl rfl rfl rfl .here (by simp; omega) (row_set Value.bool (by omega) true) ?_
        focus (refine gw_nil ?_; refine gx_block ?_; refine gx_next ?_; refine gc_region ?_; apply gw_d; exact det_ar rfl rfl rfl rfl rfl (by omega); refine gM rfl rfl (by conv => (lhs; whnf)) ?_; refine gw_nil ?_)
        refine gx_round (j + 1) hjl (by omega) (by repeat (first | exact Keeps.refl | refine Keeps.upd rfl ?_ | refine Keeps.sets rfl ?_ | refine Keeps.havoc rfl ?_)) ⟨rfl, trivial⟩ ?_
        rw [hsn2, if_pos (.inl (by assumption))]
        exact .cons .here .nil
      · refine w_store_row (n := 1) (v := .bool true) rfl rfl rfl rfl rfl .here (by simp; omega) (row_set Value.bool (by omega) true) ?_
        focus (refine gw_nil ?_; refine gx_block ?_; refine gx_next ?_; refine gc_region ?_; apply gw_d; exact det_ar rfl rfl rfl rfl rfl (by omega); refine gM rfl rfl (by conv => (lhs; whnf)) ?_; refine gw_nil ?_)
        refine gx_round (j + 1) hjl (by omega) (by repeat (first | exact Keeps.refl | refine Keeps.upd rfl ?_ | refine Keeps.sets rfl ?_ | refine Keeps.havoc rfl ?_)) ⟨rfl, trivial⟩ ?_
        rw [hsn2, if_pos (.inr (by assumption))]
        exact .cons .here .nil
      · refine gx_round (j + 1) hjl (by omega) (by repeat (first | exact Keeps.refl | refine Keeps.upd rfl ?_ | refine Keeps.sets rfl ?_ | refine Keeps.havoc rfl ?_)) ⟨rfl, trivial⟩ ?_
        rw [hsn2, if_neg (by rintro (h3 | h3) <;> simp_all)]
        exact .cons .here .nil
    · obtain rfl : j = l[i].after.length := by omega
      rw [List.take_length, ← hsn]
      focus (refine gc_exit ?_; refine gx_then_exit ?_; refine gx_then_exit ?_; refine gx_block_exit ?_; refine gx_block ?_; refine gx_next ?_; refine gc_region ?_; apply gw_d; exact det_ar rfl rfl rfl rfl rfl (by omega); refine gM rfl rfl (by conv => (lhs; whnf)) ?_; refine gw_nil ?_)
      exact gx_round (k + 1) hlt (by omega) (by repeat (first | exact Keeps.refl | refine Keeps.upd rfl ?_ | refine Keeps.sets rfl ?_ | refine Keeps.havoc rfl ?_)) ⟨rfl, trivial⟩ (Sub.all _)
  · obtain rfl : k = o.length := by omega
    rw [List.take_length]
    focus (refine gc_exit ?_; refine gx_then_exit ?_; refine gx_then_exit ?_; refine gx_block_exit ?_; refine gx_next ?_; refine gc_seq ?_; refine gc_region ?_; refine gM rfl rfl (by conv => (lhs; whnf)) ?_; refine gM rfl rfl (by conv => (lhs; whnf)) ?_; refine gO ?_; refine gc_ret ?_)
    exact gx_ret1 rfl rfl fun w s => ⟨b, rfl, s.sep⟩
end Go.Proofs.YtckhibfbdnoigaaGreat

/- Contracts: Critical, Before, Followers. -/
namespace Go.Proofs.YtckhibfbdnoigaaGreat
open Go.RowKit
set_option maxRecDepth 100000
set_option maxHeartbeats 2000000

/-! ### Critical sums -/
def sumStep (i : Nat) (s : List Int) (p : Int) : List Int := s.set i (max (s.getD i 0) (s.getD p.toNat 0))
def sumIn (i : Nat) (s : List Int) (ps : List Int) : List Int := ps.foldl (sumStep i) s
def minOf (l : List Opn) (i : Nat) : Int := ((l[i]?).map (·.minutes)).getD 0
def sumOne (l : List Opn) (s : List Int) (i : Nat) : List Int := let t := sumIn i s (afterOf l i); t.set i (t.getD i 0 + minOf l i)
def critS (l : List Opn) (o : List Int) : List Int × Int := o.foldl (fun x i => (sumOne l x.1 i.toNat, max x.2 ((sumOne l x.1 i.toNat).getD i.toNat 0))) (List.replicate l.length 0, 0)
theorem minOf_get {l : List Opn} {i : Nat} (h : i < l.length) : minOf l i = l[i].minutes := by
  unfold minOf
  rw [List.getElem?_eq_getElem h]
  rfl
theorem critS_snoc {l : List Opn} {o : List Int} {k : Nat} (hk : k < o.length) : critS l (o.take (k + 1)) = (sumOne l (critS l (o.take k)).1 o[k].toNat, max (critS l (o.take k)).2 ((sumOne l (critS l (o.take k)).1 o[k].toNat).getD o[k].toNat 0)) := by
  unfold critS
  rw [List.take_succ_eq_append_getElem hk, List.foldl_append]
  rfl
theorem sumIn_snoc {i : Nat} {s : List Int} {ps : List Int} {k : Nat} (hk : k < ps.length) : sumIn i s (ps.take (k + 1)) = sumStep i (sumIn i s (ps.take k)) ps[k] := by
  unfold sumIn
  rw [List.take_succ_eq_append_getElem hk, List.foldl_append]
  rfl
theorem sumIn_len (i : Nat) (ps : List Int) : ∀ s, (sumIn i s ps).length = s.length := by
  induction ps with
  | nil => intro s; rfl
  | cons p ps ih => intro s; exact (ih _).trans (by unfold sumStep; simp)
theorem sumOne_len (l : List Opn) (s : List Int) (i : Nat) : (sumOne l s i).length = s.length := by
  unfold sumOne
  simp [sumIn_len]
def Lo (s : List Int) (b : Int) : Prop := ∀ x ∈ s, 0 ≤ x ∧ x ≤ b
theorem Lo.get {s : List Int} {b : Int} (h : Lo s b) (hb : 0 ≤ b) (i : Nat) : 0 ≤ s.getD i 0 ∧ s.getD i 0 ≤ b := by
  by_cases hi : i < s.length
  · have : s.getD i 0 = s[i] := by simp [hi]
    rw [this]
    exact h _ (List.getElem_mem hi)
  · have : s.getD i 0 = 0 := by simp [List.getElem?_eq_none (Nat.le_of_not_lt hi)]
    rw [this]; omega
theorem Lo.set {s : List Int} {b : Int} (h : Lo s b) (i : Nat) {x : Int} (hx : 0 ≤ x ∧ x ≤ b) : Lo (s.set i x) b := fun y hy => by
  rcases List.mem_or_eq_of_mem_set hy with h1 | h1
  · exact h y h1
  · rw [h1]; exact hx
theorem sumIn_lo {b : Int} (hb : 0 ≤ b) (i : Nat) (ps : List Int) : ∀ s, Lo s b → Lo (sumIn i s ps) b := by
  induction ps with
  | nil => intro s h; exact h
  | cons p ps ih =>
    intro s h
    refine ih _ ?_
    unfold sumStep
    have h1 := h.get hb i
    have h2 := h.get hb p.toNat
    exact h.set i (by omega)
theorem sumOne_lo {l : List Opn} {s : List Int} {b : Int} (hb : 0 ≤ b) (h : Lo s b) (i : Nat) (hm : 0 ≤ minOf l i ∧ minOf l i ≤ 10000) : Lo (sumOne l s i) (b + 10000) := by
  have h1 := sumIn_lo hb i (afterOf l i) s h
  have h2 := h1.get hb i
  have h3 : Lo (sumIn i s (afterOf l i)) (b + 10000) := fun x hx => by have := h1 x hx; omega
  exact h3.set i (by omega)

theorem Critical_good (w : World) (v : Value) (l : List Opn) (hl : Sl rOp w w.heap.size v l) (he : listE l (-1) = 0) :
    Ok Tryz.prog 23 [v].toArray w fun r _ => r = .tuple #[.int .i64 (critS l (sortedL l)).2, .int .i64 0] := by
  obtain ⟨A0, c0, rfl, hc, hm⟩ := len_small hl
  have hG := list_good he
  have h16 := hG.le
  have hsl := hG.full
  refine ok_enter Tryz.func23 rfl Tryz.ntmps23 rfl ?_
  focus (refine gc_seq ?_; refine gc_region ?_; refine gM rfl rfl (by conv => (lhs; whnf)) ?_; refine gM rfl rfl (by conv => (lhs; whnf)) ?_; refine gN ?_; refine gM rfl rfl (by conv => (lhs; whnf)) ?_)
  refine gw_callm rfl (fun w s => checkList_good w _ l (-1) (hl.later s) he) rfl (fun x => ?_)
  obtain ⟨A, c⟩ := x
  focus (refine gM rfl rfl (by conv => (lhs; whnf)) ?_; apply gw_d; exact det_extract rfl rfl rfl (by conv => (lhs; whnf)); apply gw_d; exact det_extract rfl rfl rfl (by conv => (lhs; whnf)); refine gM rfl rfl (by conv => (lhs; whnf)) ?_; refine gM rfl rfl (by conv => (lhs; whnf)) ?_; refine gO ?_; refine gc_seq ?_; refine gc_seq ?_; refine gc_region ?_; refine gM rfl rfl (by conv => (lhs; whnf)) ?_; refine gC rfl rfl rfl rfl rfl ?_; refine gO ?_)
  refine gc_if_dec rfl (fun h => absurd rfl h) (fun _ => ?_)
  focus (refine gc_skip ?_; refine gx_next ?_; refine gc_seq ?_; refine gc_region ?_; refine gM rfl rfl (by conv => (lhs; whnf)) ?_; refine gL rfl rfl rfl ?_)
  refine gw_make1 (n := l.length) rfl rfl rfl rfl rfl (by omega) (by omega) rfl (fun b => ?_)
  rw [show Array.replicate l.length ((Value.int .i64 0).cells.getD 0 undef) = (((critS l ((sortedL l).take 0)).1).map (Value.int .i64)).toArray from row_make (Value.int .i64) l.length 0]
  focus (refine gM rfl rfl (by conv => (lhs; whnf)) ?_; refine gN ?_; refine gM rfl rfl (by conv => (lhs; whnf)) ?_; refine gO ?_; refine gc_seq ?_; refine gc_seq ?_; refine gc_region ?_; refine gM rfl rfl (by conv => (lhs; whnf)) ?_; refine gL rfl rfl rfl ?_; refine gM rfl rfl (by conv => (lhs; whnf)) ?_; refine gO ?_; refine gc_block ?_)
  refine gc_loop (σ := Nat) [26, 27, 28, 9, 29, 30, 31, 32, 33, 34, 35, 36, 37, 38, 11, 39, 40, 41, 42, 43, 44, 45, 46, 47, 48, 49, 50, 51, 52, 53, 54, 55, 56, 57, 58, 59, 60, 61, 62, 63, 64, 65, 66, 67, 68, 7, 69, 25] (fun k => [(25, .int .i64 k), (7, .int .i64 (critS l ((sortedL l).take k)).2)]) (fun k => [Box b 3 (((critS l ((sortedL l).take k)).1).map (Value.int .i64)).toArray, Own A l.length c 3 1 ((sortedL l).map (Value.int .i64))])
    (fun k => k ≤ l.length ∧ (critS l ((sortedL l).take k)).1.length = l.length ∧ Lo (critS l ((sortedL l).take k)).1 (10000 * k) ∧ 0 ≤ (critS l ((sortedL l).take k)).2 ∧ (critS l ((sortedL l).take k)).2 ≤ 10000 * k) (fun k => l.length - k) 0
    ⟨Nat.zero_le _, by simp [critS], fun x hx => by have := (List.mem_replicate.1 hx).2; omega, by show (0 : Int) ≤ 0; omega, by show (0 : Int) ≤ 0; omega⟩ ⟨rfl, rfl, trivial⟩ (.cons .here (.cons .here .nil)) ?_
  rintro k base ⟨hk, hlen, hlo, hg0, hg1⟩
  focus (refine gc_seq ?_; refine gc_region ?_; refine gC rfl rfl rfl rfl rfl ?_; refine gO ?_; refine gc_seq ?_)
  refine gc_if_dec rfl (fun h => ?_) (fun h => ?_)
  · have hlt : k < (sortedL l).length := by omega
    have hok := sorted_mem (l := l) (sortedL l)[k] (List.getElem_mem hlt)
    obtain ⟨i, hi⟩ : ∃ i : Nat, (sortedL l)[k] = (i : Int) := ⟨(sortedL l)[k].toNat, by omega⟩
    have hil : i < l.length := by omega
    have hsn := critS_snoc (l := l) hlt
    rw [hi, Int.toNat_natCast] at hsn
    obtain ⟨⟨hmin1, hmin2⟩, haf⟩ := hG.one hil
    obtain ⟨ad, _, hv, _, _, hb, hcell⟩ := hl.at' 5 rfl (by omega)
    injection hv with e1 e2 e3
    subst e1 e3
    obtain ⟨cs, hce, Aa, ca, Au, cu, rfl, _, q1, q2⟩ := hcell i hil
    have hce3 := hce 3 _ rfl
    have hce2 := hce 2 _ rfl
    have ha : Sl rInt w w.heap.size (.slice Aa l[i].after.length ca) l[i].after := q1
    obtain ⟨_, _, hv, hac, ham, hacell⟩ := ha.int
    injection hv with e1 e2 e3
    subst e1 e3
    refine gc_ownbox (by omega) (.there .here) fun g ocs hA hosz hotk => ?_
    subst hA
    have hoc := take_at hotk hlt
    rw [hi] at hoc
    generalize hS : critS l ((sortedL l).take k) = S at hsn hlen hlo hg0 hg1 ⊢
    obtain ⟨sm, gr⟩ := S
    dsimp only at hsn hlen hlo hg0 hg1 ⊢
    focus (refine gc_skip ?_; refine gx_next ?_; refine gc_seq ?_; refine gc_block ?_; refine gc_seq ?_; refine gc_region ?_; apply gw_d; exact w_index rfl rfl rfl rfl (by with_reducible exact rfl) (by omega); apply gw_d; exact w_load_row rfl rfl rfl .here hoc; refine gM rfl rfl (by conv => (lhs; whnf)) ?_; refine gO ?_; refine gc_seq ?_; refine gc_seq ?_; refine gc_region ?_; refine gM rfl rfl (by conv => (lhs; whnf)) ?_; refine gM rfl rfl (by conv => (lhs; whnf)) ?_; apply gw_d; exact w_index rfl rfl rfl rfl (by with_reducible exact rfl) (by omega); refine gF rfl rfl rfl ?_; apply gw_d; exact w_load_fld rfl rfl rfl (by assumption) (by assumption); refine gL rfl rfl rfl ?_; refine gM rfl rfl (by conv => (lhs; whnf)) ?_; refine gO ?_; refine gc_block ?_)
    refine gc_loop (σ := Nat) [36, 37, 38, 11, 39, 40, 41, 42, 43, 44, 45, 46, 47, 48, 49, 50, 51, 35] (fun j => [(35, .int .i64 j)]) (fun j => [Box b 3 ((sumIn i sm (l[i].after.take j)).map (Value.int .i64)).toArray, Box g 3 ocs]) (fun j => j ≤ l[i].after.length) (fun j => l[i].after.length - j) 0 (Nat.zero_le _) ⟨rfl, trivial⟩ (.cons (.there .here) (.cons .here .nil)) ?_
    rintro j base2 hj
    have hl2 := sumIn_len i (l[i].after.take j) sm
    have hlo2 := sumIn_lo (b := 10000 * k) (by omega) i (l[i].after.take j) sm hlo
    focus (refine gc_seq ?_; refine gc_region ?_; refine gC rfl rfl rfl rfl rfl ?_; refine gO ?_; refine gc_seq ?_)
    refine gc_if_dec rfl (fun h2 => ?_) (fun h2 => ?_)
    · have hjl : j < l[i].after.length := by omega
      obtain ⟨ad2, rfl, hb2, hce4, _⟩ := hacell j hjl
      have hpr := haf l[i].after[j] (List.getElem_mem hjl)
      obtain ⟨p, hp⟩ : ∃ p : Nat, l[i].after[j] = (p : Int) := ⟨l[i].after[j].toNat, by omega⟩
      have hsn2 := sumIn_snoc (i := i) (s := sm) hjl
      rw [hp] at hce4 hsn2
      generalize sumIn i sm (l[i].after.take j) = s2 at hsn2 hl2 hlo2 ⊢
      unfold sumStep at hsn2
      rw [Int.toNat_natCast] at hsn2
      have hpc : (s2.map (Value.int .i64)).toArray[p * 1]? = some (.int .i64 (s2.getD p 0)) := row_get (Value.int .i64) 0 (by omega)
      have hpi : (s2.map (Value.int .i64)).toArray[i * 1]? = some (.int .i64 (s2.getD i 0)) := row_get (Value.int .i64) 0 (by omega)
      focus (refine gc_skip ?_; refine gx_next ?_; refine gc_seq ?_; refine gc_block ?_; refine gc_seq ?_; refine gc_region ?_; apply gw_d; exact w_index rfl rfl rfl rfl (by with_reducible exact rfl) (by omega); apply gw_d; exact w_load_at rfl rfl rfl (by assumption) (by assumption); refine gM rfl rfl (by conv => (lhs; whnf)) ?_; refine gO ?_)
      refine gc_draw 11 (by kernel_rfl) (by kernel_rfl) ?_
      focus (apply gd_d; exact det_m rfl rfl (by conv => (lhs; whnf)); apply gd_d; exact det_m rfl rfl (by conv => (lhs; whnf)); apply gd_d; exact det_m rfl rfl (by conv => (lhs; whnf)); apply gd_d; exact det_m rfl rfl (by conv => (lhs; whnf)); apply gd_d; exact w_index rfl rfl rfl rfl (by with_reducible exact rfl) (by omega); apply gd_d; exact w_load_row rfl rfl rfl .here hpi; apply gd_d; exact det_m rfl rfl (by conv => (lhs; whnf)); apply gd_d; exact det_m rfl rfl (by conv => (lhs; whnf)); apply gd_d; exact w_index rfl rfl rfl rfl (by with_reducible exact rfl) (by omega); apply gd_d; exact w_load_row rfl rfl rfl .here hpc; apply gd_d; exact w_max rfl rfl rfl rfl; refine gd_nil ?_; apply gw_d; exact w_index rfl rfl rfl rfl (by with_reducible exact rfl) (by omega))
      refine w_store_row (n := 1) (v := .int .i64 (max (s2.getD i 0) (s2.getD p 0))) rfl rfl rfl rfl rfl .here (by simp; omega) (row_set (Value.int .i64) (by omega) _) ?_
      focus (refine gw_nil ?_; refine gx_block ?_; refine gx_next ?_; refine gc_region ?_; apply gw_d; exact det_ar rfl rfl rfl rfl rfl (by omega); refine gM rfl rfl (by conv => (lhs; whnf)) ?_; refine gw_nil ?_)
      refine gx_round (j + 1) hjl (by omega) (by repeat (first | exact Keeps.refl | refine Keeps.upd rfl ?_ | refine Keeps.sets rfl ?_ | refine Keeps.havoc rfl ?_)) ⟨rfl, trivial⟩ ?_
      rw [hsn2]
      exact .cons .here (.cons .here .nil)
    · obtain rfl : j = l[i].after.length := by omega
      rw [List.take_length] at hl2 hlo2 ⊢
      have hone : sumOne l sm i = (sumIn i sm l[i].after).set i ((sumIn i sm l[i].after).getD i 0 + l[i].minutes) := by unfold sumOne; rw [afterOf_get hil, minOf_get hil]
      have hlo3 := sumOne_lo (l := l) (s := sm) (b := 10000 * k) (by omega) hlo i (by rw [minOf_get hil]; omega)
      have hlen3 := sumOne_len l sm i
      generalize sumIn i sm l[i].after = s2 at hl2 hlo2 hone ⊢
      have hpi : (s2.map (Value.int .i64)).toArray[i * 1]? = some (.int .i64 (s2.getD i 0)) := row_get (Value.int .i64) 0 (by omega)
      have hbd := hlo2.get (by omega) i
      focus (refine gc_exit ?_; refine gx_then_exit ?_; refine gx_then_exit ?_; refine gx_block_exit ?_; refine gx_next ?_; refine gc_seq ?_)
      refine gc_draw 10 (by kernel_rfl) (by kernel_rfl) ?_
      focus (apply gd_d; exact det_m rfl rfl (by conv => (lhs; whnf)); apply gd_d; exact det_m rfl rfl (by conv => (lhs; whnf)); apply gd_d; exact w_index rfl rfl rfl rfl (by with_reducible exact rfl) (by omega); apply gd_d; exact w_load_row rfl rfl rfl .here hpi; apply gd_d; exact det_m rfl rfl (by conv => (lhs; whnf)); apply gd_d; exact det_m rfl rfl (by conv => (lhs; whnf)); apply gd_d; exact w_index rfl rfl rfl rfl (by with_reducible exact rfl) (by omega); apply gd_d; exact w_field rfl rfl rfl; apply gd_d; exact w_load_fld rfl rfl rfl (by assumption) (by assumption); apply gd_d; exact det_ar rfl rfl rfl rfl rfl (by omega); refine gd_nil ?_; apply gw_d; exact w_index rfl rfl rfl rfl (by with_reducible exact rfl) (by omega))
      refine w_store_row (n := 1) (v := .int .i64 (s2.getD i 0 + l[i].minutes)) rfl rfl rfl rfl rfl .here (by simp; omega) (row_set (Value.int .i64) (by omega) _) ?_
      rw [← hone]
      have hpj : ((sumOne l sm i).map (Value.int .i64)).toArray[i * 1]? = some (.int .i64 ((sumOne l sm i).getD i 0)) := row_get (Value.int .i64) 0 (by omega)
      have hbd3 := hlo3.get (by omega) i
      focus (refine gO ?_; refine gc_region ?_; refine gM rfl rfl (by conv => (lhs; whnf)) ?_; refine gM rfl rfl (by conv => (lhs; whnf)) ?_; refine gM rfl rfl (by conv => (lhs; whnf)) ?_; apply gw_d; exact w_index rfl rfl rfl rfl (by with_reducible exact rfl) (by omega); apply gw_d; exact w_load_row rfl rfl rfl .here hpj; apply gw_d; exact w_max rfl rfl rfl rfl; refine gM rfl rfl (by conv => (lhs; whnf)) ?_; refine gw_nil ?_; refine gx_block ?_; refine gx_next ?_; refine gc_region ?_; apply gw_d; exact det_ar rfl rfl rfl rfl rfl (by omega); refine gM rfl rfl (by conv => (lhs; whnf)) ?_; refine gw_nil ?_)
      refine gx_roundE (k + 1) ⟨by omega, by rw [hsn]; dsimp only; omega, by rw [hsn]; intro x hx; have := hlo3 x hx; omega, by rw [hsn]; dsimp only; omega, by rw [hsn]; dsimp only; omega⟩ (by omega) (by repeat (first | exact Keeps.refl | refine Keeps.upd rfl ?_ | refine Keeps.sets rfl ?_ | refine Keeps.havoc rfl ?_)) ⟨rfl, by rw [hsn]; rfl, trivial⟩ ?_
      rw [hsn]
      refine Ent.trans (Ent.trans (Sub.ent (.cons (.there .here) (.cons .here .nil))) (box_own hosz hotk)) (Sub.ent (.cons (.there .here) (.cons .here .nil)))
  · obtain rfl : k = l.length := by omega
    rw [List.take_of_length_le (by omega)]
    focus (refine gc_exit ?_; refine gx_then_exit ?_; refine gx_then_exit ?_; refine gx_block_exit ?_; refine gx_next ?_; refine gc_seq ?_; refine gc_region ?_; refine gM rfl rfl (by conv => (lhs; whnf)) ?_; refine gM rfl rfl (by conv => (lhs; whnf)) ?_; refine gM rfl rfl (by conv => (lhs; whnf)) ?_; refine gO ?_; refine gc_ret ?_)
    refine gx_ret2 (u := .int _ _) (v := .int _ _) rfl rfl rfl (fun _ _ => ?_)
    rfl

/-! ### Before -/
def beforeE (l : List Opn) (a b : Int) : Int := if ¬ listE l (-1) = 0 then listE l (-1) else if areIx [a, b] l.length = true then 0 else 3
def beforeV (l : List Opn) (a b : Int) : Bool := if beforeE l a b = 0 then (precs l a (sortedL l)).getD b.toNat false else false
theorem Before_ok (w : World) (v : Value) (l : List Opn) (a b : Int) (hl : Sl rOp w w.heap.size v l) (ha : inI64 a) (hb : inI64 b) :
    Ok Tryz.prog 24 [v, .int .i64 a, .int .i64 b].toArray w fun r _ => r = .tuple #[.bool (beforeV l a b), .int .i64 (beforeE l a b)] := by
  have hin2 : ∀ x ∈ [a, b], inI64 x := by
    intro x hx
    simp only [List.mem_cons, List.not_mem_nil, or_false] at hx
    rcases hx with rfl | rfl <;> assumption
  obtain ⟨A0, c0, rfl, hc, hm⟩ := len_small hl
  by_cases he : listE l (-1) = 0
  · have hG := list_good he
    have h16 := hG.le
    have hsl := hG.full
    refine ok_enter Tryz.func24 rfl Tryz.ntmps24 rfl ?_
    focus (refine gc_seq ?_; refine gc_region ?_; refine gM rfl rfl (by conv => (lhs; whnf)) ?_; refine gM rfl rfl (by conv => (lhs; whnf)) ?_; refine gN ?_; refine gM rfl rfl (by conv => (lhs; whnf)) ?_)
    refine gw_callm rfl (fun w s => checkList_good w _ l (-1) (hl.later s) he) rfl (fun x => ?_)
    obtain ⟨A, c⟩ := x
    focus (refine gM rfl rfl (by conv => (lhs; whnf)) ?_; apply gw_d; exact det_extract rfl rfl rfl (by conv => (lhs; whnf)); apply gw_d; exact det_extract rfl rfl rfl (by conv => (lhs; whnf)); refine gM rfl rfl (by conv => (lhs; whnf)) ?_; refine gM rfl rfl (by conv => (lhs; whnf)) ?_; refine gO ?_; refine gc_seq ?_; refine gc_seq ?_; refine gc_region ?_; refine gM rfl rfl (by conv => (lhs; whnf)) ?_; refine gC rfl rfl rfl rfl rfl ?_; refine gO ?_)
    refine gc_if_dec rfl (fun h => absurd rfl h) (fun _ => ?_)
    focus (refine gc_skip ?_; refine gx_next ?_; refine gc_seq ?_; refine gc_seq ?_; refine gc_region ?_; refine gM rfl rfl (by conv => (lhs; whnf)) ?_; refine gM rfl rfl (by conv => (lhs; whnf)) ?_)
    refine gw_bslice (cells := #[.int .i64 a, .int .i64 b]) rfl ?_ ?_ ?_ (fun bx => ?_)
    · rfl
    · rfl
    · kernel_rfl
    have hC : ∀ (L : List Res) (w' : World), St w (Box bx 3 #[.int .i64 a, .int .i64 b] :: L) w' → Ok Tryz.prog 51 [.slice (some ⟨bx, 0, none⟩) 2 2, .int .i64 l.length].toArray w' fun r _ => r = .bool (areIx [a, b] l.length) := fun L w' s => areIx_ok w' _ [a, b] _ (Sl.boxI (o := [a, b]) s .here rfl (by decide) (by decide) hin2)
    focus (refine gM rfl rfl (by conv => (lhs; whnf)) ?_; refine gL rfl rfl rfl ?_; apply gw_d; exact w_call rfl rfl (hC _) rfl; apply gw_d; exact det_not_ rfl rfl rfl; refine gO ?_)
    refine gc_if rfl (fun h => ?_) (fun h => ?_)
    · focus (refine gc_seq ?_; refine gc_region ?_; refine gM rfl rfl (by conv => (lhs; whnf)) ?_; refine gM rfl rfl (by conv => (lhs; whnf)) ?_; refine gO ?_; refine gc_ret ?_; refine gx_then_ret ?_)
      refine gx_ret2 (u := .bool _) (v := .int _ _) rfl rfl rfl (fun _ _ => ?_)
      have h1 : areIx [a, b] l.length = false := by simpa using h
      have h2 : beforeE l a b = 3 := by unfold beforeE; rw [if_neg (by rw [he]; decide), if_neg (by rw [h1]; decide)]
      have h3 : beforeV l a b = false := by unfold beforeV; rw [h2]; rfl
      rw [h2, h3]
    · have h1 : areIx [a, b] l.length = true := by simpa using h
      have h2 : beforeE l a b = 0 := by unfold beforeE; rw [if_neg (by rw [he]; decide), if_pos h1]
      have hbr := areIx_at h1 b (by simp)
      obtain ⟨m, rfl⟩ : ∃ m : Nat, b = (m : Int) := ⟨b.toNat, by omega⟩
      have hml : m < l.length := by omega
      have h3 : beforeV l a m = (precs l a (sortedL l)).getD m false := by unfold beforeV; rw [if_pos h2, Int.toNat_natCast]
      rw [h2, h3]
      focus (refine gc_skip ?_; refine gx_next ?_; refine gc_seq ?_; refine gc_region ?_; refine gM rfl rfl (by conv => (lhs; whnf)) ?_; refine gM rfl rfl (by conv => (lhs; whnf)) ?_; refine gM rfl rfl (by conv => (lhs; whnf)) ?_)
      refine gw_callm rfl (fun w s => preceded_ok w _ _ l (sortedL l) a (hl.later s) (Sl.ownI s (.there .here) hsl.symm (fun x hx => by have := sorted_mem (l := l) x hx; unfold inI64; omega)) h16 sorted_mem hG.after) rfl (fun bp => ?_)
      have hpl := precs_len l a (sortedL l)
      have hpc : ((precs l a (sortedL l)).map Value.bool).toArray[m * 1]? = some (.bool ((precs l a (sortedL l)).getD m false)) := row_get Value.bool false (by omega)
      focus (refine gM rfl rfl (by conv => (lhs; whnf)) ?_; apply gw_d; exact w_index rfl rfl rfl rfl (by with_reducible exact rfl) (by omega); apply gw_d; exact w_load_row rfl rfl rfl .here hpc; refine gM rfl rfl (by conv => (lhs; whnf)) ?_; refine gM rfl rfl (by conv => (lhs; whnf)) ?_; refine gO ?_; refine gc_ret ?_)
      refine gx_ret2 (u := .bool _) (v := .int _ _) rfl rfl rfl (fun _ _ => ?_)
      rfl
  · have h2 : beforeE l a b = listE l (-1) := by unfold beforeE; rw [if_pos he]
    have h3 : beforeV l a b = false := by unfold beforeV; rw [h2, if_neg he]
    rw [h2, h3]
    refine ok_enter Tryz.func24 rfl Tryz.ntmps24 rfl ?_
    focus (refine gc_seq ?_; refine gc_region ?_; refine gM rfl rfl (by conv => (lhs; whnf)) ?_; refine gM rfl rfl (by conv => (lhs; whnf)) ?_; refine gN ?_; refine gM rfl rfl (by conv => (lhs; whnf)) ?_; apply gw_d; exact w_call rfl rfl (fun w s => checkList_bad w _ l (-1) (hl.later s) he) rfl; refine gM rfl rfl (by conv => (lhs; whnf)) ?_; apply gw_d; exact det_extract rfl rfl rfl (by conv => (lhs; whnf)); apply gw_d; exact det_extract rfl rfl rfl (by conv => (lhs; whnf)); refine gM rfl rfl (by conv => (lhs; whnf)) ?_; refine gM rfl rfl (by conv => (lhs; whnf)) ?_; refine gO ?_; refine gc_seq ?_; refine gc_seq ?_; refine gc_region ?_; refine gM rfl rfl (by conv => (lhs; whnf)) ?_; refine gC rfl rfl rfl rfl rfl ?_; refine gO ?_)
    refine gc_if_dec rfl (fun _ => ?_) (fun h => absurd he h)
    focus (refine gc_seq ?_; refine gc_region ?_; refine gM rfl rfl (by conv => (lhs; whnf)) ?_; refine gM rfl rfl (by conv => (lhs; whnf)) ?_; refine gM rfl rfl (by conv => (lhs; whnf)) ?_; refine gO ?_; refine gc_ret ?_; refine gx_then_ret ?_)
    refine gx_ret2 (u := .bool _) (v := .int _ _) rfl rfl rfl (fun _ _ => ?_)
    rfl

/-! ### Followers -/
def follE (l : List Opn) (a : Int) : Int := if ¬ listE l (-1) = 0 then listE l (-1) else if areIx [a] l.length = true then 0 else 3
def follT (bs : List Bool) (n : Nat) : List Int := ((List.range n).filter fun i => bs.getD i false).map fun i : Nat => (i : Int)
def follL (l : List Opn) (a : Int) : List Int := follT (precs l a (sortedL l)) l.length
theorem follT_snoc (bs : List Bool) (n : Nat) : follT bs (n + 1) = if bs.getD n false = true then follT bs n ++ [(n : Int)] else follT bs n := by
  unfold follT
  rw [List.range_succ, List.filter_append, List.map_append, List.filter_cons]
  split <;> simp
theorem follT_len (bs : List Bool) (n : Nat) : (follT bs n).length ≤ n := by
  unfold follT
  rw [List.length_map]
  exact Nat.le_trans (List.length_filter_le _ _) (by simp)
theorem Followers_bad (w : World) (v : Value) (l : List Opn) (a : Int) (hl : Sl rOp w w.heap.size v l) (ha : inI64 a) (hne : ¬ follE l a = 0) :
    Ok Tryz.prog 25 [v, .int .i64 a].toArray w fun r _ => r = .tuple #[.slice none 0 0, .int .i64 (follE l a)] := by
  have hin1 : ∀ x ∈ [a], inI64 x := fun x hx => by rw [List.mem_singleton] at hx; rw [hx]; exact ha
  obtain ⟨A0, c0, rfl, hc, hm⟩ := len_small hl
  by_cases he : listE l (-1) = 0
  · have h0 : follE l a = if areIx [a] l.length = true then 0 else 3 := by unfold follE; rw [if_neg (by rw [he]; decide)]
    have h1 : areIx [a] l.length = false := by
      cases hb : areIx [a] l.length with
      | false => rfl
      | true => rw [h0, hb] at hne; exact absurd rfl hne
    rw [h1] at h0
    rw [h0]
    refine ok_enter Tryz.func25 rfl Tryz.ntmps25 rfl ?_
    focus (refine gc_seq ?_; refine gc_region ?_; refine gM rfl rfl (by conv => (lhs; whnf)) ?_; refine gM rfl rfl (by conv => (lhs; whnf)) ?_; refine gN ?_; refine gM rfl rfl (by conv => (lhs; whnf)) ?_)
    refine gw_callm rfl (fun w s => checkList_good w _ l (-1) (hl.later s) he) rfl (fun x => ?_)
    obtain ⟨A, c⟩ := x
    focus (refine gM rfl rfl (by conv => (lhs; whnf)) ?_; apply gw_d; exact det_extract rfl rfl rfl (by conv => (lhs; whnf)); apply gw_d; exact det_extract rfl rfl rfl (by conv => (lhs; whnf)); refine gM rfl rfl (by conv => (lhs; whnf)) ?_; refine gM rfl rfl (by conv => (lhs; whnf)) ?_; refine gO ?_; refine gc_seq ?_; refine gc_seq ?_; refine gc_region ?_; refine gM rfl rfl (by conv => (lhs; whnf)) ?_; refine gC rfl rfl rfl rfl rfl ?_; refine gO ?_)
    refine gc_if_dec rfl (fun h => absurd rfl h) (fun _ => ?_)
    focus (refine gc_skip ?_; refine gx_next ?_; refine gc_seq ?_; refine gc_seq ?_; refine gc_region ?_; refine gM rfl rfl (by conv => (lhs; whnf)) ?_)
    refine gw_bslice1 (v := .int .i64 a) rfl rfl rfl rfl rfl (fun bx => ?_)
    have hC : ∀ (L : List Res) (w' : World), St w (Box bx 3 (Value.int .i64 a).cells :: L) w' → Ok Tryz.prog 51 [.slice (some ⟨bx, 0, none⟩) 1 1, .int .i64 l.length].toArray w' fun r _ => r = .bool (areIx [a] l.length) := fun L w' s => areIx_ok w' _ [a] _ (Sl.boxI (o := [a]) s .here rfl (by decide) (by decide) hin1)
    focus (refine gM rfl rfl (by conv => (lhs; whnf)) ?_; refine gL rfl rfl rfl ?_; apply gw_d; exact w_call rfl rfl (hC _) rfl; apply gw_d; exact det_not_ rfl rfl rfl; refine gO ?_)
    refine gc_if rfl (fun h => ?_) (fun h => by rw [h1] at h; cases h)
    focus (refine gc_seq ?_; refine gc_region ?_; refine gM rfl rfl (by conv => (lhs; whnf)) ?_; refine gM rfl rfl (by conv => (lhs; whnf)) ?_; refine gO ?_; refine gc_ret ?_; refine gx_then_ret ?_)
    refine gx_ret2 (u := .slice _ _ _) (v := .int _ _) rfl rfl rfl (fun _ _ => ?_)
    rfl
  · have h2 : follE l a = listE l (-1) := by unfold follE; rw [if_pos he]
    rw [h2]
    refine ok_enter Tryz.func25 rfl Tryz.ntmps25 rfl ?_
    focus (refine gc_seq ?_; refine gc_region ?_; refine gM rfl rfl (by conv => (lhs; whnf)) ?_; refine gM rfl rfl (by conv => (lhs; whnf)) ?_; refine gN ?_; refine gM rfl rfl (by conv => (lhs; whnf)) ?_; apply gw_d; exact w_call rfl rfl (fun w s => checkList_bad w _ l (-1) (hl.later s) he) rfl; refine gM rfl rfl (by conv => (lhs; whnf)) ?_; apply gw_d; exact det_extract rfl rfl rfl (by conv => (lhs; whnf)); apply gw_d; exact det_extract rfl rfl rfl (by conv => (lhs; whnf)); refine gM rfl rfl (by conv => (lhs; whnf)) ?_; refine gM rfl rfl (by conv => (lhs; whnf)) ?_; refine gO ?_; refine gc_seq ?_; refine gc_seq ?_; refine gc_region ?_; refine gM rfl rfl (by conv => (lhs; whnf)) ?_; refine gC rfl rfl rfl rfl rfl ?_; refine gO ?_)
    refine gc_if_dec rfl (fun _ => ?_) (fun h => absurd he h)
    focus (refine gc_seq ?_; refine gc_region ?_; refine gM rfl rfl (by conv => (lhs; whnf)) ?_; refine gM rfl rfl (by conv => (lhs; whnf)) ?_; refine gM rfl rfl (by conv => (lhs; whnf)) ?_; refine gO ?_; refine gc_ret ?_; refine gx_then_ret ?_)
    refine gx_ret2 (u := .slice _ _ _) (v := .int _ _) rfl rfl rfl (fun _ _ => ?_)
    rfl
theorem Followers_good (w : World) (v : Value) (l : List Opn) (a : Int) (hl : Sl rOp w w.heap.size v l) (ha : inI64 a) (hz : follE l a = 0) :
    OkM Tryz.prog 25 [v, .int .i64 a].toArray w (fun x : Option Addr × Nat => .tuple #[.slice x.1 (follL l a).length x.2, .int .i64 0]) (fun x => [Own x.1 (follL l a).length x.2 3 1 ((follL l a).map (Value.int .i64))]) := by
  have hin1 : ∀ x ∈ [a], inI64 x := fun x hx => by rw [List.mem_singleton] at hx; rw [hx]; exact ha
  obtain ⟨A0, c0, rfl, hc, hm⟩ := len_small hl
  have he : listE l (-1) = 0 := by
    unfold follE at hz
    split at hz
    · rename_i h1; exact absurd hz h1
    · rename_i h1; simpa using h1
  have h1 : areIx [a] l.length = true := by
    unfold follE at hz
    rw [if_neg (by rw [he]; decide)] at hz
    split at hz
    · assumption
    · cases hz
  have hG := list_good he
  have h16 := hG.le
  have hsl := hG.full
  unfold OkM
  refine ok_enter Tryz.func25 rfl Tryz.ntmps25 rfl ?_
  focus (refine gc_seq ?_; refine gc_region ?_; refine gM rfl rfl (by conv => (lhs; whnf)) ?_; refine gM rfl rfl (by conv => (lhs; whnf)) ?_; refine gN ?_; refine gM rfl rfl (by conv => (lhs; whnf)) ?_)
  refine gw_callm rfl (fun w s => checkList_good w _ l (-1) (hl.later s) he) rfl (fun x => ?_)
  obtain ⟨A, c⟩ := x
  focus (refine gM rfl rfl (by conv => (lhs; whnf)) ?_; apply gw_d; exact det_extract rfl rfl rfl (by conv => (lhs; whnf)); apply gw_d; exact det_extract rfl rfl rfl (by conv => (lhs; whnf)); refine gM rfl rfl (by conv => (lhs; whnf)) ?_; refine gM rfl rfl (by conv => (lhs; whnf)) ?_; refine gO ?_; refine gc_seq ?_; refine gc_seq ?_; refine gc_region ?_; refine gM rfl rfl (by conv => (lhs; whnf)) ?_; refine gC rfl rfl rfl rfl rfl ?_; refine gO ?_)
  refine gc_if_dec rfl (fun h => absurd rfl h) (fun _ => ?_)
  focus (refine gc_skip ?_; refine gx_next ?_; refine gc_seq ?_; refine gc_seq ?_; refine gc_region ?_; refine gM rfl rfl (by conv => (lhs; whnf)) ?_)
  refine gw_bslice1 (v := .int .i64 a) rfl rfl rfl rfl rfl (fun bx => ?_)
  have hC : ∀ (L : List Res) (w' : World), St w (Box bx 3 (Value.int .i64 a).cells :: L) w' → Ok Tryz.prog 51 [.slice (some ⟨bx, 0, none⟩) 1 1, .int .i64 l.length].toArray w' fun r _ => r = .bool (areIx [a] l.length) := fun L w' s => areIx_ok w' _ [a] _ (Sl.boxI (o := [a]) s .here rfl (by decide) (by decide) hin1)
  focus (refine gM rfl rfl (by conv => (lhs; whnf)) ?_; refine gL rfl rfl rfl ?_; apply gw_d; exact w_call rfl rfl (hC _) rfl; apply gw_d; exact det_not_ rfl rfl rfl; refine gO ?_)
  refine gc_if rfl (fun h => by rw [h1] at h; cases h) (fun h => ?_)
  focus (refine gc_skip ?_; refine gx_next ?_; refine gc_seq ?_; refine gc_region ?_; refine gM rfl rfl (by conv => (lhs; whnf)) ?_; refine gO ?_; refine gc_seq ?_; refine gc_seq ?_; refine gc_region ?_; refine gM rfl rfl (by conv => (lhs; whnf)) ?_; refine gM rfl rfl (by conv => (lhs; whnf)) ?_; refine gM rfl rfl (by conv => (lhs; whnf)) ?_)
  refine gw_callm rfl (fun w s => preceded_ok w _ _ l (sortedL l) a (hl.later s) (Sl.ownI s (.there .here) hsl.symm (fun x hx => by have := sorted_mem (l := l) x hx; unfold inI64; omega)) h16 sorted_mem hG.after) rfl (fun bp => ?_)
  have hpl := precs_len l a (sortedL l)
  unfold follL
  generalize precs l a (sortedL l) = bs at hpl ⊢
  focus (refine gL rfl rfl rfl ?_; refine gM rfl rfl (by conv => (lhs; whnf)) ?_; refine gO ?_; refine gc_block ?_)
  refine gc_own0 3 1 ?_
  refine gc_loop (σ := Nat × Option Addr × Nat) [31, 32, 33, 34, 9, 10, 35, 36, 37, 38, 39, 8, 40, 30] (fun s => [(8, .slice s.2.1 (follT bs s.1).length s.2.2), (30, .int .i64 s.1)]) (fun s => [Own s.2.1 (follT bs s.1).length s.2.2 3 1 ((follT bs s.1).map (Value.int .i64)), Box bp 4 (bs.map Value.bool).toArray])
    (fun s => s.1 ≤ l.length) (fun s => l.length - s.1) (0, none, 0) (Nat.zero_le _) ⟨rfl, rfl, trivial⟩ (.cons .here (.cons .here .nil)) ?_
  rintro ⟨k, A2, c2⟩ base hk
  dsimp only at hk ⊢
  have hfl := follT_len bs k
  have hsn := follT_snoc bs k
  focus (refine gc_seq ?_; refine gc_region ?_; refine gC rfl rfl rfl rfl rfl ?_; refine gO ?_; refine gc_seq ?_)
  refine gc_if_dec rfl (fun h => ?_) (fun h => ?_)
  · have hlt : k < l.length := by omega
    have hpc : (bs.map Value.bool).toArray[k * 1]? = some (.bool (bs.getD k false)) := row_get Value.bool false (by omega)
    focus (refine gc_skip ?_; refine gx_next ?_; refine gc_seq ?_; refine gc_block ?_; refine gc_seq ?_; refine gc_region ?_; refine gM rfl rfl (by conv => (lhs; whnf)) ?_; apply gw_d; exact w_index rfl rfl rfl rfl (by with_reducible exact rfl) (by omega); apply gw_d; exact w_load_row rfl rfl rfl (.there .here) hpc; refine gM rfl rfl (by conv => (lhs; whnf)) ?_; refine gM rfl rfl (by conv => (lhs; whnf)) ?_; refine gN ?_; refine gM rfl rfl (by conv => (lhs; whnf)) ?_; refine gO ?_)
    refine gc_if rfl (fun h3 => ?_) (fun h3 => ?_)
    · rw [if_pos h3] at hsn
      focus (refine gc_region ?_; refine gM rfl rfl (by conv => (lhs; whnf)) ?_; refine gM rfl rfl (by conv => (lhs; whnf)) ?_)
      refine gw_bslice1 (v := .int .i64 (k : Int)) rfl rfl rfl rfl rfl (fun bb => ?_)
      refine gw_append (news := [.int .i64 (k : Int)]) rfl rfl rfl (.there .here) rfl (fun w' s _ => ?_) (fun u hu => ?_) (by unfold maxLen; omega) (by omega) (by decide) rfl (fun A3 c3 => ?_)
      · refine ⟨⟨bb, 0, none⟩, rfl, fun i u hu => ?_⟩
        rw [add_zero]
        refine (Box.cell s.head i).trans ?_
        change (#[Value.int .i64 (k : Int)] : Array Value)[i]? = some u
        rw [List.getElem?_toArray]
        exact hu
      · rw [List.mem_singleton] at hu
        subst hu
        rfl
      · focus (refine gM rfl rfl (by conv => (lhs; whnf)) ?_; refine gw_nil ?_; refine gx_block ?_; refine gx_next ?_; refine gc_region ?_; apply gw_d; exact det_ar rfl rfl rfl rfl rfl (by omega); refine gM rfl rfl (by conv => (lhs; whnf)) ?_; refine gw_nil ?_)
        refine gx_round (k + 1, A3, c3) hlt (by dsimp only; omega) (by repeat (first | exact Keeps.refl | refine Keeps.upd rfl ?_ | refine Keeps.sets rfl ?_ | refine Keeps.havoc rfl ?_)) ⟨by rw [hsn, List.length_append]; rfl, rfl, trivial⟩ ?_
        dsimp only
        rw [hsn, List.length_append, List.map_append]
        exact .cons .here (.cons (.there .here) .nil)
    · rw [if_neg (by rw [h3]; decide)] at hsn
      focus (refine gc_skip ?_; refine gx_block ?_; refine gx_next ?_; refine gc_region ?_; apply gw_d; exact det_ar rfl rfl rfl rfl rfl (by omega); refine gM rfl rfl (by conv => (lhs; whnf)) ?_; refine gw_nil ?_)
      refine gx_round (k + 1, A2, c2) hlt (by dsimp only; omega) (by repeat (first | exact Keeps.refl | refine Keeps.upd rfl ?_ | refine Keeps.sets rfl ?_ | refine Keeps.havoc rfl ?_)) ⟨by rw [hsn]; rfl, rfl, trivial⟩ ?_
      dsimp only
      rw [hsn]
      exact Sub.all _
  · obtain rfl : k = l.length := by omega
    focus (refine gc_exit ?_; refine gx_then_exit ?_; refine gx_then_exit ?_; refine gx_block_exit ?_; refine gx_next ?_; refine gc_seq ?_; refine gc_region ?_; refine gM rfl rfl (by conv => (lhs; whnf)) ?_; refine gM rfl rfl (by conv => (lhs; whnf)) ?_; refine gM rfl rfl (by conv => (lhs; whnf)) ?_; refine gO ?_; refine gc_ret ?_)
    exact gx_ret2 (u := .slice _ _ _) (v := .int _ _) rfl rfl rfl (fun w' s => ⟨(A2, c2), rfl, (s.sub (.cons .here .nil)).sep⟩)
end Go.Proofs.YtckhibfbdnoigaaGreat

/- The examples of the chapter: how they are built. -/
namespace Go.Proofs.YtckhibfbdnoigaaGreat
open Go.RowKit
set_option maxRecDepth 100000
set_option maxHeartbeats 2000000

/-! ### Four operations -/
def sJoin : ByteArray := ⟨#[106, 111, 105, 110]⟩
def sHem : ByteArray := ⟨#[104, 101, 109]⟩
def sCuff : ByteArray := ⟨#[99, 117, 102, 102]⟩
def sLabel : ByteArray := ⟨#[108, 97, 98, 101, 108]⟩
def fourCells (b1 b3 : Nat) : Array Value := #[.string sJoin, .int .i64 0, .int .i64 300, .slice (some ⟨b1, 0, none⟩) 1 1, .slice none 0 0, .string sHem, .int .i64 0, .int .i64 100, .slice (some ⟨b3, 0, none⟩) 1 1, .slice none 0 0,
  .string sCuff, .int .i64 0, .int .i64 200, .slice none 0 0, .slice none 0 0, .string sLabel, .int .i64 0, .int .i64 50, .slice none 0 0, .slice none 0 0]
def fourR (x : Nat × Nat × Nat) : List Res := [Box x.2.2 69 (fourCells x.1 x.2.1), Box x.2.1 3 #[.int .i64 0], Box x.1 3 #[.int .i64 2]]
def fourL : List Opn := [⟨sJoin, 0, 300, [2], []⟩, ⟨sHem, 0, 100, [0], []⟩, ⟨sCuff, 0, 200, [], []⟩, ⟨sLabel, 0, 50, [], []⟩]
theorem four_ok (w : World) : OkM Tryz.prog 22 [].toArray w (fun x => .slice (some ⟨x.2.2, 0, none⟩) 4 4) fourR := by
  unfold OkM
  refine ok_enter Tryz.func22 rfl Tryz.ntmps22 rfl ?_
  focus (refine gc_seq ?_; refine gc_region ?_; refine gM rfl rfl (by conv => (lhs; whnf)) ?_; refine gN ?_)
  refine gw_bslice1 (v := .int .i64 2) rfl rfl rfl rfl rfl (fun b1 => ?_)
  focus (apply gw_d; exact w_build (cells := #[.string sJoin, .int .i64 0, .int .i64 300, .slice (some ⟨b1, 0, none⟩) 1 1, .slice none 0 0]) rfl rfl (by rfl))
  refine gw_bslice1 (v := .int .i64 0) rfl rfl rfl rfl rfl (fun b3 => ?_)
  focus (apply gw_d; exact w_build (cells := #[.string sHem, .int .i64 0, .int .i64 100, .slice (some ⟨b3, 0, none⟩) 1 1, .slice none 0 0]) rfl rfl (by rfl); apply gw_d; exact w_build (cells := #[.string sCuff, .int .i64 0, .int .i64 200, .slice none 0 0, .slice none 0 0]) rfl rfl (by rfl); apply gw_d; exact w_build (cells := #[.string sLabel, .int .i64 0, .int .i64 50, .slice none 0 0, .slice none 0 0]) rfl rfl (by rfl))
  refine gw_bslice (cells := fourCells b1 b3) rfl ?_ ?_ ?_ (fun b7 => ?_)
  · rfl
  · rfl
  · kernel_rfl
  focus (refine gM rfl rfl (by conv => (lhs; whnf)) ?_; refine gO ?_; refine gc_ret ?_)
  exact gx_ret1 rfl rfl fun w s => ⟨(b1, b3, b7), rfl, s.sep⟩
theorem four_sl {w0 w : World} {L : List Res} {x : Nat × Nat × Nat} (s : St w0 (fourR x ++ L) w) : Sl rOp w w.heap.size (.slice (some ⟨x.2.2, 0, none⟩) 4 4) fourL := by
  have h1 : w.heap[x.2.2]? = some (.cells (fourCells x.1 x.2.1) 69 (0, 0)) := s.head
  have h2 : w.heap[x.2.1]? = some (.cells #[.int .i64 0] 3 (0, 0)) := s.drop.head
  have h3 : w.heap[x.1]? = some (.cells #[.int .i64 2] 3 (0, 0)) := s.drop.drop.head
  have a1 : Sl rInt w w.heap.size (.slice (some ⟨x.1, 0, none⟩) 1 1) [2] := Sl.ofCells h3 rfl (by decide) (by decide) ⟨⟨rfl, inI rfl⟩, trivial⟩
  have a2 : Sl rInt w w.heap.size (.slice (some ⟨x.2.1, 0, none⟩) 1 1) [0] := Sl.ofCells h2 rfl (by decide) (by decide) ⟨⟨rfl, inI rfl⟩, trivial⟩
  refine Sl.ofCells h1 rfl (by decide) (by decide) ⟨⟨_, _, _, _, rfl, ⟨by decide, inI rfl, inI rfl⟩, a1, Sl.nil _ _⟩, ⟨_, _, _, _, rfl, ⟨by decide, inI rfl, inI rfl⟩, a2, Sl.nil _ _⟩, ⟨_, _, _, _, rfl, ⟨by decide, inI rfl, inI rfl⟩, Sl.nil _ _, Sl.nil _ _⟩, ⟨_, _, _, _, rfl, ⟨by decide, inI rfl, inI rfl⟩, Sl.nil _ _, Sl.nil _ _⟩, trivial⟩
end Go.Proofs.YtckhibfbdnoigaaGreat

/- The examples of the chapter: the shirt. -/
namespace Go.Proofs.YtckhibfbdnoigaaGreat
open Go.RowKit
set_option maxRecDepth 100000
set_option maxHeartbeats 2000000

def sShirt : ByteArray := ⟨#[115, 104, 105, 114, 116]⟩
def sFront : ByteArray := ⟨#[102, 114, 111, 110, 116]⟩
def sLow : ByteArray := ⟨#[108, 111, 119]⟩
def sHigh : ByteArray := ⟨#[104, 105, 103, 104]⟩
def sM : ByteArray := ⟨#[77]⟩
def shirtV (x : Nat → Nat) : Value := .agg #[.string sShirt, .slice (some ⟨x 0, 0, none⟩) 1 1, .slice (some ⟨x 1, 0, none⟩) 1 1, .slice (some ⟨x 6, 0, none⟩) 1 1, .slice (some ⟨x 8, 0, none⟩) 1 1, .slice none 0 0, .slice (some ⟨x 11, 0, none⟩) 1 1]
def pieceV (x : Nat → Nat) : Array Value := #[.string sFront, .slice (some ⟨x 22, 0, none⟩) 2 2, .int .i64 1, .slice none 0 0, .slice (some ⟨x 3, 0, none⟩) 2 2, .slice (some ⟨x 4, 0, none⟩) 2 2, .bool false]
def opV (u : Value) : Array Value := #[.string sHem, .int .i64 0, .int .i64 100, .slice none 0 0, u]
def i6 (a b c d e f : Int) : Array Value := #[.int .i64 a, .int .i64 b, .int .i64 c, .int .i64 d, .int .i64 e, .int .i64 f]
def shirtR (x : Nat → Nat) : List Res := [Box (x 11) 69 (opV (.slice (some ⟨x 9, 0, none⟩) 1 1)), Box (x 0) 9 #[.string sM], Box (x 1) 3 #[.int .i64 0], Box (x 3) 130 #[.int .i64 0, .int .i64 0, .int .i64 0, .int .i64 0], Box (x 4) 3 #[.int .i64 0, .int .i64 0],
  Box (x 6) 80 (pieceV x), Box (x 8) 134 #[.int .i64 0, .int .i64 1, .bool false], Box (x 9) 3 #[.int .i64 0],
  Box (x 22) 132 #[.string sLow, .slice (some ⟨x 20, 0, none⟩) 3 3, .string sHigh, .slice (some ⟨x 21, 0, none⟩) 3 3], Box (x 21) 130 (i6 9 9 0 9 0 0), Box (x 20) 130 (i6 0 0 9 0 9 9)]
theorem shirt_ok (w : World) : OkM Tryz.prog 26 [].toArray w shirtV shirtR := by
  unfold OkM
  refine ok_enter Tryz.func26 rfl Tryz.ntmps26 rfl ?_
  focus (refine gc_seq ?_; refine gc_region ?_; refine w_alloc rfl (fun _ => ?_); refine gN ?_; apply gw_d; exact w_build (cells := #[.int .i64 0, .int .i64 0]) rfl rfl (by rfl); apply gw_d; exact w_build (cells := #[.int .i64 9, .int .i64 0]) rfl rfl (by rfl); apply gw_d; exact w_build (cells := #[.int .i64 9, .int .i64 9]) rfl rfl (by rfl))
  rename_i b0
  refine gw_bslice (cells := i6 0 0 9 0 9 9) rfl ?_ ?_ ?_ (fun b20 => ?_)
  · rfl
  · rfl
  · kernel_rfl
  focus (apply gw_d; exact w_build (cells := #[.string sLow, .slice (some ⟨b20, 0, none⟩) 3 3]) rfl rfl (by rfl); apply gw_d; exact w_build (cells := #[.int .i64 9, .int .i64 9]) rfl rfl (by rfl); apply gw_d; exact w_build (cells := #[.int .i64 0, .int .i64 9]) rfl rfl (by rfl); apply gw_d; exact w_build (cells := #[.int .i64 0, .int .i64 0]) rfl rfl (by rfl))
  refine gw_bslice (cells := i6 9 9 0 9 0 0) rfl ?_ ?_ ?_ (fun b21 => ?_)
  · rfl
  · rfl
  · kernel_rfl
  focus (apply gw_d; exact w_build (cells := #[.string sHigh, .slice (some ⟨b21, 0, none⟩) 3 3]) rfl rfl (by rfl))
  refine gw_bslice (cells := #[.string sLow, .slice (some ⟨b20, 0, none⟩) 3 3, .string sHigh, .slice (some ⟨b21, 0, none⟩) 3 3]) rfl ?_ ?_ ?_ (fun b22 => ?_)
  · rfl
  · rfl
  · kernel_rfl
  focus (refine gM rfl rfl (by conv => (lhs; whnf)) ?_; refine gO ?_; refine gc_seq ?_)
  refine gc_block_draw Nat 13 (fun i => ([[], [], [], [], [], [2, 3, 4], [2, 3, 4, 5], [], [7], [], [9], [9, 10], [0, 1, 2, 3, 4, 5, 6, 7, 8, 9, 10, 11]] : List (List Nat)).getD i []) rfl (by kernel_rfl) ?_
  refine gb_bslice1 (fun _ => .string sM) id id (fun _ => rfl) (fun _ => rfl) (fun _ => rfl) (fun _ => rfl) rfl rfl (fun _ _ => rfl) (fun _ => rfl) ?_
  refine gb_bslice1 (fun _ => .int .i64 0) id id (fun _ => rfl) (fun _ => rfl) (fun _ => rfl) (fun _ => rfl) rfl rfl (fun _ _ => rfl) (fun _ => rfl) ?_
  focus (apply gb_d; (intro γ; exact det_m rfl rfl (by conv => (lhs; whnf))); (intros; rfl); (intros; rfl))
  refine gb_makeN (n := 2) (cells := #[.int .i64 0, .int .i64 0, .int .i64 0, .int .i64 0]) id id (fun _ => rfl) (fun _ => rfl) (fun _ => rfl) (fun _ => rfl) rfl rfl (by decide) (by decide) (by kernel_rfl) ?_
  refine gb_makeN (n := 2) (cells := #[.int .i64 0, .int .i64 0]) id id (fun _ => rfl) (fun _ => rfl) (fun _ => rfl) (fun _ => rfl) rfl rfl (by decide) (by decide) (by kernel_rfl) ?_
  refine gb_d (V := fun γ => .agg #[.string sFront, .slice (some ⟨b22, 0, none⟩) 2 2, .int .i64 1, .slice none 0 0, .slice (some ⟨γ 3, 0, none⟩) 2 2, .slice (some ⟨γ 4, 0, none⟩) 2 2, .bool false]) (fun γ => w_build rfl rfl (by rfl)) (fun _ _ => rfl) (fun _ => rfl) ?_
  refine gb_bslice1 (fun γ => .agg #[.string sFront, .slice (some ⟨b22, 0, none⟩) 2 2, .int .i64 1, .slice none 0 0, .slice (some ⟨γ 3, 0, none⟩) 2 2, .slice (some ⟨γ 4, 0, none⟩) 2 2, .bool false]) id id (fun _ => rfl) (fun _ => rfl) (fun _ => rfl) (fun _ => rfl) rfl rfl (fun _ _ => rfl) (fun _ => rfl) ?_
  refine gb_d (V := fun _ => .agg #[.int .i64 0, .int .i64 1, .bool false]) (fun γ => w_build rfl rfl (by rfl)) (fun _ _ => rfl) (fun _ => rfl) ?_
  refine gb_bslice1 (fun _ => .agg #[.int .i64 0, .int .i64 1, .bool false]) id id (fun _ => rfl) (fun _ => rfl) (fun _ => rfl) (fun _ => rfl) rfl rfl (fun _ _ => rfl) (fun _ => rfl) ?_
  refine gb_bslice1 (fun _ => .int .i64 0) id id (fun _ => rfl) (fun _ => rfl) (fun _ => rfl) (fun _ => rfl) rfl rfl (fun _ _ => rfl) (fun _ => rfl) ?_
  refine gb_d (V := fun γ => .agg (opV (.slice (some ⟨γ 9, 0, none⟩) 1 1))) (fun γ => w_build rfl rfl (by rfl)) (fun _ _ => rfl) (fun _ => rfl) ?_
  refine gb_bslice1 (fun γ => .agg (opV (.slice (some ⟨γ 9, 0, none⟩) 1 1))) id id (fun _ => rfl) (fun _ => rfl) (fun _ => rfl) (fun _ => rfl) rfl rfl (fun _ _ => rfl) (fun _ => rfl) ?_
  refine gb_d (V := fun γ => .agg #[.string sShirt, .slice (some ⟨γ 0, 0, none⟩) 1 1, .slice (some ⟨γ 1, 0, none⟩) 1 1, .slice (some ⟨γ 6, 0, none⟩) 1 1, .slice (some ⟨γ 8, 0, none⟩) 1 1, .slice none 0 0, .slice (some ⟨γ 11, 0, none⟩) 1 1]) (fun γ => w_build rfl rfl (by rfl)) (fun _ _ => rfl) (fun _ => rfl) ?_
  refine GB.nil (fun β => ?_)
  refine w_store_all rfl rfl rfl rfl rfl (.there (.there (.there (.there (.there (.there (.there (.there (.there (.there (.there .here))))))))))) rfl ?_
  focus (refine gO ?_; refine gc_ret ?_)
  refine gx_retc rfl rfl .here rfl fun w s => ⟨fun i => bif Nat.beq i 20 then b20 else bif Nat.beq i 21 then b21 else bif Nat.beq i 22 then b22 else β i, rfl, ?_⟩
  exact (St.sub (K := shirtR (fun i => bif Nat.beq i 20 then b20 else bif Nat.beq i 21 then b21 else bif Nat.beq i 22 then b22 else β i)) (.cons (.there (.there (.there (.there (.there (.there (.there .here))))))) (.cons .here (.cons .here (.cons .here (.cons .here (.cons .here (.cons .here (.cons .here (.cons .here (.cons .here (.cons .here .nil))))))))))) s.drop).sep
end Go.Proofs.YtckhibfbdnoigaaGreat

/- The examples of the chapter: what they answer. -/
namespace Go.Proofs.YtckhibfbdnoigaaGreat
open Go.RowKit
set_option maxRecDepth 100000
set_option maxHeartbeats 2000000

/-! ### Same -/
theorem same_ok (w : World) (va vb : Value) (a b : List Int) (ha : Sl rInt w w.heap.size va a) (hb : Sl rInt w w.heap.size vb b) : Ok Tryz.prog 27 [va, vb].toArray w fun r _ => r = .bool (decide (a = b)) := by
  obtain ⟨A, c, rfl, hac, ham, hacell⟩ := ha.int
  obtain ⟨B, d, rfl, hbc, hbm, hbcell⟩ := hb.int
  refine ok_enter Tryz.func27 rfl Tryz.ntmps27 rfl ?_
  focus (refine gc_seq ?_; refine gc_region ?_; refine gM rfl rfl (by conv => (lhs; whnf)) ?_; refine gO ?_; refine gc_seq ?_; refine gc_seq ?_; refine gc_region ?_; refine gM rfl rfl (by conv => (lhs; whnf)) ?_; refine gL rfl rfl rfl ?_; refine gM rfl rfl (by conv => (lhs; whnf)) ?_; refine gL rfl rfl rfl ?_; refine gC rfl rfl rfl rfl rfl ?_; refine gO ?_)
  refine gc_if_dec rfl (fun h => ?_) (fun h => ?_)
  · focus (refine gc_seq ?_; refine gc_region ?_; refine gM rfl rfl (by conv => (lhs; whnf)) ?_; refine gO ?_; refine gc_ret ?_; refine gx_then_ret ?_)
    refine gx_ret1 (v := .bool _) rfl rfl (fun _ _ => ?_)
    have : ¬ a = b := fun hc => h (by rw [hc])
    simp [this]
  have hlen : a.length = b.length := by omega
  focus (refine gc_skip ?_; refine gx_next ?_; refine gc_seq ?_; refine gc_seq ?_; refine gc_region ?_; refine gM rfl rfl (by conv => (lhs; whnf)) ?_; refine gO ?_; refine gc_block ?_)
  refine gc_loop (σ := Nat) [11, 12, 13, 14, 17, 18, 19, 20, 21, 22, 23, 24, 25, 4, 15, 16, 5] (fun k => [(5, .int .i64 k)]) (fun _ => []) (fun k => k ≤ a.length ∧ a.take k = b.take k) (fun k => a.length - k) 0 ⟨Nat.zero_le _, rfl⟩ ⟨rfl, trivial⟩ .nil ?_
  rintro k base ⟨hk, hI⟩
  focus (refine gc_seq ?_; refine gc_seq ?_; refine gc_region ?_; refine gM rfl rfl (by conv => (lhs; whnf)) ?_; refine gM rfl rfl (by conv => (lhs; whnf)) ?_; refine gL rfl rfl rfl ?_; refine gC rfl rfl rfl rfl rfl ?_; refine gO ?_)
  refine gc_if_dec rfl (fun h => ?_) (fun h => ?_)
  · have hka : k < a.length := by omega
    have hkb : k < b.length := by omega
    obtain ⟨ad1, rfl, hb1, hce1, _⟩ := hacell k hka
    obtain ⟨ad2, rfl, hb2, hce2, _⟩ := hbcell k hkb
    focus (refine gc_skip ?_; refine gx_next ?_; refine gc_seq ?_; refine gc_block ?_; refine gc_seq ?_)
    refine gc_draw 9 (by kernel_rfl) (by kernel_rfl) ?_
    focus (apply gd_d; exact det_m rfl rfl (by conv => (lhs; whnf)); apply gd_d; exact det_m rfl rfl (by conv => (lhs; whnf)); apply gd_d; exact w_index rfl rfl rfl rfl (by with_reducible exact rfl) (by omega); apply gd_d; exact w_load_at rfl rfl rfl (by assumption) (by assumption); apply gd_d; exact det_m rfl rfl (by conv => (lhs; whnf)); apply gd_d; exact det_m rfl rfl (by conv => (lhs; whnf)); apply gd_d; exact w_index rfl rfl rfl rfl (by with_reducible exact rfl) (by omega); apply gd_d; exact w_load_at rfl rfl rfl (by assumption) (by assumption); apply gd_d; exact det_cmp rfl rfl rfl rfl rfl; refine gd_nil ?_; refine gO ?_)
    refine gc_if_dec rfl (fun h3 => ?_) (fun h3 => ?_)
    · focus (refine gc_seq ?_; refine gc_region ?_; refine gM rfl rfl (by conv => (lhs; whnf)) ?_; refine gO ?_; refine gc_ret ?_; refine gx_block_ret ?_; refine gx_then_ret ?_; refine gx_then_ret ?_; refine gx_block_ret ?_; refine gx_then_ret ?_)
      refine gx_ret1 (v := .bool _) rfl rfl (fun _ _ => ?_)
      have : ¬ a = b := fun hc => h3 (by subst hc; rfl)
      simp [this]
    · focus (refine gc_skip ?_; refine gx_block ?_; refine gx_next ?_; refine gc_region ?_; refine gM rfl rfl (by conv => (lhs; whnf)) ?_; apply gw_d; exact det_ar rfl rfl rfl rfl rfl (by omega); refine gM rfl rfl (by conv => (lhs; whnf)) ?_; refine gw_nil ?_)
      exact gx_round (k + 1) ⟨hka, by rw [List.take_succ_eq_append_getElem hka, List.take_succ_eq_append_getElem hkb, hI, Classical.not_not.1 h3]⟩ (by omega) (by repeat (first | exact Keeps.refl | refine Keeps.upd rfl ?_ | refine Keeps.sets rfl ?_ | refine Keeps.havoc rfl ?_)) ⟨rfl, trivial⟩ .nil
  · obtain rfl : k = a.length := by omega
    rw [List.take_length, List.take_of_length_le (by omega)] at hI
    focus (refine gc_exit ?_; refine gx_then_exit ?_; refine gx_then_exit ?_; refine gx_block_exit ?_; refine gx_next ?_; refine gc_seq ?_; refine gc_region ?_; refine gM rfl rfl (by conv => (lhs; whnf)) ?_; refine gO ?_; refine gc_ret ?_)
    refine gx_ret1 (v := .bool _) rfl rfl (fun _ _ => ?_)
    simp [hI]

/-! ### The shirt as it reads -/
def shirtS (us : List Int) : Sty := ⟨sShirt, [sM], [0], [⟨sFront, [(sLow, [(0, 0), (9, 0), (9, 9)]), (sHigh, [(9, 9), (0, 9), (0, 0)])], 1, [], [(0, 0), (0, 0)], [0, 0], false⟩], [(0, 1, false)], [], [⟨sHem, 0, 100, [], us⟩]⟩
theorem shirt_sty {w0 w : World} {L : List Res} {x : Nat → Nat} {Au : Option Addr} {cu : Nat} {us : List Int} (s : St w0 (Box (x 11) 69 (opV (.slice Au us.length cu)) :: ((shirtR x).drop 1 ++ L)) w) (hu : Sl rInt w w.heap.size (.slice Au us.length cu) us) : StyV w w.heap.size (shirtV x) (shirtS us) := by
  have h11 : w.heap[x 11]? = some (.cells (opV (.slice Au us.length cu)) 69 (0, 0)) := s.head
  have h0 : w.heap[x 0]? = some (.cells #[.string sM] 9 (0, 0)) := s.drop.head
  have h1 : w.heap[x 1]? = some (.cells #[.int .i64 0] 3 (0, 0)) := s.drop.drop.head
  have h3 : w.heap[x 3]? = some (.cells #[.int .i64 0, .int .i64 0, .int .i64 0, .int .i64 0] 130 (0, 0)) := s.drop.drop.drop.head
  have h4 : w.heap[x 4]? = some (.cells #[.int .i64 0, .int .i64 0] 3 (0, 0)) := s.drop.drop.drop.drop.head
  have h6 : w.heap[x 6]? = some (.cells (pieceV x) 80 (0, 0)) := s.drop.drop.drop.drop.drop.head
  have h8 : w.heap[x 8]? = some (.cells #[.int .i64 0, .int .i64 1, .bool false] 134 (0, 0)) := s.drop.drop.drop.drop.drop.drop.head
  have h22 : w.heap[x 22]? = some (.cells #[.string sLow, .slice (some ⟨x 20, 0, none⟩) 3 3, .string sHigh, .slice (some ⟨x 21, 0, none⟩) 3 3] 132 (0, 0)) := s.drop.drop.drop.drop.drop.drop.drop.drop.head
  have h21 : w.heap[x 21]? = some (.cells (i6 9 9 0 9 0 0) 130 (0, 0)) := s.drop.drop.drop.drop.drop.drop.drop.drop.drop.head
  have h20 : w.heap[x 20]? = some (.cells (i6 0 0 9 0 9 9) 130 (0, 0)) := s.drop.drop.drop.drop.drop.drop.drop.drop.drop.drop.head
  have a20 : Sl rSpot w w.heap.size (.slice (some ⟨x 20, 0, none⟩) 3 3) [(0, 0), (9, 0), (9, 9)] := Sl.ofCells h20 rfl (by decide) (by decide) ⟨⟨rfl, inI rfl, inI rfl⟩, ⟨rfl, inI rfl, inI rfl⟩, ⟨rfl, inI rfl, inI rfl⟩, trivial⟩
  have a21 : Sl rSpot w w.heap.size (.slice (some ⟨x 21, 0, none⟩) 3 3) [(9, 9), (0, 9), (0, 0)] := Sl.ofCells h21 rfl (by decide) (by decide) ⟨⟨rfl, inI rfl, inI rfl⟩, ⟨rfl, inI rfl, inI rfl⟩, ⟨rfl, inI rfl, inI rfl⟩, trivial⟩
  have a22 : Sl rEdge w w.heap.size (.slice (some ⟨x 22, 0, none⟩) 2 2) [(sLow, [(0, 0), (9, 0), (9, 9)]), (sHigh, [(9, 9), (0, 9), (0, 0)])] := Sl.ofCells h22 rfl (by decide) (by decide) ⟨⟨_, rfl, by decide, a20⟩, ⟨_, rfl, by decide, a21⟩, trivial⟩
  have a3 : Sl rSpot w w.heap.size (.slice (some ⟨x 3, 0, none⟩) 2 2) [(0, 0), (0, 0)] := Sl.ofCells h3 rfl (by decide) (by decide) ⟨⟨rfl, inI rfl, inI rfl⟩, ⟨rfl, inI rfl, inI rfl⟩, trivial⟩
  have a4 : Sl rInt w w.heap.size (.slice (some ⟨x 4, 0, none⟩) 2 2) [0, 0] := Sl.ofCells h4 rfl (by decide) (by decide) ⟨⟨rfl, inI rfl⟩, ⟨rfl, inI rfl⟩, trivial⟩
  refine ⟨_, _, _, _, _, _, _, _, _, _, _, _, rfl, (show sShirt.size ≤ maxLen by decide), Sl.ofCells h0 rfl (Nat.le_refl 1) (by decide) ⟨⟨rfl, by decide⟩, trivial⟩, Sl.ofCells h1 rfl (Nat.le_refl 1) (by decide) ⟨⟨rfl, inI rfl⟩, trivial⟩, Sl.ofCells h6 rfl (Nat.le_refl 1) (by decide) ⟨⟨_, _, _, _, _, _, _, _, rfl, ⟨(show sFront.size ≤ maxLen by decide), inI rfl⟩, a22, Sl.nil _ _, a3, a4⟩, trivial⟩,
    Sl.ofCells h8 rfl (Nat.le_refl 1) (by decide) ⟨⟨rfl, inI rfl, inI rfl⟩, trivial⟩, Sl.nil _ _, Sl.ofCells h11 rfl (Nat.le_refl 1) (by decide) ⟨⟨_, _, _, _, rfl, ⟨(show sHem.size ≤ maxLen by decide), inI rfl, inI rfl⟩, Sl.nil _ _, hu⟩, trivial⟩⟩
def noSty : Sty := ⟨⟨#[]⟩, [], [], [], [], [], []⟩
def noV : Value := .agg #[.string ⟨#[]⟩, .slice none 0 0, .slice none 0 0, .slice none 0 0, .slice none 0 0, .slice none 0 0, .slice none 0 0]
theorem no_sty (w : World) : StyV w w.heap.size noV noSty := ⟨_, _, _, _, _, _, _, _, _, _, _, _, rfl, by decide, Sl.nil _ _, Sl.nil _ _, Sl.nil _ _, Sl.nil _ _, Sl.nil _ _, Sl.nil _ _⟩

theorem e1 : opCheckE (shirtS [0]) pl0 = 0 := by kernel_rfl
theorem e2 : opCheckE (shirtS []) pl0 = 20 := by kernel_rfl
theorem e3 : opCheckE noSty pl0 = 1 := by kernel_rfl
theorem e4 : listE fourL (-1) = 0 := by kernel_rfl
theorem e5 : sortedL fourL = [2, 0, 1, 3] := by kernel_rfl
theorem e6 : (critS fourL (sortedL fourL)).2 = 600 := by kernel_rfl
theorem e7 : beforeV fourL 2 1 = true ∧ beforeE fourL 2 1 = 0 := by exact ⟨by kernel_rfl, by kernel_rfl⟩
theorem e8 : beforeV fourL 0 0 = false ∧ beforeE fourL 0 0 = 0 := by exact ⟨by kernel_rfl, by kernel_rfl⟩
theorem e9 : follE fourL 2 = 0 ∧ follL fourL 2 = [0, 1] := by exact ⟨by kernel_rfl, by kernel_rfl⟩
theorem e10 : follE fourL 4 = 3 := by kernel_rfl
def aroundL : List Opn := [⟨sJoin, 0, 300, [2], []⟩, ⟨sHem, 0, 100, [0], []⟩, ⟨sCuff, 0, 200, [1], []⟩, ⟨sLabel, 0, 50, [], []⟩]
theorem e11 : listE aroundL (-1) = 9 := by kernel_rfl
end Go.Proofs.YtckhibfbdnoigaaGreat

/- The examples of the chapter are met. -/
namespace Go.Proofs.YtckhibfbdnoigaaGreat
open Go.RowKit
set_option maxRecDepth 100000
set_option maxHeartbeats 2000000

section
variable {w0 w : World} {L : List Res} {x : Nat × Nat × Nat}
def ownY (y : Option Addr × Nat) : Res := Own y.1 4 y.2 3 1 (([2, 0, 1, 3] : List Int).map (Value.int .i64))
def ownZ (y : Option Addr × Nat) : Res := Own y.1 2 y.2 3 1 (([0, 1] : List Int).map (Value.int .i64))
theorem four_order (s : St w0 (fourR x ++ L) w) : OkM Tryz.prog 21 [.slice (some ⟨x.2.2, 0, none⟩) 4 4].toArray w (fun y : Option Addr × Nat => .tuple #[.slice y.1 4 y.2, .int .i64 0]) (fun y => [ownY y]) := by
  have h := Order_good w _ fourL (four_sl s) e4
  rw [e5] at h
  exact h
theorem four_crit (s : St w0 (fourR x ++ L) w) : Ok Tryz.prog 23 [.slice (some ⟨x.2.2, 0, none⟩) 4 4].toArray w fun r _ => r = .tuple #[.int .i64 600, .int .i64 0] := by
  have h := Critical_good w _ fourL (four_sl s) e4
  rw [e6] at h
  exact h
theorem four_b1 (s : St w0 (fourR x ++ L) w) : Ok Tryz.prog 24 [.slice (some ⟨x.2.2, 0, none⟩) 4 4, .int .i64 2, .int .i64 1].toArray w fun r _ => r = .tuple #[.bool true, .int .i64 0] := by
  have h := Before_ok w _ fourL 2 1 (four_sl s) (inI rfl) (inI rfl)
  rw [e7.1, e7.2] at h
  exact h
theorem four_b2 (s : St w0 (fourR x ++ L) w) : Ok Tryz.prog 24 [.slice (some ⟨x.2.2, 0, none⟩) 4 4, .int .i64 0, .int .i64 0].toArray w fun r _ => r = .tuple #[.bool false, .int .i64 0] := by
  have h := Before_ok w _ fourL 0 0 (four_sl s) (inI rfl) (inI rfl)
  rw [e8.1, e8.2] at h
  exact h
theorem four_f1 (s : St w0 (fourR x ++ L) w) : OkM Tryz.prog 25 [.slice (some ⟨x.2.2, 0, none⟩) 4 4, .int .i64 2].toArray w (fun y : Option Addr × Nat => .tuple #[.slice y.1 2 y.2, .int .i64 0]) (fun y => [ownZ y]) := by
  have h := Followers_good w _ fourL 2 (four_sl s) (inI rfl) e9.1
  rw [e9.2] at h
  exact h
theorem four_f2 (s : St w0 (fourR x ++ L) w) : Ok Tryz.prog 25 [.slice (some ⟨x.2.2, 0, none⟩) 4 4, .int .i64 4].toArray w fun r _ => r = .tuple #[.slice none 0 0, .int .i64 3] := by
  have h := Followers_bad w _ fourL 4 (four_sl s) (inI rfl) (by rw [e10]; decide)
  rw [e10] at h
  exact h
def aroundCells (b1 b3 b : Nat) : Array Value := #[.string sJoin, .int .i64 0, .int .i64 300, .slice (some ⟨b1, 0, none⟩) 1 1, .slice none 0 0, .string sHem, .int .i64 0, .int .i64 100, .slice (some ⟨b3, 0, none⟩) 1 1, .slice none 0 0,
  .string sCuff, .int .i64 0, .int .i64 200, .slice (some ⟨b, 0, none⟩) 1 1, .slice none 0 0, .string sLabel, .int .i64 0, .int .i64 50, .slice none 0 0, .slice none 0 0]
theorem around_order {b : Nat} (s : St w0 (Box x.2.2 69 (aroundCells x.1 x.2.1 b) :: Box b 3 #[.int .i64 1] :: Box x.2.1 3 #[.int .i64 0] :: Box x.1 3 #[.int .i64 2] :: L) w) :
    Ok Tryz.prog 21 [.slice (some ⟨x.2.2, 0, none⟩) 4 4].toArray w fun r _ => r = .tuple #[.slice none 0 0, .int .i64 9] := by
  have h1 : w.heap[x.2.2]? = some (.cells (aroundCells x.1 x.2.1 b) 69 (0, 0)) := s.head
  have h4 : w.heap[b]? = some (.cells #[.int .i64 1] 3 (0, 0)) := s.drop.head
  have h2 : w.heap[x.2.1]? = some (.cells #[.int .i64 0] 3 (0, 0)) := s.drop.drop.head
  have h3 : w.heap[x.1]? = some (.cells #[.int .i64 2] 3 (0, 0)) := s.drop.drop.drop.head
  have a1 : Sl rInt w w.heap.size (.slice (some ⟨x.1, 0, none⟩) 1 1) [2] := Sl.ofCells h3 rfl (by decide) (by decide) ⟨⟨rfl, inI rfl⟩, trivial⟩
  have a2 : Sl rInt w w.heap.size (.slice (some ⟨x.2.1, 0, none⟩) 1 1) [0] := Sl.ofCells h2 rfl (by decide) (by decide) ⟨⟨rfl, inI rfl⟩, trivial⟩
  have a3 : Sl rInt w w.heap.size (.slice (some ⟨b, 0, none⟩) 1 1) [1] := Sl.ofCells h4 rfl (by decide) (by decide) ⟨⟨rfl, inI rfl⟩, trivial⟩
  have hsl : Sl rOp w w.heap.size (.slice (some ⟨x.2.2, 0, none⟩) 4 4) aroundL := Sl.ofCells h1 rfl (by decide) (by decide) ⟨⟨_, _, _, _, rfl, ⟨by decide, inI rfl, inI rfl⟩, a1, Sl.nil _ _⟩, ⟨_, _, _, _, rfl, ⟨by decide, inI rfl, inI rfl⟩, a2, Sl.nil _ _⟩, ⟨_, _, _, _, rfl, ⟨by decide, inI rfl, inI rfl⟩, a3, Sl.nil _ _⟩, ⟨_, _, _, _, rfl, ⟨by decide, inI rfl, inI rfl⟩, Sl.nil _ _, Sl.nil _ _⟩, trivial⟩
  have h := Order_bad w _ aroundL hsl (by rw [e11]; decide)
  rw [e11] at h
  exact h
theorem shirt_check {x : Nat → Nat} (s : St w0 (shirtR x ++ L) w) : Ok Tryz.prog 7 [shirtV x].toArray w fun r _ => r = .int .i64 0 := by
  have h9 : w.heap[x 9]? = some (.cells #[.int .i64 0] 3 (0, 0)) := s.drop.drop.drop.drop.drop.drop.drop.head
  have h := opCheck0_ok w _ _ (shirt_sty (us := [0]) s (Sl.ofCells h9 rfl (by decide) (by decide) ⟨⟨rfl, inI rfl⟩, trivial⟩)) (fun p hp => by rw [show p = _ from List.mem_singleton.1 hp])
  rw [e1] at h
  exact h
theorem gap_check {x : Nat → Nat} (s : St w0 (Box (x 11) 69 (opV (.slice none 0 0)) :: ((shirtR x).drop 1 ++ L)) w) : Ok Tryz.prog 7 [shirtV x].toArray w fun r _ => r = .int .i64 20 := by
  have h := opCheck0_ok w _ _ (shirt_sty (us := []) s (Sl.nil _ _)) (fun p hp => by rw [show p = _ from List.mem_singleton.1 hp])
  rw [e2] at h
  exact h
theorem no_check (w : World) : Ok Tryz.prog 7 [noV].toArray w fun r _ => r = .int .i64 1 := by
  have h := opCheck0_ok w _ _ (no_sty w) (fun p hp => by cases hp)
  rw [e3] at h
  exact h
theorem same_y {y : Option Addr × Nat} {b : Nat} (s : St w0 (Box b 3 #[.int .i64 2, .int .i64 0, .int .i64 1, .int .i64 3] :: ownY y :: L) w) : Ok Tryz.prog 27 [.slice y.1 4 y.2, .slice (some ⟨b, 0, none⟩) 4 4].toArray w fun r _ => r = .bool true := by
  have hin : ∀ i ∈ ([2, 0, 1, 3] : List Int), inI64 i := fun i hi => by
    simp only [List.mem_cons, List.not_mem_nil, or_false] at hi
    unfold inI64
    omega
  exact same_ok w _ _ [2, 0, 1, 3] [2, 0, 1, 3] (Sl.ownI s (.there .here) rfl hin) (Sl.boxI (o := [2, 0, 1, 3]) s .here rfl (by decide) (by decide) hin)
theorem same_z {y z : Option Addr × Nat} {b : Nat} (s : St w0 (Box b 3 #[.int .i64 0, .int .i64 1] :: ownY y :: ownZ z :: L) w) : Ok Tryz.prog 27 [.slice z.1 2 z.2, .slice (some ⟨b, 0, none⟩) 2 2].toArray w fun r _ => r = .bool true := by
  have hin : ∀ i ∈ ([0, 1] : List Int), inI64 i := fun i hi => by
    simp only [List.mem_cons, List.not_mem_nil, or_false] at hi
    unfold inI64
    omega
  exact same_ok w _ _ [0, 1] [0, 1] (Sl.ownI s (.there (.there .here)) rfl hin) (Sl.boxI (o := [0, 1]) s .here rfl (by decide) (by decide) hin)
end

theorem awake_ok (w : World) : Ok Tryz.prog 6 [].toArray w fun r _ => r = .bool true := by
  refine ok_enter Tryz.func6 rfl Tryz.ntmps6 rfl ?_
  focus (refine gc_seq ?_; refine gc_region ?_; refine gM rfl rfl (by conv => (lhs; whnf)) ?_; refine gN ?_)
  refine gw_callm rfl (fun w s => four_ok w) rfl (fun x1 => ?_)
  refine gw_callm rfl (fun w s => four_order s) rfl (fun y => ?_)
  refine gw_ent (K := [ownY y]) (Sub.ent (.cons .here .nil)) ?_
  focus (refine gM rfl rfl (by conv => (lhs; whnf)) ?_; apply gw_d; exact det_extract rfl rfl rfl (by conv => (lhs; whnf)); apply gw_d; exact det_extract rfl rfl rfl (by conv => (lhs; whnf)); refine gM rfl rfl (by conv => (lhs; whnf)) ?_; refine gM rfl rfl (by conv => (lhs; whnf)) ?_; refine gN ?_)
  refine gw_callm rfl (fun w s => four_ok w) rfl (fun x2 => ?_)
  focus (apply gw_d; exact w_call rfl rfl (fun w s => four_crit s) rfl; refine gM rfl rfl (by conv => (lhs; whnf)) ?_; apply gw_d; exact det_extract rfl rfl rfl (by conv => (lhs; whnf)); apply gw_d; exact det_extract rfl rfl rfl (by conv => (lhs; whnf)); refine gM rfl rfl (by conv => (lhs; whnf)) ?_; refine gM rfl rfl (by conv => (lhs; whnf)) ?_; refine gN ?_)
  refine gw_ent (K := [ownY y]) (Sub.ent (.cons (.there (.there (.there .here))) .nil)) ?_
  refine gw_callm rfl (fun w s => four_ok w) rfl (fun x3 => ?_)
  focus (apply gw_d; exact w_call rfl rfl (fun w s => four_b1 s) rfl; refine gM rfl rfl (by conv => (lhs; whnf)) ?_; apply gw_d; exact det_extract rfl rfl rfl (by conv => (lhs; whnf)); apply gw_d; exact det_extract rfl rfl rfl (by conv => (lhs; whnf)); refine gM rfl rfl (by conv => (lhs; whnf)) ?_; refine gM rfl rfl (by conv => (lhs; whnf)) ?_; refine gN ?_)
  refine gw_ent (K := [ownY y]) (Sub.ent (.cons (.there (.there (.there .here))) .nil)) ?_
  refine gw_callm rfl (fun w s => four_ok w) rfl (fun x4 => ?_)
  focus (apply gw_d; exact w_call rfl rfl (fun w s => four_b2 s) rfl; refine gM rfl rfl (by conv => (lhs; whnf)) ?_; apply gw_d; exact det_extract rfl rfl rfl (by conv => (lhs; whnf)); apply gw_d; exact det_extract rfl rfl rfl (by conv => (lhs; whnf)); refine gM rfl rfl (by conv => (lhs; whnf)) ?_; refine gM rfl rfl (by conv => (lhs; whnf)) ?_; refine gN ?_)
  refine gw_ent (K := [ownY y]) (Sub.ent (.cons (.there (.there (.there .here))) .nil)) ?_
  refine gw_callm rfl (fun w s => four_ok w) rfl (fun x5 => ?_)
  refine gw_callm rfl (fun w s => four_f1 s) rfl (fun z => ?_)
  refine gw_ent (K := [ownY y, ownZ z]) (Sub.ent (.cons (.there (.there (.there (.there .here)))) (.cons .here .nil))) ?_
  focus (refine gM rfl rfl (by conv => (lhs; whnf)) ?_; apply gw_d; exact det_extract rfl rfl rfl (by conv => (lhs; whnf)); apply gw_d; exact det_extract rfl rfl rfl (by conv => (lhs; whnf)); refine gM rfl rfl (by conv => (lhs; whnf)) ?_; refine gM rfl rfl (by conv => (lhs; whnf)) ?_; refine gN ?_)
  refine gw_callm rfl (fun w s => four_ok w) rfl (fun x6 => ?_)
  focus (apply gw_d; exact w_call rfl rfl (fun w s => four_f2 s) rfl; refine gM rfl rfl (by conv => (lhs; whnf)) ?_; apply gw_d; exact det_extract rfl rfl rfl (by conv => (lhs; whnf)); apply gw_d; exact det_extract rfl rfl rfl (by conv => (lhs; whnf)); refine gM rfl rfl (by conv => (lhs; whnf)) ?_; refine gM rfl rfl (by conv => (lhs; whnf)) ?_; refine gN ?_)
  refine gw_ent (K := [ownY y, ownZ z]) (Sub.ent (.cons (.there (.there (.there .here))) (.cons (.there (.there (.there .here))) .nil))) ?_
  refine gw_callm rfl (fun w s => four_ok w) rfl (fun x7 => ?_)
  focus (refine gM rfl rfl (by conv => (lhs; whnf)) ?_; refine gN ?_; refine gM rfl rfl (by conv => (lhs; whnf)) ?_)
  refine gw_bslice1 (v := .int .i64 1) rfl rfl rfl rfl rfl (fun ba => ?_)
  focus (apply gw_d; exact w_index (m := 2) rfl rfl rfl rfl (by rfl) (by decide); refine gF rfl rfl rfl ?_)
  refine w_store (v := .slice (some ⟨ba, 0, none⟩) 1 1) (cs' := aroundCells x7.1 x7.2.1 ba) rfl rfl rfl rfl rfl (.there .here) rfl (by rfl) ?_
  focus (refine gN ?_; refine gM rfl rfl (by conv => (lhs; whnf)) ?_; apply gw_d; exact w_call rfl rfl (fun w s => around_order s) rfl; refine gM rfl rfl (by conv => (lhs; whnf)) ?_; apply gw_d; exact det_extract rfl rfl rfl (by conv => (lhs; whnf)); apply gw_d; exact det_extract rfl rfl rfl (by conv => (lhs; whnf)); refine gM rfl rfl (by conv => (lhs; whnf)) ?_; refine gM rfl rfl (by conv => (lhs; whnf)) ?_; refine gN ?_)
  refine gw_ent (K := [ownY y, ownZ z]) (Sub.ent (.cons (.there (.there (.there (.there .here)))) (.cons (.there (.there (.there (.there .here)))) .nil))) ?_
  refine gw_callm rfl (fun w s => shirt_ok w) rfl (fun g => ?_)
  focus (refine w_alloc rfl (fun _ => ?_); refine w_store_all rfl rfl rfl rfl rfl .here rfl ?_; refine gN ?_; refine gF rfl rfl rfl ?_; apply gw_d; exact w_load_box rfl rfl rfl .here rfl; apply gw_d; exact w_index rfl rfl rfl rfl (by with_reducible exact cast0) (by omega); refine gF rfl rfl rfl ?_; refine w_store rfl rfl rfl rfl rfl (.there .here) rfl rfl ?_; refine gO ?_; refine gc_seq ?_; refine gc_seq ?_; refine gc_region ?_; refine gM rfl rfl (by conv => (lhs; whnf)) ?_; refine gC rfl rfl rfl rfl rfl ?_; refine gM rfl rfl (by conv => (lhs; whnf)) ?_; refine gM rfl rfl (by conv => (lhs; whnf)) ?_; refine gC rfl rfl rfl rfl rfl ?_; apply gw_d; exact det_pick_f (v := .bool _) rfl rfl rfl rfl; refine gM rfl rfl (by conv => (lhs; whnf)) ?_; refine gM rfl rfl (by conv => (lhs; whnf)) ?_; refine gC rfl rfl rfl rfl rfl ?_; apply gw_d; exact det_pick_f (v := .bool _) rfl rfl rfl rfl; refine gM rfl rfl (by conv => (lhs; whnf)) ?_; refine gM rfl rfl (by conv => (lhs; whnf)) ?_; refine gC rfl rfl rfl rfl rfl ?_; apply gw_d; exact det_pick_f (v := .bool _) rfl rfl rfl rfl; refine gM rfl rfl (by conv => (lhs; whnf)) ?_; refine gM rfl rfl (by conv => (lhs; whnf)) ?_; refine gC rfl rfl rfl rfl rfl ?_; apply gw_d; exact det_pick_f (v := .bool _) rfl rfl rfl rfl; refine gM rfl rfl (by conv => (lhs; whnf)) ?_; refine gM rfl rfl (by conv => (lhs; whnf)) ?_; refine gC rfl rfl rfl rfl rfl ?_; apply gw_d; exact det_pick_f (v := .bool _) rfl rfl rfl rfl; refine gM rfl rfl (by conv => (lhs; whnf)) ?_; refine gM rfl rfl (by conv => (lhs; whnf)) ?_; refine gC rfl rfl rfl rfl rfl ?_; apply gw_d; exact det_pick_f (v := .bool _) rfl rfl rfl rfl; refine gM rfl rfl (by conv => (lhs; whnf)) ?_; refine gM rfl rfl (by conv => (lhs; whnf)) ?_; apply gw_d; exact det_not_ rfl rfl rfl; apply gw_d; exact det_pick_f (v := .bool _) rfl rfl rfl rfl; refine gM rfl rfl (by conv => (lhs; whnf)) ?_; refine gM rfl rfl (by conv => (lhs; whnf)) ?_; apply gw_d; exact det_pick_f (v := .bool _) rfl rfl rfl rfl; refine gM rfl rfl (by conv => (lhs; whnf)) ?_; refine gM rfl rfl (by conv => (lhs; whnf)) ?_; refine gC rfl rfl rfl rfl rfl ?_; apply gw_d; exact det_pick_f (v := .bool _) rfl rfl rfl rfl; refine gO ?_)
  rename_i bg
  refine gc_if_false rfl ?_
  refine gc_ent (K := ownY y :: ownZ z :: Box bg 29 (shirtV g).cells :: Box (g 11) 69 (opV (.slice none 0 0)) :: (shirtR g).drop 1) (Sub.ent (.cons (.there (.there (.there (.there (.there (.there (.there (.there (.there (.there (.there (.there .here)))))))))))) (.cons (.there (.there (.there (.there (.there (.there (.there (.there (.there (.there (.there (.there .here)))))))))))) (.cons (.there .here) (.cons .here (.cons .here (.cons .here (.cons .here (.cons .here (.cons .here (.cons .here (.cons .here (.cons .here (.cons .here (.cons .here .nil))))))))))))))) ?_
  focus (refine gc_skip ?_; refine gx_next ?_; refine gc_seq ?_; refine gc_region ?_; refine gM rfl rfl (by conv => (lhs; whnf)) ?_)
  refine gw_bslice (cells := #[.int .i64 2, .int .i64 0, .int .i64 1, .int .i64 3]) rfl ?_ ?_ ?_ (fun bb => ?_)
  · rfl
  · rfl
  · kernel_rfl
  focus (apply gw_d; exact w_call rfl rfl (fun w s => same_y s) rfl; refine gM rfl rfl (by conv => (lhs; whnf)) ?_; refine gM rfl rfl (by conv => (lhs; whnf)) ?_)
  refine gw_ent (K := ownY y :: ownZ z :: Box bg 29 (shirtV g).cells :: Box (g 11) 69 (opV (.slice none 0 0)) :: (shirtR g).drop 1) (Sub.ent Sub.tail) ?_
  refine gw_bslice (cells := #[.int .i64 0, .int .i64 1]) rfl ?_ ?_ ?_ (fun bc => ?_)
  · rfl
  · rfl
  · kernel_rfl
  focus (apply gw_d; exact w_call rfl rfl (fun w s => same_z s) rfl; apply gw_d; exact det_pick_t (v := .bool _) rfl rfl rfl rfl; refine gM rfl rfl (by conv => (lhs; whnf)) ?_)
  refine gw_ent (K := Box bg 29 (shirtV g).cells :: Box (g 11) 69 (opV (.slice none 0 0)) :: (shirtR g).drop 1) (Sub.ent (Sub.weak (Sub.weak (Sub.weak (Sub.all _))))) ?_
  refine gw_callm rfl (fun w s => shirt_ok w) rfl (fun h => ?_)
  focus (apply gw_d; exact w_call rfl rfl (fun w s => shirt_check s) rfl; refine gC rfl rfl rfl rfl rfl ?_; apply gw_d; exact det_pick_t (v := .bool _) rfl rfl rfl rfl; refine gM rfl rfl (by conv => (lhs; whnf)) ?_)
  refine gw_ent (K := Box bg 29 (shirtV g).cells :: Box (g 11) 69 (opV (.slice none 0 0)) :: (shirtR g).drop 1) (Sub.ent (Sub.weak (Sub.weak (Sub.weak (Sub.weak (Sub.weak (Sub.weak (Sub.weak (Sub.weak (Sub.weak (Sub.weak (Sub.weak (Sub.all _))))))))))))) ?_
  have hgap : ∀ w', St w (Box bg 29 (shirtV g).cells :: Box (g 11) 69 (opV (.slice none 0 0)) :: (shirtR g).drop 1) w' → Ok Tryz.prog 7 [shirtV g].toArray w' fun r _ => r = .int .i64 20 := fun w' s => gap_check (L := []) s.drop
  focus (apply gw_d; exact w_load_boxN rfl rfl rfl .here rfl; apply gw_d; exact w_call rfl rfl hgap rfl; refine gC rfl rfl rfl rfl rfl ?_; apply gw_d; exact det_pick_t (v := .bool _) rfl rfl rfl rfl; refine gM rfl rfl (by conv => (lhs; whnf)) ?_; apply gw_d; exact w_build (cells := #[.string ⟨#[]⟩, .slice none 0 0, .slice none 0 0, .slice none 0 0, .slice none 0 0, .slice none 0 0, .slice none 0 0]) rfl rfl (by rfl); apply gw_d; exact w_call rfl rfl (fun w _ => no_check w) rfl; refine gC rfl rfl rfl rfl rfl ?_; apply gw_d; exact det_pick_t (v := .bool _) rfl rfl rfl rfl; refine gM rfl rfl (by conv => (lhs; whnf)) ?_; refine gO ?_; refine gc_ret ?_)
  refine gx_ret1 (v := .bool _) rfl rfl (fun _ _ => ?_)
  rfl
end Go.Proofs.YtckhibfbdnoigaaGreat

/- Contracts: the guard of the laws of chapter 45. -/
namespace Go.Proofs.YtckhibfbdnoigaaGreat
open Go.RowKit
set_option maxRecDepth 100000
set_option maxHeartbeats 4000000

def fewOp (o : Opn) : Bool := decide (o.name.size ≤ 60) && decide (o.after.length ≤ 30) && decide (o.uses.length ≤ 30)
def fewB (l : List Opn) : Bool := (l.take 20).all fewOp && decide (l.length ≤ 20)
theorem few_ok (w : World) (v : Value) (l : List Opn) (hl : Sl rOp w w.heap.size v l) : Ok Tryz.prog 20 [v].toArray w fun r _ => r = .bool (fewB l) := by
  obtain ⟨A0, c0, rfl, hc, hm⟩ := len_small hl
  refine ok_enter Tryz.func20 rfl Tryz.ntmps20 rfl ?_
  focus (refine gc_seq ?_; refine gc_region ?_; refine gM rfl rfl (by conv => (lhs; whnf)) ?_; refine gO ?_; refine gc_seq ?_; refine gc_seq ?_; refine gc_region ?_; refine gM rfl rfl (by conv => (lhs; whnf)) ?_; refine gO ?_; refine gc_block ?_)
  refine gc_loop (σ := Nat) [4, 5, 6, 7, 8, 9, 10, 11, 14, 15, 16, 17, 18, 19, 20, 21, 22, 23, 24, 25, 26, 27, 28, 29, 30, 31, 32, 33, 34, 35, 36, 37, 38, 2, 12, 13, 3] (fun k => [(3, .int .i64 k)]) (fun _ => []) (fun k => k ≤ l.length ∧ k ≤ 20 ∧ (l.take k).all fewOp = true) (fun k => l.length - k) 0 ⟨Nat.zero_le _, Nat.zero_le _, rfl⟩ ⟨rfl, trivial⟩ .nil ?_
  rintro k base ⟨hk, hk2, hI⟩
  have hdone : k = l.length ∨ k = 20 → (l.take 20).all fewOp = true := fun h => by
    rcases h with rfl | rfl
    · rw [List.take_of_length_le (by omega)] at hI ⊢; exact hI
    · exact hI
  focus (refine gc_seq ?_; refine gc_seq ?_; refine gc_region ?_; refine gM rfl rfl (by conv => (lhs; whnf)) ?_; refine gM rfl rfl (by conv => (lhs; whnf)) ?_; refine gL rfl rfl rfl ?_; refine gC rfl rfl rfl rfl rfl ?_; refine gM rfl rfl (by conv => (lhs; whnf)) ?_; refine gw_guard_dec rfl rfl (fun _ => ?_) (fun _ => ?_); refine gM rfl rfl (by conv => (lhs; whnf)) ?_; refine gC rfl rfl rfl rfl rfl ?_; apply gw_d; exact det_pick_t (v := .bool _) rfl rfl rfl rfl; refine gO ?_; rotate_left; refine gU rfl ?_; refine gU rfl ?_; apply gw_d; exact det_pick_f (v := .bool _) rfl rfl rfl rfl; refine gO ?_; rotate_left)
  · refine gc_if_dec rfl (fun h => ?_) (fun h => ?_)
    · have hlt : k < l.length := by omega
      obtain ⟨ad, _, hv, _, _, hb, hcell⟩ := hl.at' 5 rfl (by omega)
      injection hv with e1 e2 e3
      subst e1 e3
      obtain ⟨cs, hce, Aa, ca, Au, cu, rfl, ⟨hnm, _⟩, q1, q2⟩ := hcell k hlt
      have hce0 := hce 0 _ rfl
      have hce3 := hce 3 _ rfl
      have hce4 := hce 4 _ rfl
      have hbad : fewOp l[k] = false → fewB l = false := fun hf => by
        unfold fewB
        rw [Bool.and_eq_false_iff]
        left
        rw [List.all_eq_false]
        exact ⟨l[k], by rw [List.mem_take_iff_getElem]; exact ⟨k, by omega, rfl⟩, by rw [hf]; decide⟩
      focus (refine gc_skip ?_; refine gx_next ?_; refine gc_seq ?_; refine gc_block ?_; refine gc_seq ?_; refine gc_region ?_; refine gM rfl rfl (by conv => (lhs; whnf)) ?_; refine gM rfl rfl (by conv => (lhs; whnf)) ?_; apply gw_d; exact w_index rfl rfl rfl rfl (by with_reducible exact rfl) (by omega); refine gF rfl rfl rfl ?_; apply gw_d; exact w_load_fld rfl rfl rfl (by assumption) (by assumption); apply gw_d; exact w_len_str rfl rfl rfl; refine gC rfl rfl rfl rfl rfl ?_; refine gM rfl rfl (by conv => (lhs; whnf)) ?_; refine gw_guard_dec rfl rfl (fun _ => ?_) (fun _ => ?_); refine gU rfl ?_; refine gU rfl ?_; refine gU rfl ?_; refine gU rfl ?_; refine gU rfl ?_; refine gU rfl ?_; refine gU rfl ?_; apply gw_d; exact det_pick_t (v := .bool _) rfl rfl rfl rfl; refine gM rfl rfl (by conv => (lhs; whnf)) ?_; refine gU rfl ?_; refine gU rfl ?_; refine gU rfl ?_; refine gU rfl ?_; refine gU rfl ?_; refine gU rfl ?_; refine gU rfl ?_; apply gw_d; exact det_pick_t (v := .bool _) rfl rfl rfl rfl; refine gO ?_; refine gc_if_true rfl ?_; refine gc_seq ?_; refine gc_region ?_; refine gM rfl rfl (by conv => (lhs; whnf)) ?_; refine gO ?_; refine gc_ret ?_; refine gx_block_ret ?_; refine gx_then_ret ?_; refine gx_then_ret ?_; refine gx_block_ret ?_; refine gx_then_ret ?_; rotate_left; refine gM rfl rfl (by conv => (lhs; whnf)) ?_; refine gM rfl rfl (by conv => (lhs; whnf)) ?_; apply gw_d; exact w_index rfl rfl rfl rfl (by with_reducible exact rfl) (by omega); refine gF rfl rfl rfl ?_; apply gw_d; exact w_load_fld rfl rfl rfl (by assumption) (by assumption); refine gL rfl rfl rfl ?_; refine gC rfl rfl rfl rfl rfl ?_; apply gw_d; exact det_pick_f (v := .bool _) rfl rfl rfl rfl; refine gM rfl rfl (by conv => (lhs; whnf)) ?_; refine gw_guard_dec rfl rfl (fun _ => ?_) (fun _ => ?_); refine gU rfl ?_; refine gU rfl ?_; refine gU rfl ?_; refine gU rfl ?_; refine gU rfl ?_; refine gU rfl ?_; refine gU rfl ?_; apply gw_d; exact det_pick_t (v := .bool _) rfl rfl rfl rfl; refine gO ?_; refine gc_if_true rfl ?_; refine gc_seq ?_; refine gc_region ?_; refine gM rfl rfl (by conv => (lhs; whnf)) ?_; refine gO ?_; refine gc_ret ?_; refine gx_block_ret ?_; refine gx_then_ret ?_; refine gx_then_ret ?_; refine gx_block_ret ?_; refine gx_then_ret ?_; rotate_left; refine gM rfl rfl (by conv => (lhs; whnf)) ?_; refine gM rfl rfl (by conv => (lhs; whnf)) ?_; apply gw_d; exact w_index rfl rfl rfl rfl (by with_reducible exact rfl) (by omega); refine gF rfl rfl rfl ?_; apply gw_d; exact w_load_fld rfl rfl rfl (by assumption) (by assumption); refine gL rfl rfl rfl ?_; refine gC rfl rfl rfl rfl rfl ?_; apply gw_d; exact det_pick_f (v := .bool _) rfl rfl rfl rfl; refine gO ?_; refine gc_if_dec rfl (fun _ => ?_) (fun _ => ?_); refine gc_seq ?_; refine gc_region ?_; refine gM rfl rfl (by conv => (lhs; whnf)) ?_; refine gO ?_; refine gc_ret ?_; refine gx_block_ret ?_; refine gx_then_ret ?_; refine gx_then_ret ?_; refine gx_block_ret ?_; refine gx_then_ret ?_; rotate_left; refine gc_skip ?_; refine gx_block ?_; refine gx_next ?_; refine gc_region ?_; refine gM rfl rfl (by conv => (lhs; whnf)) ?_; apply gw_d; exact det_ar rfl rfl rfl rfl rfl (by omega); refine gM rfl rfl (by conv => (lhs; whnf)) ?_; refine gw_nil ?_; rotate_left)
      · refine gx_ret1 (v := .bool _) rfl rfl (fun _ _ => ?_)
        rw [hbad (by unfold fewOp; have : ¬ l[k].name.size ≤ 60 := by omega
                     simp [this])]
      · refine gx_ret1 (v := .bool _) rfl rfl (fun _ _ => ?_)
        rw [hbad (by unfold fewOp; have : ¬ l[k].after.length ≤ 30 := by omega
                     simp [this])]
      · refine gx_ret1 (v := .bool _) rfl rfl (fun _ _ => ?_)
        rw [hbad (by unfold fewOp; have : ¬ l[k].uses.length ≤ 30 := by omega
                     simp [this])]
      · refine gx_round (k + 1) ⟨by omega, by omega, ?_⟩ (by omega) (by repeat (first | exact Keeps.refl | refine Keeps.upd rfl ?_ | refine Keeps.sets rfl ?_ | refine Keeps.havoc rfl ?_)) ⟨rfl, trivial⟩ .nil
        rw [List.take_succ_eq_append_getElem hlt, List.all_append, hI]
        have h1 : l[k].name.size ≤ 60 := by omega
        have h2 : l[k].after.length ≤ 30 := by omega
        have h3 : l[k].uses.length ≤ 30 := by omega
        simp [fewOp, h1, h2, h3]
    · focus (refine gc_exit ?_; refine gx_then_exit ?_; refine gx_then_exit ?_; refine gx_block_exit ?_; refine gx_next ?_; refine gc_seq ?_; refine gc_region ?_; refine gM rfl rfl (by conv => (lhs; whnf)) ?_; refine gL rfl rfl rfl ?_; refine gC rfl rfl rfl rfl rfl ?_; refine gM rfl rfl (by conv => (lhs; whnf)) ?_; refine gO ?_; refine gc_ret ?_)
      refine gx_ret1 (v := .bool _) rfl rfl (fun _ _ => ?_)
      unfold fewB
      rw [hdone (by omega), Bool.true_and]
      congr 1
      apply decide_eq_decide.2
      omega
  · focus (refine gc_if_false rfl ?_; refine gc_exit ?_; refine gx_then_exit ?_; refine gx_then_exit ?_; refine gx_block_exit ?_; refine gx_next ?_; refine gc_seq ?_; refine gc_region ?_; refine gM rfl rfl (by conv => (lhs; whnf)) ?_; refine gL rfl rfl rfl ?_; refine gC rfl rfl rfl rfl rfl ?_; refine gM rfl rfl (by conv => (lhs; whnf)) ?_; refine gO ?_; refine gc_ret ?_)
    refine gx_ret1 (v := .bool _) rfl rfl (fun _ _ => ?_)
    unfold fewB
    rw [hdone (by omega), Bool.true_and]
    congr 1
    apply decide_eq_decide.2
    omega
end Go.Proofs.YtckhibfbdnoigaaGreat

/- Contracts: garmentref25.Light and garmentref21.Light come back, with some answer. -/
namespace Go.Proofs.YtckhibfbdnoigaaGreat
open Go.RowKit
set_option maxRecDepth 100000
set_option maxHeartbeats 4000000

theorem light21_ok (w : World) (p : Pc) (Ae An Ac Aw : Option Addr) (ce cn cc cw : Nat) (hl : Sl rEdge w w.heap.size (.slice Ae p.edges.length ce) p.edges) :
    OkM Tryz.prog 50 [.agg #[.string p.name, .slice Ae p.edges.length ce, .int .i64 p.grain, .slice An p.notches.length cn, .slice Ac p.corners.length cc, .slice Aw p.widths.length cw, .bool p.mt], .int .i64 80].toArray w (fun b : Bool => .bool b) (fun _ => []) := by
  obtain ⟨_, _, hv, hlc, hlm⟩ := len_small hl
  injection hv with e1 e2 e3
  subst e1 e3
  unfold OkM
  refine ok_enter Tryz.func50 rfl Tryz.ntmps50 rfl ?_
  focus (refine gc_seq ?_; refine gc_region ?_; refine gw_boxd (v := .agg _) rfl rfl (fun _ => ?_); refine gM rfl rfl (by conv => (lhs; whnf)) ?_; refine gO ?_; refine gc_seq ?_; refine gc_seq ?_; refine gc_region ?_; refine gF rfl rfl rfl ?_; apply gw_d; exact w_load_box rfl rfl rfl .here rfl; refine gL rfl rfl rfl ?_; refine gC rfl rfl rfl rfl rfl ?_; refine gM rfl rfl (by conv => (lhs; whnf)) ?_; refine gw_guard_dec rfl rfl (fun _ => ?_) (fun _ => ?_); refine gU rfl ?_; refine gU rfl ?_; refine gU rfl ?_; refine gU rfl ?_; apply gw_d; exact det_pick_t (v := .bool _) rfl rfl rfl rfl; refine gM rfl rfl (by conv => (lhs; whnf)) ?_; refine gU rfl ?_; refine gU rfl ?_; refine gU rfl ?_; refine gU rfl ?_; apply gw_d; exact det_pick_t (v := .bool _) rfl rfl rfl rfl; refine gM rfl rfl (by conv => (lhs; whnf)) ?_; refine gU rfl ?_; refine gU rfl ?_; refine gU rfl ?_; refine gU rfl ?_; apply gw_d; exact det_pick_t (v := .bool _) rfl rfl rfl rfl; refine gO ?_; refine gc_if_true rfl ?_; refine gc_seq ?_; refine gc_region ?_; refine gM rfl rfl (by conv => (lhs; whnf)) ?_; refine gO ?_; refine gc_ret ?_; refine gx_then_ret ?_; rotate_left; refine gF rfl rfl rfl ?_; apply gw_d; exact w_load_box rfl rfl rfl .here rfl; refine gL rfl rfl rfl ?_; refine gC rfl rfl rfl rfl rfl ?_; apply gw_d; exact det_pick_f (v := .bool _) rfl rfl rfl rfl; refine gM rfl rfl (by conv => (lhs; whnf)) ?_; refine gw_guard_dec rfl rfl (fun _ => ?_) (fun _ => ?_); refine gU rfl ?_; refine gU rfl ?_; refine gU rfl ?_; refine gU rfl ?_; apply gw_d; exact det_pick_t (v := .bool _) rfl rfl rfl rfl; refine gM rfl rfl (by conv => (lhs; whnf)) ?_; refine gU rfl ?_; refine gU rfl ?_; refine gU rfl ?_; refine gU rfl ?_; apply gw_d; exact det_pick_t (v := .bool _) rfl rfl rfl rfl; refine gO ?_; refine gc_if_true rfl ?_; refine gc_seq ?_; refine gc_region ?_; refine gM rfl rfl (by conv => (lhs; whnf)) ?_; refine gO ?_; refine gc_ret ?_; refine gx_then_ret ?_; rotate_left; refine gF rfl rfl rfl ?_; apply gw_d; exact w_load_box rfl rfl rfl .here rfl; refine gL rfl rfl rfl ?_; refine gC rfl rfl rfl rfl rfl ?_; apply gw_d; exact det_pick_f (v := .bool _) rfl rfl rfl rfl; refine gM rfl rfl (by conv => (lhs; whnf)) ?_; refine gw_guard_dec rfl rfl (fun _ => ?_) (fun _ => ?_); refine gU rfl ?_; refine gU rfl ?_; refine gU rfl ?_; refine gU rfl ?_; apply gw_d; exact det_pick_t (v := .bool _) rfl rfl rfl rfl; refine gO ?_; refine gc_if_true rfl ?_; refine gc_seq ?_; refine gc_region ?_; refine gM rfl rfl (by conv => (lhs; whnf)) ?_; refine gO ?_; refine gc_ret ?_; refine gx_then_ret ?_; rotate_left; refine gF rfl rfl rfl ?_; apply gw_d; exact w_load_box rfl rfl rfl .here rfl; refine gL rfl rfl rfl ?_; refine gC rfl rfl rfl rfl rfl ?_; apply gw_d; exact det_pick_f (v := .bool _) rfl rfl rfl rfl; refine gO ?_; refine gc_if_dec rfl (fun _ => ?_) (fun _ => ?_); refine gc_seq ?_; refine gc_region ?_; refine gM rfl rfl (by conv => (lhs; whnf)) ?_; refine gO ?_; refine gc_ret ?_; refine gx_then_ret ?_; rotate_left; refine gc_skip ?_; refine gx_next ?_; refine gc_seq ?_; refine gc_region ?_; refine gM rfl rfl (by conv => (lhs; whnf)) ?_; refine gO ?_; refine gc_seq ?_; refine gc_seq ?_; refine gc_region ?_; refine gM rfl rfl (by conv => (lhs; whnf)) ?_; refine gO ?_; refine gc_block ?_; rotate_left)
  all_goals first | exact gx_ret1 (v := .bool _) rfl rfl (fun _ _ => ⟨_, rfl, trivial⟩) | skip
  refine gc_loopK (σ := Nat × Nat) [29, 30, 31, 32, 33, 36, 37, 38, 39, 40, 41, 42, 43, 44, 45, 46, 47, 48, 49, 50, 51, 52, 53, 54, 4, 55, 56, 57, 58, 59, 60, 61, 62, 63, 5, 34, 35, 6] (fun x => [(6, .int .i64 x.1), (5, .int .i64 x.2)]) (fun x => x.1 ≤ p.edges.length ∧ x.2 ≤ 80 * x.1) (fun x => p.edges.length - x.1) (0, 0) ⟨Nat.zero_le _, Nat.zero_le _⟩ ⟨rfl, rfl, trivial⟩ ?_
  rintro ⟨k, n⟩ base ⟨hk, hn⟩
  dsimp only at hk hn ⊢
  focus (refine gc_seq ?_; refine gc_seq ?_; refine gc_region ?_; refine gM rfl rfl (by conv => (lhs; whnf)) ?_; refine gF rfl rfl rfl ?_; apply gw_d; exact w_load_box rfl rfl rfl .here rfl; refine gL rfl rfl rfl ?_; refine gC rfl rfl rfl rfl rfl ?_; refine gO ?_)
  refine gc_if_dec rfl (fun h => ?_) (fun h => ?_)
  · have hlt : k < p.edges.length := by omega
    obtain ⟨ad, _, hv, _, _, hb, hcell⟩ := hl.at' 2 rfl (by omega)
    injection hv with e1 e2 e3
    subst e1 e3
    obtain ⟨cs, hce, v2, rfl, hnm, A2, c2, rfl, h21, h22, _⟩ := hcell k hlt
    have hce0 := hce 0 _ rfl
    have hce1 := hce 1 _ rfl
    focus (refine gc_skip ?_; refine gx_next ?_; refine gc_seq ?_; refine gc_block ?_; refine gc_seq ?_; refine gc_seq ?_; refine gc_region ?_; refine gF rfl rfl rfl ?_; apply gw_d; exact w_load_box rfl rfl rfl .here rfl; refine gM rfl rfl (by conv => (lhs; whnf)) ?_; apply gw_d; exact w_index rfl rfl rfl rfl (by with_reducible exact rfl) (by omega); refine gF rfl rfl rfl ?_; apply gw_d; exact w_load_fld rfl rfl rfl (by assumption) (by assumption); refine gL rfl rfl rfl ?_; refine gM rfl rfl (by conv => (lhs; whnf)) ?_; refine gC rfl rfl rfl rfl rfl ?_; refine gM rfl rfl (by conv => (lhs; whnf)) ?_; refine gw_guard_dec rfl rfl (fun _ => ?_) (fun _ => ?_); refine gU rfl ?_; refine gU rfl ?_; refine gU rfl ?_; refine gU rfl ?_; refine gU rfl ?_; refine gU rfl ?_; refine gU rfl ?_; refine gU rfl ?_; apply gw_d; exact det_pick_t (v := .bool _) rfl rfl rfl rfl; refine gO ?_; refine gc_if_true rfl ?_; refine gc_seq ?_; refine gc_region ?_; refine gM rfl rfl (by conv => (lhs; whnf)) ?_; refine gO ?_; refine gc_ret ?_; refine gx_then_ret ?_; refine gx_block_ret ?_; refine gx_then_ret ?_; refine gx_then_ret ?_; refine gx_block_ret ?_; refine gx_then_ret ?_; rotate_left; refine gF rfl rfl rfl ?_; apply gw_d; exact w_load_box rfl rfl rfl .here rfl; refine gM rfl rfl (by conv => (lhs; whnf)) ?_; apply gw_d; exact w_index rfl rfl rfl rfl (by with_reducible exact rfl) (by omega); refine gF rfl rfl rfl ?_; apply gw_d; exact w_load_fld rfl rfl rfl (by assumption) (by assumption); apply gw_d; exact w_len_str rfl rfl rfl; refine gC rfl rfl rfl rfl rfl ?_; apply gw_d; exact det_pick_f (v := .bool _) rfl rfl rfl rfl; refine gO ?_; refine gc_if_dec rfl (fun _ => ?_) (fun _ => ?_); refine gc_seq ?_; refine gc_region ?_; refine gM rfl rfl (by conv => (lhs; whnf)) ?_; refine gO ?_; refine gc_ret ?_; refine gx_then_ret ?_; refine gx_block_ret ?_; refine gx_then_ret ?_; refine gx_then_ret ?_; refine gx_block_ret ?_; refine gx_then_ret ?_; rotate_left; refine gc_skip ?_; refine gx_next ?_; refine gc_region ?_; refine gM rfl rfl (by conv => (lhs; whnf)) ?_; refine gF rfl rfl rfl ?_; apply gw_d; exact w_load_box rfl rfl rfl .here rfl; refine gM rfl rfl (by conv => (lhs; whnf)) ?_; apply gw_d; exact w_index rfl rfl rfl rfl (by with_reducible exact rfl) (by omega); refine gF rfl rfl rfl ?_; apply gw_d; exact w_load_fld rfl rfl rfl (by assumption) (by assumption); refine gL rfl rfl rfl ?_; apply gw_d; exact det_ar rfl rfl rfl rfl rfl (by omega); refine gM rfl rfl (by conv => (lhs; whnf)) ?_; refine gw_nil ?_; refine gx_block ?_; refine gx_next ?_; refine gc_region ?_; refine gM rfl rfl (by conv => (lhs; whnf)) ?_; apply gw_d; exact det_ar rfl rfl rfl rfl rfl (by omega); refine gM rfl rfl (by conv => (lhs; whnf)) ?_; refine gw_nil ?_; rotate_left)
    all_goals first | exact gx_ret1 (v := .bool _) rfl rfl (fun _ _ => ⟨_, rfl, trivial⟩) | skip
    exact gx_round (k + 1, n + p.edges[k].2.length) ⟨by omega, by dsimp only; omega⟩ (by dsimp only; omega) (by repeat (first | exact Keeps.refl | refine Keeps.upd rfl ?_ | refine Keeps.sets rfl ?_ | refine Keeps.havoc rfl ?_)) ⟨rfl, congrArg (Value.int .i64) (Int.natCast_add n _).symm, trivial⟩ (Sub.all _)
  · focus (refine gc_exit ?_; refine gx_then_exit ?_; refine gx_then_exit ?_; refine gx_block_exit ?_; refine gx_next ?_; refine gc_seq ?_; refine gc_region ?_; refine gM rfl rfl (by conv => (lhs; whnf)) ?_; refine gM rfl rfl (by conv => (lhs; whnf)) ?_; refine gC rfl rfl rfl rfl rfl ?_; refine gM rfl rfl (by conv => (lhs; whnf)) ?_; refine gO ?_; refine gc_ret ?_)
    exact gx_ret1 (v := .bool _) rfl rfl (fun _ _ => ⟨_, rfl, trivial⟩)

theorem light_ok (w : World) (v : Value) (s : Sty) (hs : StyV w w.heap.size v s) : OkM Tryz.prog 19 [v].toArray w (fun b : Bool => .bool b) (fun _ => []) := by
  obtain ⟨As, cs, Am, cm, Ap, cp, Au, cu, Ae, ce, Ao, co, rfl, hnm, h1, h2, h3, h4, h5, h6⟩ := hs
  obtain ⟨_, _, hv, hsc, hsm, hscell⟩ := h1.str'
  injection hv with e1 e2 e3
  subst e1 e3
  obtain ⟨_, _, hv, hpc, hpm⟩ := len_small h3
  injection hv with e1 e2 e3
  subst e1 e3
  unfold OkM
  refine ok_enter Tryz.func19 rfl Tryz.ntmps19 rfl ?_
  focus (refine gc_seq ?_; refine gc_region ?_; refine gw_boxd (v := .agg _) rfl rfl (fun _ => ?_); refine gM rfl rfl (by conv => (lhs; whnf)) ?_; refine gO ?_; refine gc_seq ?_; refine gc_seq ?_; refine gc_region ?_; refine gF rfl rfl rfl ?_; apply gw_d; exact w_load_box rfl rfl rfl .here rfl; apply gw_d; exact w_len_str rfl rfl rfl; refine gC rfl rfl rfl rfl rfl ?_; refine gM rfl rfl (by conv => (lhs; whnf)) ?_; refine gw_guard_dec rfl rfl (fun _ => ?_) (fun _ => ?_); refine gU rfl ?_; refine gU rfl ?_; refine gU rfl ?_; refine gU rfl ?_; apply gw_d; exact det_pick_t (v := .bool _) rfl rfl rfl rfl; refine gM rfl rfl (by conv => (lhs; whnf)) ?_; refine gU rfl ?_; refine gU rfl ?_; refine gU rfl ?_; refine gU rfl ?_; apply gw_d; exact det_pick_t (v := .bool _) rfl rfl rfl rfl; refine gM rfl rfl (by conv => (lhs; whnf)) ?_; refine gU rfl ?_; refine gU rfl ?_; refine gU rfl ?_; refine gU rfl ?_; apply gw_d; exact det_pick_t (v := .bool _) rfl rfl rfl rfl; refine gM rfl rfl (by conv => (lhs; whnf)) ?_; refine gU rfl ?_; refine gU rfl ?_; refine gU rfl ?_; refine gU rfl ?_; apply gw_d; exact det_pick_t (v := .bool _) rfl rfl rfl rfl; refine gM rfl rfl (by conv => (lhs; whnf)) ?_; refine gU rfl ?_; refine gU rfl ?_; refine gU rfl ?_; refine gU rfl ?_; apply gw_d; exact det_pick_t (v := .bool _) rfl rfl rfl rfl; refine gM rfl rfl (by conv => (lhs; whnf)) ?_; refine gU rfl ?_; refine gU rfl ?_; refine gU rfl ?_; refine gU rfl ?_; apply gw_d; exact det_pick_t (v := .bool _) rfl rfl rfl rfl; refine gO ?_; refine gc_if_true rfl ?_; refine gc_seq ?_; refine gc_region ?_; refine gM rfl rfl (by conv => (lhs; whnf)) ?_; refine gO ?_; refine gc_ret ?_; refine gx_then_ret ?_; rotate_left; refine gF rfl rfl rfl ?_; apply gw_d; exact w_load_box rfl rfl rfl .here rfl; refine gL rfl rfl rfl ?_; refine gC rfl rfl rfl rfl rfl ?_; apply gw_d; exact det_pick_f (v := .bool _) rfl rfl rfl rfl; refine gM rfl rfl (by conv => (lhs; whnf)) ?_; refine gw_guard_dec rfl rfl (fun _ => ?_) (fun _ => ?_); refine gU rfl ?_; refine gU rfl ?_; refine gU rfl ?_; refine gU rfl ?_; apply gw_d; exact det_pick_t (v := .bool _) rfl rfl rfl rfl; refine gM rfl rfl (by conv => (lhs; whnf)) ?_; refine gU rfl ?_; refine gU rfl ?_; refine gU rfl ?_; refine gU rfl ?_; apply gw_d; exact det_pick_t (v := .bool _) rfl rfl rfl rfl; refine gM rfl rfl (by conv => (lhs; whnf)) ?_; refine gU rfl ?_; refine gU rfl ?_; refine gU rfl ?_; refine gU rfl ?_; apply gw_d; exact det_pick_t (v := .bool _) rfl rfl rfl rfl; refine gM rfl rfl (by conv => (lhs; whnf)) ?_; refine gU rfl ?_; refine gU rfl ?_; refine gU rfl ?_; refine gU rfl ?_; apply gw_d; exact det_pick_t (v := .bool _) rfl rfl rfl rfl; refine gM rfl rfl (by conv => (lhs; whnf)) ?_; refine gU rfl ?_; refine gU rfl ?_; refine gU rfl ?_; refine gU rfl ?_; apply gw_d; exact det_pick_t (v := .bool _) rfl rfl rfl rfl; refine gO ?_; refine gc_if_true rfl ?_; refine gc_seq ?_; refine gc_region ?_; refine gM rfl rfl (by conv => (lhs; whnf)) ?_; refine gO ?_; refine gc_ret ?_; refine gx_then_ret ?_; rotate_left; refine gF rfl rfl rfl ?_; apply gw_d; exact w_load_box rfl rfl rfl .here rfl; refine gL rfl rfl rfl ?_; refine gC rfl rfl rfl rfl rfl ?_; apply gw_d; exact det_pick_f (v := .bool _) rfl rfl rfl rfl; refine gM rfl rfl (by conv => (lhs; whnf)) ?_; refine gw_guard_dec rfl rfl (fun _ => ?_) (fun _ => ?_); refine gU rfl ?_; refine gU rfl ?_; refine gU rfl ?_; refine gU rfl ?_; apply gw_d; exact det_pick_t (v := .bool _) rfl rfl rfl rfl; refine gM rfl rfl (by conv => (lhs; whnf)) ?_; refine gU rfl ?_; refine gU rfl ?_; refine gU rfl ?_; refine gU rfl ?_; apply gw_d; exact det_pick_t (v := .bool _) rfl rfl rfl rfl; refine gM rfl rfl (by conv => (lhs; whnf)) ?_; refine gU rfl ?_; refine gU rfl ?_; refine gU rfl ?_; refine gU rfl ?_; apply gw_d; exact det_pick_t (v := .bool _) rfl rfl rfl rfl; refine gM rfl rfl (by conv => (lhs; whnf)) ?_; refine gU rfl ?_; refine gU rfl ?_; refine gU rfl ?_; refine gU rfl ?_; apply gw_d; exact det_pick_t (v := .bool _) rfl rfl rfl rfl; refine gO ?_; refine gc_if_true rfl ?_; refine gc_seq ?_; refine gc_region ?_; refine gM rfl rfl (by conv => (lhs; whnf)) ?_; refine gO ?_; refine gc_ret ?_; refine gx_then_ret ?_; rotate_left; refine gF rfl rfl rfl ?_; apply gw_d; exact w_load_box rfl rfl rfl .here rfl; refine gL rfl rfl rfl ?_; refine gC rfl rfl rfl rfl rfl ?_; apply gw_d; exact det_pick_f (v := .bool _) rfl rfl rfl rfl; refine gM rfl rfl (by conv => (lhs; whnf)) ?_; refine gw_guard_dec rfl rfl (fun _ => ?_) (fun _ => ?_); refine gU rfl ?_; refine gU rfl ?_; refine gU rfl ?_; refine gU rfl ?_; apply gw_d; exact det_pick_t (v := .bool _) rfl rfl rfl rfl; refine gM rfl rfl (by conv => (lhs; whnf)) ?_; refine gU rfl ?_; refine gU rfl ?_; refine gU rfl ?_; refine gU rfl ?_; apply gw_d; exact det_pick_t (v := .bool _) rfl rfl rfl rfl; refine gM rfl rfl (by conv => (lhs; whnf)) ?_; refine gU rfl ?_; refine gU rfl ?_; refine gU rfl ?_; refine gU rfl ?_; apply gw_d; exact det_pick_t (v := .bool _) rfl rfl rfl rfl; refine gO ?_; refine gc_if_true rfl ?_; refine gc_seq ?_; refine gc_region ?_; refine gM rfl rfl (by conv => (lhs; whnf)) ?_; refine gO ?_; refine gc_ret ?_; refine gx_then_ret ?_; rotate_left; refine gF rfl rfl rfl ?_; apply gw_d; exact w_load_box rfl rfl rfl .here rfl; refine gL rfl rfl rfl ?_; refine gC rfl rfl rfl rfl rfl ?_; apply gw_d; exact det_pick_f (v := .bool _) rfl rfl rfl rfl; refine gM rfl rfl (by conv => (lhs; whnf)) ?_; refine gw_guard_dec rfl rfl (fun _ => ?_) (fun _ => ?_); refine gU rfl ?_; refine gU rfl ?_; refine gU rfl ?_; refine gU rfl ?_; apply gw_d; exact det_pick_t (v := .bool _) rfl rfl rfl rfl; refine gM rfl rfl (by conv => (lhs; whnf)) ?_; refine gU rfl ?_; refine gU rfl ?_; refine gU rfl ?_; refine gU rfl ?_; apply gw_d; exact det_pick_t (v := .bool _) rfl rfl rfl rfl; refine gO ?_; refine gc_if_true rfl ?_; refine gc_seq ?_; refine gc_region ?_; refine gM rfl rfl (by conv => (lhs; whnf)) ?_; refine gO ?_; refine gc_ret ?_; refine gx_then_ret ?_; rotate_left; refine gF rfl rfl rfl ?_; apply gw_d; exact w_load_box rfl rfl rfl .here rfl; refine gL rfl rfl rfl ?_; refine gC rfl rfl rfl rfl rfl ?_; apply gw_d; exact det_pick_f (v := .bool _) rfl rfl rfl rfl; refine gM rfl rfl (by conv => (lhs; whnf)) ?_; refine gw_guard_dec rfl rfl (fun _ => ?_) (fun _ => ?_); refine gU rfl ?_; refine gU rfl ?_; refine gU rfl ?_; refine gU rfl ?_; apply gw_d; exact det_pick_t (v := .bool _) rfl rfl rfl rfl; refine gO ?_; refine gc_if_true rfl ?_; refine gc_seq ?_; refine gc_region ?_; refine gM rfl rfl (by conv => (lhs; whnf)) ?_; refine gO ?_; refine gc_ret ?_; refine gx_then_ret ?_; rotate_left; refine gF rfl rfl rfl ?_; apply gw_d; exact w_load_box rfl rfl rfl .here rfl; refine gL rfl rfl rfl ?_; refine gC rfl rfl rfl rfl rfl ?_; apply gw_d; exact det_pick_f (v := .bool _) rfl rfl rfl rfl; refine gO ?_; refine gc_if_dec rfl (fun _ => ?_) (fun _ => ?_); refine gc_seq ?_; refine gc_region ?_; refine gM rfl rfl (by conv => (lhs; whnf)) ?_; refine gO ?_; refine gc_ret ?_; refine gx_then_ret ?_; rotate_left; refine gc_skip ?_; refine gx_next ?_; refine gc_seq ?_; refine gc_seq ?_; refine gc_region ?_; refine gM rfl rfl (by conv => (lhs; whnf)) ?_; refine gO ?_; refine gc_block ?_; rotate_left)
  all_goals first | exact gx_ret1 (v := .bool _) rfl rfl (fun _ _ => ⟨_, rfl, trivial⟩) | skip
  refine gc_loopK (σ := Nat) [45, 46, 47, 48, 49, 52, 53, 54, 55, 56, 57, 58, 2, 50, 51, 3] (fun k => [(3, .int .i64 k)]) (fun k => k ≤ s.sizes.length) (fun k => s.sizes.length - k) 0 (Nat.zero_le _) ⟨rfl, trivial⟩ ?_
  rintro k base hk
  focus (refine gc_seq ?_; refine gc_seq ?_; refine gc_region ?_; refine gM rfl rfl (by conv => (lhs; whnf)) ?_; refine gF rfl rfl rfl ?_; apply gw_d; exact w_load_box rfl rfl rfl .here rfl; refine gL rfl rfl rfl ?_; refine gC rfl rfl rfl rfl rfl ?_; refine gO ?_)
  refine gc_if_dec rfl (fun h => ?_) (fun h => ?_)
  · have hlt : k < s.sizes.length := by omega
    obtain ⟨ad, rfl, hb, hce, _⟩ := hscell k hlt
    focus (refine gc_skip ?_; refine gx_next ?_; refine gc_seq ?_; refine gc_block ?_; refine gc_seq ?_; refine gc_region ?_; refine gF rfl rfl rfl ?_; apply gw_d; exact w_load_box rfl rfl rfl .here rfl; refine gM rfl rfl (by conv => (lhs; whnf)) ?_; apply gw_d; exact w_index rfl rfl rfl rfl (by with_reducible exact rfl) (by omega); apply gw_d; exact w_load_at rfl rfl rfl (by assumption) (by assumption); apply gw_d; exact w_len_str rfl rfl rfl; refine gC rfl rfl rfl rfl rfl ?_; refine gO ?_; refine gc_if_dec rfl (fun _ => ?_) (fun _ => ?_); refine gc_seq ?_; refine gc_region ?_; refine gM rfl rfl (by conv => (lhs; whnf)) ?_; refine gO ?_; refine gc_ret ?_; refine gx_block_ret ?_; refine gx_then_ret ?_; refine gx_then_ret ?_; refine gx_block_ret ?_; refine gx_then_ret ?_; rotate_left; refine gc_skip ?_; refine gx_block ?_; refine gx_next ?_; refine gc_region ?_; refine gM rfl rfl (by conv => (lhs; whnf)) ?_; apply gw_d; exact det_ar rfl rfl rfl rfl rfl (by omega); refine gM rfl rfl (by conv => (lhs; whnf)) ?_; refine gw_nil ?_; rotate_left)
    all_goals first | exact gx_ret1 (v := .bool _) rfl rfl (fun _ _ => ⟨_, rfl, trivial⟩) | skip
    exact gx_round (k + 1) (by omega) (by omega) (by repeat (first | exact Keeps.refl | refine Keeps.upd rfl ?_ | refine Keeps.sets rfl ?_ | refine Keeps.havoc rfl ?_)) ⟨rfl, trivial⟩ (Sub.all _)
  focus (refine gc_exit ?_; refine gx_then_exit ?_; refine gx_then_exit ?_; refine gx_block_exit ?_; refine gx_next ?_; refine gc_seq ?_; refine gc_seq ?_; refine gc_region ?_; refine gM rfl rfl (by conv => (lhs; whnf)) ?_; refine gO ?_; refine gc_block ?_)
  refine gc_loopK (σ := Nat) [59, 60, 61, 62, 63, 66, 67, 68, 69, 70, 71, 72, 73, 74, 75, 76, 77, 78, 79, 80, 81, 82, 2, 64, 65, 4] (fun k => [(4, .int .i64 k)]) (fun k => k ≤ s.pieces.length) (fun k => s.pieces.length - k) 0 (Nat.zero_le _) ⟨rfl, trivial⟩ ?_
  rintro k2 base2 hk2
  focus (refine gc_seq ?_; refine gc_seq ?_; refine gc_region ?_; refine gM rfl rfl (by conv => (lhs; whnf)) ?_; refine gF rfl rfl rfl ?_; apply gw_d; exact w_load_box rfl rfl rfl .here rfl; refine gL rfl rfl rfl ?_; refine gC rfl rfl rfl rfl rfl ?_; refine gO ?_)
  refine gc_if_dec rfl (fun h => ?_) (fun h => ?_)
  · have hlt : k2 < s.pieces.length := by omega
    obtain ⟨ad, _, hv, _, _, hb, hcell⟩ := h3.at' 7 rfl (by omega)
    injection hv with e1 e2 e3
    subst e1 e3
    obtain ⟨cs', hce, Ae', ce', An', cn', Ac', cc', Aw', cw', rfl, ⟨q1, _⟩, q2, q3, q4, q5⟩ := hcell k2 hlt
    have hce0 := hce 0 _ rfl
    have q2' : Sl rEdge w w.heap.size (.slice Ae' s.pieces[k2].edges.length ce') s.pieces[k2].edges := q2
    focus (refine gc_skip ?_; refine gx_next ?_; refine gc_seq ?_; refine gc_block ?_; refine gc_seq ?_; refine gc_region ?_; refine gF rfl rfl rfl ?_; apply gw_d; exact w_load_box rfl rfl rfl .here rfl; refine gM rfl rfl (by conv => (lhs; whnf)) ?_; apply gw_d; exact w_index rfl rfl rfl rfl (by with_reducible exact rfl) (by omega); refine gF rfl rfl rfl ?_; apply gw_d; exact w_load_fld rfl rfl rfl (by assumption) (by assumption); apply gw_d; exact w_len_str rfl rfl rfl; refine gC rfl rfl rfl rfl rfl ?_; refine gM rfl rfl (by conv => (lhs; whnf)) ?_; refine gw_guard_dec rfl rfl (fun _ => ?_) (fun _ => ?_); refine gU rfl ?_; refine gU rfl ?_; refine gU rfl ?_; refine gU rfl ?_; refine gU rfl ?_; refine gU rfl ?_; refine gU rfl ?_; apply gw_d; exact det_pick_t (v := .bool _) rfl rfl rfl rfl; refine gO ?_; refine gc_if_true rfl ?_; refine gc_seq ?_; refine gc_region ?_; refine gM rfl rfl (by conv => (lhs; whnf)) ?_; refine gO ?_; refine gc_ret ?_; refine gx_block_ret ?_; refine gx_then_ret ?_; refine gx_then_ret ?_; refine gx_block_ret ?_; refine gx_then_ret ?_; rotate_left; refine gF rfl rfl rfl ?_; apply gw_d; exact w_load_box rfl rfl rfl .here rfl; refine gM rfl rfl (by conv => (lhs; whnf)) ?_; apply gw_d; exact w_index rfl rfl rfl rfl (by with_reducible exact rfl) (by omega); apply gw_d; exact w_load_elem rfl rfl rfl (by assumption) (by assumption) (by rfl); rotate_left)
    all_goals first | exact gx_ret1 (v := .bool _) rfl rfl (fun _ _ => ⟨_, rfl, trivial⟩) | skip
    have hC : ∀ (L : List Res) (w' : World), St w L w' → OkM Tryz.prog 50 [.agg #[.string s.pieces[k2].name, .slice Ae' s.pieces[k2].edges.length ce', .int .i64 s.pieces[k2].grain, .slice An' s.pieces[k2].notches.length cn', .slice Ac' s.pieces[k2].corners.length cc', .slice Aw' s.pieces[k2].widths.length cw', .bool s.pieces[k2].mt], .int .i64 80].toArray w' (fun b : Bool => .bool b) (fun _ => []) := fun L w' s' => light21_ok w' s.pieces[k2] Ae' An' Ac' Aw' ce' cn' cc' cw' (q2'.later s')
    focus (skip)
    refine gw_callm rfl (hC _) rfl (fun b => ?_)
    focus (apply gw_d; exact det_not_ rfl rfl rfl; apply gw_d; exact det_pick_f (v := .bool _) rfl rfl rfl rfl; refine gO ?_; refine gc_if rfl (fun _ => ?_) (fun _ => ?_); refine gc_seq ?_; refine gc_region ?_; refine gM rfl rfl (by conv => (lhs; whnf)) ?_; refine gO ?_; refine gc_ret ?_; refine gx_block_ret ?_; refine gx_then_ret ?_; refine gx_then_ret ?_; refine gx_block_ret ?_; refine gx_then_ret ?_; rotate_left; refine gc_skip ?_; refine gx_block ?_; refine gx_next ?_; refine gc_region ?_; refine gM rfl rfl (by conv => (lhs; whnf)) ?_; apply gw_d; exact det_ar rfl rfl rfl rfl rfl (by omega); refine gM rfl rfl (by conv => (lhs; whnf)) ?_; refine gw_nil ?_; rotate_left)
    all_goals first | exact gx_ret1 (v := .bool _) rfl rfl (fun _ _ => ⟨_, rfl, trivial⟩) | skip
    exact gx_round (k2 + 1) (by omega) (by omega) (by repeat (first | exact Keeps.refl | refine Keeps.upd rfl ?_ | refine Keeps.sets rfl ?_ | refine Keeps.havoc rfl ?_)) ⟨rfl, trivial⟩ (Sub.all _)
  · focus (refine gc_exit ?_; refine gx_then_exit ?_; refine gx_then_exit ?_; refine gx_block_exit ?_; refine gx_next ?_; refine gc_seq ?_; refine gc_region ?_; refine gM rfl rfl (by conv => (lhs; whnf)) ?_; refine gO ?_; refine gc_ret ?_)
    exact gx_ret1 (v := .bool _) rfl rfl (fun _ _ => ⟨_, rfl, trivial⟩)
end Go.Proofs.YtckhibfbdnoigaaGreat

/- The law OperationChecks: the walk. -/
namespace Go.Proofs.YtckhibfbdnoigaaGreat
open Go.RowKit
set_option maxRecDepth 100000
set_option maxHeartbeats 4000000

theorem small45_ok (w : World) (v : Value) (s : Sty) (hs : StyV w w.heap.size v s) : OkM Tryz.prog 5 [v].toArray w (fun b : Bool => .bool b) (fun _ => []) := by
  have hs' := hs
  obtain ⟨As, cs, Am, cm, Ap, cp, Au, cu, Ae, ce, Ao, co, rfl, hnm, h1, h2, h3, h4, h5, h6⟩ := hs
  unfold OkM
  refine ok_enter Tryz.func5 rfl Tryz.ntmps5 rfl ?_
  focus (refine gc_seq ?_; refine gc_region ?_; refine gw_boxd (v := .agg _) rfl rfl (fun _ => ?_); refine gM rfl rfl (by conv => (lhs; whnf)) ?_; refine gN ?_; apply gw_d; exact w_load_boxN rfl rfl rfl .here rfl)
  refine gw_callm rfl (fun w s' => light_ok w _ s (hs'.later s')) rfl (fun b => ?_)
  focus (refine gM rfl rfl (by conv => (lhs; whnf)) ?_; refine gw_guard rfl rfl (fun _ => ?_) (fun _ => ?_); refine gF rfl rfl rfl ?_; apply gw_d; exact w_load_box rfl rfl rfl .here rfl; apply gw_d; exact w_call rfl rfl (fun w s' => few_ok w _ s.ops (h6.later s')) rfl; apply gw_d; exact det_pick_t (v := .bool _) rfl rfl rfl rfl; refine gM rfl rfl (by conv => (lhs; whnf)) ?_; refine gO ?_; refine gc_ret ?_; rotate_left; refine gU rfl ?_; refine gU rfl ?_; refine gU rfl ?_; apply gw_d; exact det_pick_f (v := .bool _) rfl rfl rfl rfl; refine gM rfl rfl (by conv => (lhs; whnf)) ?_; refine gO ?_; refine gc_ret ?_; rotate_left)
  all_goals exact gx_ret1 (v := .bool _) rfl rfl (fun _ _ => ⟨_, rfl, trivial⟩)
theorem lawChecks_ok (w : World) (v : Value) (s : Sty) (hs : StyV w w.heap.size v s) : Ok Tryz.prog 3 [v].toArray w fun r _ => r = .bool true := by
  have hs' := hs
  obtain ⟨As, cs, Am, cm, Ap, cp, Au, cu, Ae, ce, Ao, co, rfl, hnm, h1, h2, h3, h4, h5, h6⟩ := hs
  have hP := fun (L : List Res) (w' : World) (s' : St w L w') => opCheck_ok w' _ s (hs'.later s')
  have hR := fun (L : List Res) (w' : World) (s' : St w L w') => rOpCheck_ok w' _ s (hs'.later s')
  generalize opCheckE s plE = e at hP hR
  refine ok_enter Tryz.func3 rfl Tryz.ntmps3 rfl ?_
  focus (refine gc_seq ?_; refine gc_region ?_; refine gw_boxd (v := .agg _) rfl rfl (fun _ => ?_); refine gM rfl rfl (by conv => (lhs; whnf)) ?_; refine gO ?_; refine gc_seq ?_; refine gc_seq ?_; refine gc_region ?_; apply gw_d; exact w_load_boxN rfl rfl rfl .here rfl)
  refine gw_callm rfl (fun w s' => small45_ok w _ s (hs'.later s')) rfl (fun b => ?_)
  focus (apply gw_d; exact det_not_ rfl rfl rfl; refine gO ?_)
  refine gc_if rfl (fun _ => ?_) (fun _ => ?_)
  · focus (refine gc_seq ?_; refine gc_region ?_; apply gw_d; exact w_call rfl rfl (fun w _ => awake_ok w) rfl; refine gM rfl rfl (by conv => (lhs; whnf)) ?_; refine gO ?_; refine gc_ret ?_; refine gx_then_ret ?_)
    refine gx_ret1 (v := .bool _) rfl rfl (fun _ _ => ?_)
    rfl
  focus (refine gc_skip ?_; refine gx_next ?_; refine gc_seq ?_)
  refine gc_draw 8 (by kernel_rfl) (by kernel_rfl) ?_
  focus (apply gd_d; exact w_load_boxN rfl rfl rfl .here rfl; apply gd_d; exact w_call rfl rfl (hP _) rfl; apply gd_d; exact w_load_boxN rfl rfl rfl .here rfl; apply gd_d; exact w_call rfl rfl (hR _) rfl; apply gd_d; exact det_cmp rfl rfl rfl rfl rfl; apply gd_d; exact det_m rfl rfl (by conv => (lhs; whnf)); refine gd_guard_dec rfl rfl (fun _ => ?_) (fun _ => ?_); apply gd_d; exact w_call rfl rfl (fun w _ => awake_ok w) rfl; apply gd_d; exact det_pick_t (v := .bool _) rfl rfl rfl rfl; refine gd_nil ?_; refine gM rfl rfl (by conv => (lhs; whnf)) ?_; refine gO ?_; refine gc_ret ?_; rotate_left; apply gd_d; exact det_not rfl; apply gd_d; exact det_pick_f (v := .bool _) rfl rfl rfl rfl; refine gd_nil ?_; refine gM rfl rfl (by conv => (lhs; whnf)) ?_; refine gO ?_; refine gc_ret ?_; rotate_left)
  all_goals first | exact absurd rfl (by assumption) | skip
  refine gx_ret1 (v := .bool _) rfl rfl (fun _ _ => ?_)
  rfl
end Go.Proofs.YtckhibfbdnoigaaGreat

/- Arguments of the laws: operations, as they came in. -/
namespace Go.Proofs.YtckhibfbdnoigaaGreat
open Go.ChangeShapes Go.WideShapes Go.ChangeAt Go.RowKit
section
variable {H : Type} {enc : TypeId × Value → H} {w : World} {base : Nat} {spare : Nat → Bool} {held : Bool}
theorem ints23 {n : Nat} {c : Value} {x : DataW H × List MemPlace} (h : DataW.trod enc Tryz.prog w base spare held n 23 [c] = some x) : ∃ l, Sl rInt w w.heap.size c l :=
  ints_trod (e := 3) (by kernel_rfl) (by kernel_rfl) (by kernel_rfl) h
theorem op_trod {n : Nat} {cs : List Value} {x : DataW H × List MemPlace} (hl : cs.length = 5) (h : DataW.trod enc Tryz.prog w base spare held n 69 cs = some x) : ∃ o, rOp.rep w (fun b => b < w.heap.size) o cs := by
  match cs, hl with
  | [c0, c1, c2, c3, c4], _ =>
    obtain ⟨_, _, h0⟩ := field_trod (i := 0) (ft := 9) h (by kernel_rfl) rfl
    obtain ⟨_, _, h1⟩ := field_trod (i := 1) (ft := 3) h (by kernel_rfl) rfl
    obtain ⟨_, _, h2⟩ := field_trod (i := 2) (ft := 3) h (by kernel_rfl) rfl
    obtain ⟨_, _, h3⟩ := field_trod (i := 3) (ft := 23) h (by kernel_rfl) rfl
    obtain ⟨_, _, h4⟩ := field_trod (i := 4) (ft := 23) h (by kernel_rfl) rfl
    obtain ⟨s, rfl, hs⟩ := str_trod (by kernel_rfl) h0
    obtain ⟨i1, rfl, hi1⟩ := int_trod (by kernel_rfl) h1
    obtain ⟨i2, rfl, hi2⟩ := int_trod (by kernel_rfl) h2
    obtain ⟨la, ha⟩ := ints23 h3
    obtain ⟨lu, hu⟩ := ints23 h4
    obtain ⟨Aa, ca, rfl, _⟩ := len_small ha
    obtain ⟨Au, cu, rfl, _⟩ := len_small hu
    exact ⟨⟨s, i1, i2, la, lu⟩, Aa, ca, Au, cu, rfl, ⟨hs, hi1, hi2⟩, ha, hu⟩
theorem ops_trod {n : Nat} {c : Value} {x : DataW H × List MemPlace} (h : DataW.trod enc Tryz.prog w base spare held n 27 [c] = some x) : ∃ l, Sl rOp w w.heap.size c l :=
  sl_of_trod (R := rOp) (e := 69) (by kernel_rfl) (by kernel_rfl) (by decide) (fun _ _ _ hl hy => op_trod hl hy) h
end
end Go.Proofs.YtckhibfbdnoigaaGreat

/- Arguments of the laws: styles, as they came in. -/
namespace Go.Proofs.YtckhibfbdnoigaaGreat
open Go.ChangeShapes Go.WideShapes Go.ChangeAt Go.RowKit
section
variable {H : Type} {enc : TypeId × Value → H} {P : Program} {w : World} {base : Nat} {spare : Nat → Bool} {held : Bool}
end
section
variable {H : Type} {enc : TypeId × Value → H} {w : World} {base : Nat} {spare : Nat → Bool} {held : Bool}
theorem strs_trod {n : Nat} {c : Value} {x : DataW H × List MemPlace} (h : DataW.trod enc Tryz.prog w base spare held n 22 [c] = some x) : ∃ l, Sl rStr w w.heap.size c l :=
  sl_of_trod (R := rStr) (e := 9) (by kernel_rfl) (by kernel_rfl) (by decide) (fun _ cs _ hl hy => by
    match cs, hl with
    | [c0], _ =>
      obtain ⟨s, rfl, hs⟩ := str_trod (by kernel_rfl) hy
      exact ⟨s, rfl, hs⟩) h
theorem spots_trod {n : Nat} {c : Value} {x : DataW H × List MemPlace} (h : DataW.trod enc Tryz.prog w base spare held n 78 [c] = some x) : ∃ l, Sl rSpot w w.heap.size c l :=
  sl_of_trod (R := rSpot) (e := 130) (by kernel_rfl) (by kernel_rfl) (by decide) (fun _ cs _ hl hy => by
    match cs, hl with
    | [c0, c1], _ =>
      obtain ⟨_, _, h0⟩ := field_trod (i := 0) (ft := 3) hy (by kernel_rfl) rfl
      obtain ⟨_, _, h1⟩ := field_trod (i := 1) (ft := 3) hy (by kernel_rfl) rfl
      obtain ⟨i0, rfl, hi0⟩ := int_trod (by kernel_rfl) h0
      obtain ⟨i1, rfl, hi1⟩ := int_trod (by kernel_rfl) h1
      exact ⟨(i0, i1), rfl, hi0, hi1⟩) h
theorem notches_trod {n : Nat} {c : Value} {x : DataW H × List MemPlace} (h : DataW.trod enc Tryz.prog w base spare held n 77 [c] = some x) : ∃ l, Sl rSpot w w.heap.size c l :=
  sl_of_trod (R := rSpot) (e := 197) (by kernel_rfl) (by kernel_rfl) (by decide) (fun _ cs _ hl hy => by
    match cs, hl with
    | [c0, c1], _ =>
      obtain ⟨_, _, h0⟩ := field_trod (i := 0) (ft := 3) hy (by kernel_rfl) rfl
      obtain ⟨_, _, h1⟩ := field_trod (i := 1) (ft := 3) hy (by kernel_rfl) rfl
      obtain ⟨i0, rfl, hi0⟩ := int_trod (by kernel_rfl) h0
      obtain ⟨i1, rfl, hi1⟩ := int_trod (by kernel_rfl) h1
      exact ⟨(i0, i1), rfl, hi0, hi1⟩) h
theorem edges_trod {n : Nat} {c : Value} {x : DataW H × List MemPlace} (h : DataW.trod enc Tryz.prog w base spare held n 76 [c] = some x) : ∃ l, Sl rEdge w w.heap.size c l :=
  sl_of_trod (R := rEdge) (e := 132) (by kernel_rfl) (by kernel_rfl) (by decide) (fun _ cs _ hl hy => by
    match cs, hl with
    | [c0, c1], _ =>
      obtain ⟨_, _, h0⟩ := field_trod (i := 0) (ft := 9) hy (by kernel_rfl) rfl
      obtain ⟨_, _, h1⟩ := field_trod (i := 1) (ft := 78) hy (by kernel_rfl) rfl
      obtain ⟨s, rfl, hs⟩ := str_trod (by kernel_rfl) h0
      obtain ⟨l, hl⟩ := spots_trod h1
      exact ⟨(s, l), c1, rfl, hs, hl⟩) h
theorem piece_trod {n : Nat} {cs : List Value} {x : DataW H × List MemPlace} (hl : cs.length = 7) (h : DataW.trod enc Tryz.prog w base spare held n 80 cs = some x) : ∃ o, rPiece.rep w (fun b => b < w.heap.size) o cs := by
  match cs, hl with
  | [c0, c1, c2, c3, c4, c5, c6], _ =>
    obtain ⟨_, _, h0⟩ := field_trod (i := 0) (ft := 9) h (by kernel_rfl) rfl
    obtain ⟨_, _, h1⟩ := field_trod (i := 1) (ft := 76) h (by kernel_rfl) rfl
    obtain ⟨_, _, h2⟩ := field_trod (i := 2) (ft := 3) h (by kernel_rfl) rfl
    obtain ⟨_, _, h3⟩ := field_trod (i := 3) (ft := 77) h (by kernel_rfl) rfl
    obtain ⟨_, _, h4⟩ := field_trod (i := 4) (ft := 78) h (by kernel_rfl) rfl
    obtain ⟨_, _, h5⟩ := field_trod (i := 5) (ft := 23) h (by kernel_rfl) rfl
    obtain ⟨_, _, h6⟩ := field_trod (i := 6) (ft := 4) h (by kernel_rfl) rfl
    obtain ⟨s, rfl, hs⟩ := str_trod (by kernel_rfl) h0
    obtain ⟨le, he⟩ := edges_trod h1
    obtain ⟨i2, rfl, hi2⟩ := int_trod (by kernel_rfl) h2
    obtain ⟨ln, hn⟩ := notches_trod h3
    obtain ⟨lc, hc⟩ := spots_trod h4
    obtain ⟨lw, hw⟩ := ints23 h5
    obtain ⟨b6, rfl⟩ := bool_trod (by kernel_rfl) h6
    obtain ⟨Ae, ce, rfl, _⟩ := len_small he
    obtain ⟨An, cn, rfl, _⟩ := len_small hn
    obtain ⟨Ac, cc, rfl, _⟩ := len_small hc
    obtain ⟨Aw, cw, rfl, _⟩ := len_small hw
    exact ⟨⟨s, le, i2, ln, lc, lw, b6⟩, Ae, ce, An, cn, Ac, cc, Aw, cw, rfl, ⟨hs, hi2⟩, he, hn, hc, hw⟩
theorem use_trod {n : Nat} {cs : List Value} {x : DataW H × List MemPlace} (hl : cs.length = 3) (h : DataW.trod enc Tryz.prog w base spare held n 134 cs = some x) : ∃ o, rUse.rep w (fun b => b < w.heap.size) o cs := by
  match cs, hl with
  | [c0, c1, c2], _ =>
    obtain ⟨_, _, h0⟩ := field_trod (i := 0) (ft := 3) h (by kernel_rfl) rfl
    obtain ⟨_, _, h1⟩ := field_trod (i := 1) (ft := 3) h (by kernel_rfl) rfl
    obtain ⟨_, _, h2⟩ := field_trod (i := 2) (ft := 4) h (by kernel_rfl) rfl
    obtain ⟨i0, rfl, hi0⟩ := int_trod (by kernel_rfl) h0
    obtain ⟨i1, rfl, hi1⟩ := int_trod (by kernel_rfl) h1
    obtain ⟨b2, rfl⟩ := bool_trod (by kernel_rfl) h2
    exact ⟨(i0, i1, b2), rfl, hi0, hi1⟩
theorem seam_trod {n : Nat} {cs : List Value} {x : DataW H × List MemPlace} (hl : cs.length = 6) (h : DataW.trod enc Tryz.prog w base spare held n 137 cs = some x) : ∃ o, rSeam.rep w (fun b => b < w.heap.size) o cs := by
  match cs, hl with
  | [c0, c1, c2, c3, c4, c5], _ =>
    obtain ⟨_, _, h0⟩ := field_trod (i := 0) (ft := 3) h (by kernel_rfl) rfl
    obtain ⟨_, _, h1⟩ := field_trod (i := 1) (ft := 3) h (by kernel_rfl) rfl
    obtain ⟨_, _, h2⟩ := field_trod (i := 2) (ft := 3) h (by kernel_rfl) rfl
    obtain ⟨_, _, h3⟩ := field_trod (i := 3) (ft := 3) h (by kernel_rfl) rfl
    obtain ⟨_, _, h4⟩ := field_trod (i := 4) (ft := 4) h (by kernel_rfl) rfl
    obtain ⟨_, _, h5⟩ := field_trod (i := 5) (ft := 3) h (by kernel_rfl) rfl
    obtain ⟨i0, rfl, hi0⟩ := int_trod (by kernel_rfl) h0
    obtain ⟨i1, rfl, hi1⟩ := int_trod (by kernel_rfl) h1
    obtain ⟨i2, rfl, hi2⟩ := int_trod (by kernel_rfl) h2
    obtain ⟨i3, rfl, hi3⟩ := int_trod (by kernel_rfl) h3
    obtain ⟨b4, rfl⟩ := bool_trod (by kernel_rfl) h4
    obtain ⟨i5, rfl, hi5⟩ := int_trod (by kernel_rfl) h5
    exact ⟨(i0, i1, i2, i3, b4, i5), rfl⟩
theorem sty_trod {n : Nat} {cs : List Value} {x : DataW H × List MemPlace} (hl : cs.length = 7) (h : DataW.trod enc Tryz.prog w base spare held n 29 cs = some x) : ∃ s, StyV w w.heap.size (.agg cs.toArray) s := by
  match cs, hl with
  | [c0, c1, c2, c3, c4, c5, c6], _ =>
    obtain ⟨_, _, h0⟩ := field_trod (i := 0) (ft := 9) h (by kernel_rfl) rfl
    obtain ⟨_, _, h1⟩ := field_trod (i := 1) (ft := 22) h (by kernel_rfl) rfl
    obtain ⟨_, _, h2⟩ := field_trod (i := 2) (ft := 23) h (by kernel_rfl) rfl
    obtain ⟨_, _, h3⟩ := field_trod (i := 3) (ft := 24) h (by kernel_rfl) rfl
    obtain ⟨_, _, h4⟩ := field_trod (i := 4) (ft := 25) h (by kernel_rfl) rfl
    obtain ⟨_, _, h5⟩ := field_trod (i := 5) (ft := 26) h (by kernel_rfl) rfl
    obtain ⟨_, _, h6⟩ := field_trod (i := 6) (ft := 27) h (by kernel_rfl) rfl
    obtain ⟨s, rfl, hs⟩ := str_trod (by kernel_rfl) h0
    obtain ⟨l1, k1⟩ := strs_trod h1
    obtain ⟨l2, k2⟩ := ints23 h2
    obtain ⟨l3, k3⟩ := sl_of_trod (R := rPiece) (e := 80) (by kernel_rfl) (by kernel_rfl) (by decide) (fun _ _ _ hl hy => piece_trod hl hy) h3
    obtain ⟨l4, k4⟩ := sl_of_trod (R := rUse) (e := 134) (by kernel_rfl) (by kernel_rfl) (by decide) (fun _ _ _ hl hy => use_trod hl hy) h4
    obtain ⟨l5, k5⟩ := sl_of_trod (R := rSeam) (e := 137) (by kernel_rfl) (by kernel_rfl) (by decide) (fun _ _ _ hl hy => seam_trod hl hy) h5
    obtain ⟨l6, k6⟩ := ops_trod h6
    obtain ⟨A1, d1, rfl, _⟩ := len_small k1
    obtain ⟨A2, d2, rfl, _⟩ := len_small k2
    obtain ⟨A3, d3, rfl, _⟩ := len_small k3
    obtain ⟨A4, d4, rfl, _⟩ := len_small k4
    obtain ⟨A5, d5, rfl, _⟩ := len_small k5
    obtain ⟨A6, d6, rfl, _⟩ := len_small k6
    exact ⟨⟨s, l1, l2, l3, l4, l5, l6⟩, A1, d1, A2, d2, A3, d3, A4, d4, A5, d5, A6, d6, rfl, hs, k1, k2, k3, k4, k5, k6⟩
theorem sty_Trod {v : Value} {d : DataW H} {p : List MemPlace} {cs : Array Value} (hv : v = .agg cs) (hn : cs.size = 7) (h : DataW.Trod enc Tryz.prog w base spare held 29 v d p) : ∃ s, StyV w w.heap.size v s := by
  subst hv
  obtain ⟨fuel, hf⟩ := h
  exact sty_trod (cs := cs.toList) (by simpa using hn) hf
end
end Go.Proofs.YtckhibfbdnoigaaGreat
