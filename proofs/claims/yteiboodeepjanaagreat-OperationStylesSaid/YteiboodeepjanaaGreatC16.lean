/- Contracts: styles. -/
import Derived.Test.YteiboodeepjanaaGreatC15
namespace Go.Proofs.YteiboodeepjanaaGreat
open Go.RowKit
set_option maxRecDepth 100000
set_option maxHeartbeats 1000000

def useE (s : Sty) (k : Nat) : Int := match s.uses[k]? with
  | some u => if u.1 < 0 ∨ u.1 ≥ s.pieces.length ∨ u.2.1 < 1 ∨ u.2.1 > 4 then 3 else 0
  | none => 0
def seamE (s : Sty) (k : Nat) : Int := match s.seams[k]? with
  | some u => if isEdgeB s u.1 u.2.1 = true ∧ isEdgeB s u.2.2.1 u.2.2.2.1 = true then if u.2.2.2.2.2 < 0 then 1 else 0 else 3
  | none => 0
def pieceAt (s : Sty) (pl : Pc → Int) (k : Nat) : Int := match s.pieces[k]? with
  | some p => pieceE (s.pieces.take k) p (pl p)
  | none => 0
def styleE (s : Sty) (pl : Pc → Int) : Int := if ¬ wholeE s = 0 then wholeE s else if ¬ firstE (pieceAt s pl) s.pieces.length = 0 then firstE (pieceAt s pl) s.pieces.length else
  if ¬ firstE (useE s) s.uses.length = 0 then firstE (useE s) s.uses.length else firstE (seamE s) s.seams.length
def plE (p : Pc) : Int := placedE p.edges p.corners p.notches
def pl0 (p : Pc) : Int := gradedE p.edges p.corners
theorem plE_none {p : Pc} (h : p.notches = []) : plE p = pl0 p := by
  unfold plE pl0 placedE
  rw [h]
  by_cases h0 : gradedE p.edges p.corners = 0
  · rw [h0]; rfl
  · rw [if_pos h0]
theorem styleE_none {s : Sty} (hno : ∀ p ∈ s.pieces, p.notches = []) : styleE s plE = styleE s pl0 := by
  have : pieceAt s plE = pieceAt s pl0 := by
    funext k
    unfold pieceAt
    cases h : s.pieces[k]? with
    | none => rfl
    | some p => dsimp only; rw [plE_none (hno p (List.mem_of_getElem? h))]
  unfold styleE
  rw [this]

theorem style_ok (w : World) (v : Value) (s : Sty) (hs : StyV w w.heap.size v s) : Ok Tryz.prog 28 [v].toArray w fun r _ => r = .int .i64 (styleE s plE) := by
  have hs' := hs
  obtain ⟨As, cs, Am, cm, Ap, cp, Au, cu, Ae, ce, Ao, co, rfl, hnm, h1, h2, h3, h4, h5, h6⟩ := hs
  obtain ⟨_, _, hv, hpc, hpm⟩ := len_small h3
  injection hv with e1 e2 e3
  subst e1 e3
  obtain ⟨_, _, hv, huc, hum⟩ := len_small h4
  injection hv with e1 e2 e3
  subst e1 e3
  obtain ⟨_, _, hv, hec, hem⟩ := len_small h5
  injection hv with e1 e2 e3
  subst e1 e3
  refine ok_enter Tryz.func28 rfl Tryz.ntmps28 rfl ?_
  focus (refine gc_seq ?_; refine gc_region ?_; refine gw_boxd (v := .agg _) rfl rfl (fun _ => ?_); apply gw_d; exact det_m rfl rfl (by conv => (lhs; whnf)); refine gw_nil ?_; refine gx_next ?_; refine gc_seq ?_; refine gc_seq ?_; refine gc_region ?_; apply gw_d; exact w_load_boxN rfl rfl rfl .here rfl; apply gw_d; exact w_call rfl rfl (fun w s => whole_ok w _ _ (hs'.later s)) rfl; apply gw_d; exact det_m rfl rfl (by conv => (lhs; whnf)); refine gw_nil ?_; refine gx_next ?_; refine gc_seq ?_; refine gc_region ?_; apply gw_d; exact det_m rfl rfl (by conv => (lhs; whnf)); apply gw_d; exact det_cmp rfl rfl rfl rfl rfl; refine gw_nil ?_; refine gx_next ?_)
  refine gc_if_dec rfl (fun h => ?_) (fun h => ?_)
  · focus (refine gc_seq ?_; refine gc_region ?_; apply gw_d; exact det_m rfl rfl (by conv => (lhs; whnf)); apply gw_d; exact det_m rfl rfl (by conv => (lhs; whnf)); refine gw_nil ?_; refine gx_next ?_; refine gc_ret ?_; refine gx_then_ret ?_)
    refine gx_ret1 (v := .int _ _) rfl rfl (fun _ _ => ?_)
    unfold styleE
    rw [if_pos h]
  focus (refine gc_skip ?_; refine gx_next ?_; refine gc_seq ?_; refine gc_seq ?_; refine gc_region ?_; apply gw_d; exact w_field rfl rfl rfl; apply gw_d; exact w_load_box rfl rfl rfl .here rfl; apply gw_d; exact w_len rfl rfl rfl; apply gw_d; exact det_m rfl rfl (by conv => (lhs; whnf)); refine gw_nil ?_; refine gx_next ?_; refine gc_block ?_)
  refine gc_loopK (σ := Nat) [20, 21, 22, 23, 5, 4, 24, 25, 26, 27, 28, 29, 6, 30, 31, 32, 2, 33, 19] (fun k => [(19, .int .i64 k)]) (fun k => k ≤ s.pieces.length ∧ firstE (pieceAt s plE) k = 0) (fun k => s.pieces.length - k) 0 ⟨Nat.zero_le _, rfl⟩ ⟨rfl, trivial⟩ ?_
  rintro k base ⟨hk, hI⟩
  focus (refine gc_seq ?_; refine gc_region ?_; apply gw_d; exact det_cmp rfl rfl rfl rfl rfl; refine gw_nil ?_; refine gx_next ?_; refine gc_seq ?_)
  refine gc_if_dec rfl (fun h9 => ?_) (fun h9 => ?_)
  · have hlt : k < s.pieces.length := by omega
    obtain ⟨ad, _, hv, _, _, hb, hcell⟩ := h3.at' 7 rfl (by omega)
    injection hv with e1 e2 e3
    subst e1 e3
    obtain ⟨cs', hce, Ae', ce', An', cn', Ac', cc', Aw', cw', rfl, ⟨q1, _⟩, q2, q3, q4, q5⟩ := hcell k hlt
    unfold maxLen at q1
    have q2' : Sl rEdge w w.heap.size (.slice Ae' s.pieces[k].edges.length ce') s.pieces[k].edges := q2
    have q3' : Sl rSpot w w.heap.size (.slice An' s.pieces[k].notches.length cn') s.pieces[k].notches := q3
    have q4' : Sl rSpot w w.heap.size (.slice Ac' s.pieces[k].corners.length cc') s.pieces[k].corners := q4
    have q5' : Sl rInt w w.heap.size (.slice Aw' s.pieces[k].widths.length cw') s.pieces[k].widths := q5
    have q6' := h3.take (m := k) (by omega)
    focus (refine gc_skip ?_; refine gx_next ?_; refine gc_seq ?_; refine gc_block ?_; refine gc_seq ?_; refine gc_region ?_; apply gw_d; exact det_m rfl rfl (by conv => (lhs; whnf)); apply gw_d; exact w_index rfl rfl rfl rfl (by with_reducible exact rfl) (by omega); apply gw_d; exact w_load_elem rfl rfl rfl (by assumption) (by assumption) (by rfl); refine w_alloc rfl (fun _ => ?_); apply gw_d; exact det_m rfl rfl (by conv => (lhs; whnf)); refine w_store_all rfl rfl rfl rfl rfl .here rfl ?_; refine gw_nil ?_; refine gx_next ?_; refine gc_seq ?_)
    refine gc_draw 6 (by kernel_rfl) (by kernel_rfl) ?_
    have hC : ∀ (L : List Res) (w' : World), St w L w' → Ok Tryz.prog 41 [.slice (some ad) k cp, .agg #[.string s.pieces[k].name, .slice Ae' s.pieces[k].edges.length ce', .int .i64 s.pieces[k].grain, .slice An' s.pieces[k].notches.length cn', .slice Ac' s.pieces[k].corners.length cc', .slice Aw' s.pieces[k].widths.length cw', .bool s.pieces[k].mt]].toArray w' fun r _ => r = .int .i64 (pieceE (s.pieces.take k) s.pieces[k] (plE s.pieces[k])) := fun L w s' => checkPiece_ok w (.slice (some ad) k cp) (s.pieces.take k) s.pieces[k] Ae' An' Ac' Aw' ce' cn' cc' cw' (q6'.later s') (q2'.later s') (q4'.later s') (q3'.later s') (q5'.later s') (by omega)
    focus (apply gd_d; exact w_field rfl rfl rfl; apply gd_d; exact w_load_box rfl rfl rfl (.there .here) rfl; apply gd_d; exact det_m rfl rfl (by conv => (lhs; whnf)); apply gd_d; exact w_cut_hi rfl rfl rfl rfl (by with_reducible exact rfl) (by omega); apply gd_d; exact w_load_boxN rfl rfl rfl .here rfl; apply gd_d; exact w_call rfl rfl (hC _) rfl; refine gd_nil ?_; apply gw_d; exact det_m rfl rfl (by conv => (lhs; whnf)); refine gw_nil ?_; refine gx_next ?_; refine gc_seq ?_; refine gc_region ?_; apply gw_d; exact det_m rfl rfl (by conv => (lhs; whnf)); apply gw_d; exact det_cmp rfl rfl rfl rfl rfl; refine gw_nil ?_; refine gx_next ?_)
    have hat : pieceAt s plE k = pieceE (s.pieces.take k) s.pieces[k] (plE s.pieces[k]) := by unfold pieceAt; rw [List.getElem?_eq_getElem hlt]
    refine gc_if_dec rfl (fun h => ?_) (fun h => ?_)
    · focus (refine gc_seq ?_; refine gc_region ?_; apply gw_d; exact det_m rfl rfl (by conv => (lhs; whnf)); apply gw_d; exact det_m rfl rfl (by conv => (lhs; whnf)); refine gw_nil ?_; refine gx_next ?_; refine gc_ret ?_; refine gx_block_ret ?_; refine gx_then_ret ?_; refine gx_then_ret ?_; refine gx_block_ret ?_; refine gx_then_ret ?_)
      refine gx_ret1 (v := .int _ _) rfl rfl (fun _ _ => ?_)
      rw [← hat] at h ⊢
      unfold styleE
      rw [if_neg ‹_›, firstE_stop hI h hlt, if_pos h]
    · focus (refine gc_skip ?_; refine gx_block ?_; refine gx_next ?_; refine gc_region ?_; apply gw_d; exact det_ar rfl rfl rfl rfl rfl (by omega); apply gw_d; exact det_m rfl rfl (by conv => (lhs; whnf)); refine gw_nil ?_)
      exact gx_round (k + 1) ⟨by omega, firstE_snoc hI (by rw [hat]; simpa using h)⟩ (by omega) (by repeat (first | exact Keeps.refl | refine Keeps.upd rfl ?_ | refine Keeps.sets rfl ?_ | refine Keeps.havoc rfl ?_)) ⟨rfl, trivial⟩ Sub.tail
  obtain rfl : k = s.pieces.length := by omega
  focus (refine gc_exit ?_; refine gx_then_exit ?_; refine gx_then_exit ?_; refine gx_block_exit ?_; refine gx_next ?_; refine gc_seq ?_; refine gc_seq ?_; refine gc_region ?_; apply gw_d; exact w_field rfl rfl rfl; apply gw_d; exact w_load_box rfl rfl rfl .here rfl; apply gw_d; exact w_len rfl rfl rfl; apply gw_d; exact det_m rfl rfl (by conv => (lhs; whnf)); refine gw_nil ?_; refine gx_next ?_; refine gc_block ?_)
  refine gc_loopK (σ := Nat) [38, 39, 40, 8, 41, 42, 43, 44, 45, 46, 47, 48, 49, 50, 51, 52, 53, 54, 55, 56, 57, 58, 59, 60, 61, 2, 62, 37] (fun k => [(37, .int .i64 k)]) (fun k => k ≤ s.uses.length ∧ firstE (useE s) k = 0) (fun k => s.uses.length - k) 0 ⟨Nat.zero_le _, rfl⟩ ⟨rfl, trivial⟩ ?_
  rintro k base2 ⟨hk2, hJ⟩
  focus (refine gc_seq ?_; refine gc_region ?_; apply gw_d; exact det_cmp rfl rfl rfl rfl rfl; refine gw_nil ?_; refine gx_next ?_; refine gc_seq ?_)
  refine gc_if_dec rfl (fun h8 => ?_) (fun h8 => ?_)
  · have hlt : k < s.uses.length := by omega
    obtain ⟨ad, _, hv, _, _, hb, hcell⟩ := h4.at' 3 rfl (by omega)
    injection hv with e1 e2 e3
    subst e1 e3
    obtain ⟨cs', hce, rfl, _⟩ := hcell k hlt
    have hat : useE s k = if s.uses[k].1 < 0 ∨ s.uses[k].1 ≥ s.pieces.length ∨ s.uses[k].2.1 < 1 ∨ s.uses[k].2.1 > 4 then 3 else 0 := by unfold useE; rw [List.getElem?_eq_getElem hlt]
    have hbad : (s.uses[k].1 < 0 ∨ s.uses[k].1 ≥ s.pieces.length ∨ s.uses[k].2.1 < 1 ∨ s.uses[k].2.1 > 4) → styleE s plE = 3 := fun h => by
      rw [if_pos h] at hat
      unfold styleE
      rw [if_neg ‹_›, if_neg (by rw [hI]; decide), firstE_stop hJ (by rw [hat]; decide) hlt, hat]
      exact if_pos (by decide)
    focus (refine gc_skip ?_; refine gx_next ?_; refine gc_seq ?_; refine gc_block ?_; refine gc_seq ?_; refine gc_region ?_; apply gw_d; exact w_index rfl rfl rfl rfl (by with_reducible exact rfl) (by omega); apply gw_d; exact w_load_elem rfl rfl rfl (by assumption) (by assumption) (by rfl); refine w_alloc rfl (fun _ => ?_); refine w_store_all rfl rfl rfl rfl rfl .here rfl ?_; refine gw_nil ?_; refine gx_next ?_; refine gc_seq ?_; refine gc_region ?_; apply gw_d; exact w_field rfl rfl rfl; apply gw_d; exact w_load_box rfl rfl rfl .here rfl; apply gw_d; exact det_cmp rfl rfl rfl rfl rfl; apply gw_d; exact det_m rfl rfl (by conv => (lhs; whnf)); refine gw_guard_dec rfl rfl (fun _ => ?_) (fun _ => ?_); apply gw_d; exact det_not rfl; apply gw_d; exact det_not rfl; apply gw_d; exact det_not rfl; apply gw_d; exact det_not rfl; apply gw_d; exact det_not rfl; apply gw_d; exact det_not rfl; apply gw_d; exact det_pick_t (v := .bool _) rfl rfl rfl rfl; apply gw_d; exact det_m rfl rfl (by conv => (lhs; whnf)); apply gw_d; exact det_not rfl; apply gw_d; exact det_not rfl; apply gw_d; exact det_not rfl; apply gw_d; exact det_pick_t (v := .bool _) rfl rfl rfl rfl; apply gw_d; exact det_m rfl rfl (by conv => (lhs; whnf)); apply gw_d; exact det_not rfl; apply gw_d; exact det_not rfl; apply gw_d; exact det_not rfl; apply gw_d; exact det_pick_t (v := .bool _) rfl rfl rfl rfl; refine gw_nil ?_; refine gx_next ?_; refine gc_if_true rfl ?_; refine gc_seq ?_; refine gc_region ?_; apply gw_d; exact det_m rfl rfl (by conv => (lhs; whnf)); refine gw_nil ?_; refine gx_next ?_; refine gc_ret ?_; refine gx_block_ret ?_; refine gx_then_ret ?_; refine gx_then_ret ?_; refine gx_block_ret ?_; refine gx_then_ret ?_; rotate_left; apply gw_d; exact w_field rfl rfl rfl; apply gw_d; exact w_load_box rfl rfl rfl .here rfl; apply gw_d; exact w_field rfl rfl rfl; apply gw_d; exact w_load_box rfl rfl rfl (.there .here) rfl; apply gw_d; exact w_len rfl rfl rfl; apply gw_d; exact det_cmp rfl rfl rfl rfl rfl; apply gw_d; exact det_pick_f (v := .bool _) rfl rfl rfl rfl; apply gw_d; exact det_m rfl rfl (by conv => (lhs; whnf)); refine gw_guard_dec rfl rfl (fun _ => ?_) (fun _ => ?_); apply gw_d; exact det_not rfl; apply gw_d; exact det_not rfl; apply gw_d; exact det_not rfl; apply gw_d; exact det_pick_t (v := .bool _) rfl rfl rfl rfl; apply gw_d; exact det_m rfl rfl (by conv => (lhs; whnf)); apply gw_d; exact det_not rfl; apply gw_d; exact det_not rfl; apply gw_d; exact det_not rfl; apply gw_d; exact det_pick_t (v := .bool _) rfl rfl rfl rfl; refine gw_nil ?_; refine gx_next ?_; refine gc_if_true rfl ?_; refine gc_seq ?_; refine gc_region ?_; apply gw_d; exact det_m rfl rfl (by conv => (lhs; whnf)); refine gw_nil ?_; refine gx_next ?_; refine gc_ret ?_; refine gx_block_ret ?_; refine gx_then_ret ?_; refine gx_then_ret ?_; refine gx_block_ret ?_; refine gx_then_ret ?_; rotate_left; apply gw_d; exact w_field rfl rfl rfl; apply gw_d; exact w_load_box rfl rfl rfl .here rfl; apply gw_d; exact det_cmp rfl rfl rfl rfl rfl; apply gw_d; exact det_pick_f (v := .bool _) rfl rfl rfl rfl; apply gw_d; exact det_m rfl rfl (by conv => (lhs; whnf)); refine gw_guard_dec rfl rfl (fun _ => ?_) (fun _ => ?_); apply gw_d; exact det_not rfl; apply gw_d; exact det_not rfl; apply gw_d; exact det_not rfl; apply gw_d; exact det_pick_t (v := .bool _) rfl rfl rfl rfl; refine gw_nil ?_; refine gx_next ?_; refine gc_if_true rfl ?_; refine gc_seq ?_; refine gc_region ?_; apply gw_d; exact det_m rfl rfl (by conv => (lhs; whnf)); refine gw_nil ?_; refine gx_next ?_; refine gc_ret ?_; refine gx_block_ret ?_; refine gx_then_ret ?_; refine gx_then_ret ?_; refine gx_block_ret ?_; refine gx_then_ret ?_; rotate_left; apply gw_d; exact w_field rfl rfl rfl; apply gw_d; exact w_load_box rfl rfl rfl .here rfl; apply gw_d; exact det_cmp rfl rfl rfl rfl rfl; apply gw_d; exact det_pick_f (v := .bool _) rfl rfl rfl rfl; refine gw_nil ?_; refine gx_next ?_; refine gc_if_dec rfl (fun _ => ?_) (fun _ => ?_); refine gc_seq ?_; refine gc_region ?_; apply gw_d; exact det_m rfl rfl (by conv => (lhs; whnf)); refine gw_nil ?_; refine gx_next ?_; refine gc_ret ?_; refine gx_block_ret ?_; refine gx_then_ret ?_; refine gx_then_ret ?_; refine gx_block_ret ?_; refine gx_then_ret ?_; rotate_left; refine gc_skip ?_; refine gx_block ?_; refine gx_next ?_; refine gc_region ?_; apply gw_d; exact det_ar rfl rfl rfl rfl rfl (by omega); apply gw_d; exact det_m rfl rfl (by conv => (lhs; whnf)); refine gw_nil ?_; rotate_left)
    · refine gx_ret1 (v := .int _ _) rfl rfl (fun _ _ => ?_)
      rw [hbad (by omega)]
    · refine gx_ret1 (v := .int _ _) rfl rfl (fun _ _ => ?_)
      rw [hbad (by omega)]
    · refine gx_ret1 (v := .int _ _) rfl rfl (fun _ _ => ?_)
      rw [hbad (by omega)]
    · refine gx_ret1 (v := .int _ _) rfl rfl (fun _ _ => ?_)
      rw [hbad (by omega)]
    · exact gx_round (k + 1) ⟨by omega, firstE_snoc hJ (by rw [hat, if_neg (by omega)])⟩ (by omega) (by repeat (first | exact Keeps.refl | refine Keeps.upd rfl ?_ | refine Keeps.sets rfl ?_ | refine Keeps.havoc rfl ?_)) ⟨rfl, trivial⟩ Sub.tail
  obtain rfl : k = s.uses.length := by omega
  focus (refine gc_exit ?_; refine gx_then_exit ?_; refine gx_then_exit ?_; refine gx_block_exit ?_; refine gx_next ?_; refine gc_seq ?_; refine gc_seq ?_; refine gc_region ?_; apply gw_d; exact w_field rfl rfl rfl; apply gw_d; exact w_load_box rfl rfl rfl .here rfl; apply gw_d; exact w_len rfl rfl rfl; apply gw_d; exact det_m rfl rfl (by conv => (lhs; whnf)); refine gw_nil ?_; refine gx_next ?_; refine gc_block ?_)
  refine gc_loopK (σ := Nat) [67, 68, 69, 10, 70, 71, 72, 73, 74, 75, 76, 77, 78, 79, 80, 81, 82, 83, 84, 85, 2, 86, 87, 88, 89, 66] (fun k => [(66, .int .i64 k)]) (fun k => k ≤ s.seams.length ∧ firstE (seamE s) k = 0) (fun k => s.seams.length - k) 0 ⟨Nat.zero_le _, rfl⟩ ⟨rfl, trivial⟩ ?_
  rintro k base3 ⟨hk3, hK⟩
  focus (refine gc_seq ?_; refine gc_region ?_; apply gw_d; exact det_cmp rfl rfl rfl rfl rfl; refine gw_nil ?_; refine gx_next ?_; refine gc_seq ?_)
  refine gc_if_dec rfl (fun h7 => ?_) (fun h7 => ?_)
  · have hlt : k < s.seams.length := by omega
    obtain ⟨ad, _, hv, _, _, hb, hcell⟩ := h5.at' 6 rfl (by omega)
    injection hv with e1 e2 e3
    subst e1 e3
    obtain ⟨cs', hce, rfl⟩ := hcell k hlt
    have hat : seamE s k = if isEdgeB s s.seams[k].1 s.seams[k].2.1 = true ∧ isEdgeB s s.seams[k].2.2.1 s.seams[k].2.2.2.1 = true then if s.seams[k].2.2.2.2.2 < 0 then 1 else 0 else 3 := by unfold seamE; rw [List.getElem?_eq_getElem hlt]
    have hstop : ∀ x : Int, seamE s k = x → ¬ x = 0 → styleE s plE = x := fun x hx h => by
      unfold styleE
      rw [if_neg ‹_›, if_neg (by rw [hI]; decide), if_neg (by rw [hJ]; decide), firstE_stop hK (by rw [hx]; exact h) hlt, hx]
    focus (refine gc_skip ?_; refine gx_next ?_; refine gc_seq ?_; refine gc_block ?_; refine gc_seq ?_; refine gc_region ?_; apply gw_d; exact w_index rfl rfl rfl rfl (by with_reducible exact rfl) (by omega); apply gw_d; exact w_load_elem rfl rfl rfl (by assumption) (by assumption) (by rfl); refine w_alloc rfl (fun _ => ?_); refine w_store_all rfl rfl rfl rfl rfl .here rfl ?_; refine gw_nil ?_; refine gx_next ?_; refine gc_seq ?_; refine gc_seq ?_; refine gc_region ?_; apply gw_d; exact w_load_boxN rfl rfl rfl (.there .here) rfl; apply gw_d; exact w_field rfl rfl rfl; apply gw_d; exact w_load_box rfl rfl rfl .here rfl; apply gw_d; exact w_field rfl rfl rfl; apply gw_d; exact w_load_box rfl rfl rfl .here rfl; apply gw_d; exact w_call rfl rfl (fun w s => isEdge_ok w _ _ _ _ (hs'.later s)) rfl; apply gw_d; exact det_not_ rfl rfl rfl; apply gw_d; exact det_m rfl rfl (by conv => (lhs; whnf)); refine gw_guard rfl rfl (fun _ => ?_) (fun _ => ?_); apply gw_d; exact det_not rfl; apply gw_d; exact det_not rfl; apply gw_d; exact det_not rfl; apply gw_d; exact det_not rfl; apply gw_d; exact det_not rfl; apply gw_d; exact det_not rfl; apply gw_d; exact det_not rfl; apply gw_d; exact det_pick_t (v := .bool _) rfl rfl rfl rfl; refine gw_nil ?_; refine gx_next ?_; refine gc_if_true rfl ?_; refine gc_seq ?_; refine gc_region ?_; apply gw_d; exact det_m rfl rfl (by conv => (lhs; whnf)); refine gw_nil ?_; refine gx_next ?_; refine gc_ret ?_; refine gx_then_ret ?_; refine gx_block_ret ?_; refine gx_then_ret ?_; refine gx_then_ret ?_; refine gx_block_ret ?_; refine gx_then_ret ?_; rotate_left; apply gw_d; exact w_load_boxN rfl rfl rfl (.there .here) rfl; apply gw_d; exact w_field rfl rfl rfl; apply gw_d; exact w_load_box rfl rfl rfl .here rfl; apply gw_d; exact w_field rfl rfl rfl; apply gw_d; exact w_load_box rfl rfl rfl .here rfl; apply gw_d; exact w_call rfl rfl (fun w s => isEdge_ok w _ _ _ _ (hs'.later s)) rfl; apply gw_d; exact det_not_ rfl rfl rfl; apply gw_d; exact det_pick_f (v := .bool _) rfl rfl rfl rfl; refine gw_nil ?_; refine gx_next ?_; refine gc_if rfl (fun _ => ?_) (fun _ => ?_); refine gc_seq ?_; refine gc_region ?_; apply gw_d; exact det_m rfl rfl (by conv => (lhs; whnf)); refine gw_nil ?_; refine gx_next ?_; refine gc_ret ?_; refine gx_then_ret ?_; refine gx_block_ret ?_; refine gx_then_ret ?_; refine gx_then_ret ?_; refine gx_block_ret ?_; refine gx_then_ret ?_; rotate_left; refine gc_skip ?_; refine gx_next ?_; refine gc_seq ?_; refine gc_region ?_; apply gw_d; exact w_field rfl rfl rfl; apply gw_d; exact w_load_box rfl rfl rfl .here rfl; apply gw_d; exact det_cmp rfl rfl rfl rfl rfl; refine gw_nil ?_; refine gx_next ?_; refine gc_if_dec rfl (fun _ => ?_) (fun _ => ?_); refine gc_seq ?_; refine gc_region ?_; apply gw_d; exact det_m rfl rfl (by conv => (lhs; whnf)); refine gw_nil ?_; refine gx_next ?_; refine gc_ret ?_; refine gx_block_ret ?_; refine gx_then_ret ?_; refine gx_then_ret ?_; refine gx_block_ret ?_; refine gx_then_ret ?_; rotate_left; refine gc_skip ?_; refine gx_block ?_; refine gx_next ?_; refine gc_region ?_; apply gw_d; exact det_ar rfl rfl rfl rfl rfl (by omega); apply gw_d; exact det_m rfl rfl (by conv => (lhs; whnf)); refine gw_nil ?_; rotate_left)
    · refine gx_ret1 (v := .int _ _) rfl rfl (fun _ _ => ?_)
      rename_i h _ _
      rw [hstop 3 (by rw [hat, if_neg (by simp at h; simp [h])]) (by decide)]
    · refine gx_ret1 (v := .int _ _) rfl rfl (fun _ _ => ?_)
      rename_i h _ _
      rw [hstop 3 (by rw [hat, if_neg (by simp at h; simp [h])]) (by decide)]
    · refine gx_ret1 (v := .int _ _) rfl rfl (fun _ _ => ?_)
      rw [hstop 1 (by rw [hat, if_pos (by simp_all), if_pos (by assumption)]) (by decide)]
    · exact gx_round (k + 1) ⟨by omega, firstE_snoc hK (by rw [hat, if_pos (by simp_all), if_neg (by assumption)])⟩ (by omega) (by repeat (first | exact Keeps.refl | refine Keeps.upd rfl ?_ | refine Keeps.sets rfl ?_ | refine Keeps.havoc rfl ?_)) ⟨rfl, trivial⟩ Sub.tail
  obtain rfl : k = s.seams.length := by omega
  focus (refine gc_exit ?_; refine gx_then_exit ?_; refine gx_then_exit ?_; refine gx_block_exit ?_; refine gx_next ?_; refine gc_seq ?_; refine gc_region ?_; apply gw_d; exact det_m rfl rfl (by conv => (lhs; whnf)); refine gw_nil ?_; refine gx_next ?_; refine gc_ret ?_)
  refine gx_ret1 (v := .int _ _) rfl rfl (fun _ _ => ?_)
  unfold styleE
  rw [if_neg ‹_›, if_neg (by rw [hI]; decide), if_neg (by rw [hJ]; decide), hK]
theorem style0_ok (w : World) (v : Value) (s : Sty) (hs : StyV w w.heap.size v s) (hno : ∀ p ∈ s.pieces, p.notches = []) : Ok Tryz.prog 28 [v].toArray w fun r _ => r = .int .i64 (styleE s pl0) := by
  rw [← styleE_none hno]
  exact style_ok w v s hs
end Go.Proofs.YteiboodeepjanaaGreat
