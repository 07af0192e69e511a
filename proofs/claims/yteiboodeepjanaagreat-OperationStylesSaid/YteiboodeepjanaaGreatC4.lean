/- Contracts: polylines and polygons. -/
import Derived.Test.YteiboodeepjanaaGreatC3
namespace Go.Proofs.YteiboodeepjanaaGreat
open Go.RowKit
set_option maxRecDepth 100000

def gS (l : List (Int × Int)) (k : Nat) : Int × Int := l.getD k (0, 0)
theorem gS_get {l : List (Int × Int)} {k : Nat} (hk : k < l.length) : gS l k = l[k] := by
  unfold gS
  simp [hk]
theorem Sl.spot' {w : World} {B : Nat} {v : Value} {l : List (Int × Int)} (h : Sl rSpot w B v l) (hl : 0 < l.length) : ∃ ad c, v = .slice (some ad) l.length c ∧ l.length ≤ c ∧ l.length ≤ 9223372036854775807 ∧ ad.block < B ∧
    ∀ k (_ : k < l.length), ∀ j u, [Value.int .i64 (gS l k).1, Value.int .i64 (gS l k).2][j]? = some u → w.cell? (ad.add (k * 2 + j)) = some u := by
  obtain ⟨A, c, rfl, h1, h2, h3⟩ := h.spot
  obtain ⟨ad, rfl, hb, _⟩ := h3 0 hl
  refine ⟨ad, c, rfl, h1, h2, hb, fun k hk => ?_⟩
  obtain ⟨ad', he, _, hc, _⟩ := h3 k hk
  injection he with he
  subst he
  rw [gS_get hk]
  exact hc

theorem containsSpot_ok (w : World) (v : Value) (l : List (Int × Int)) (x y : Int) (hl : Sl rSpot w w.heap.size v l) :
    Ok Tryz.prog 129 [v, .agg #[.int .i64 x, .int .i64 y]].toArray w fun r _ => r = .bool (l.any (isP (x, y))) := by
  obtain ⟨A, c, rfl, _⟩ := hl.spot
  refine ok_enter Tryz.func129 rfl Tryz.ntmps129 rfl ?_
  focus (refine gc_seq ?_; refine gc_region ?_; refine gw_boxd (v := .agg _) rfl rfl (fun _ => ?_); apply gw_d; exact det_m rfl rfl (by conv => (lhs; whnf)); refine gw_nil ?_; refine gx_next ?_; refine gc_seq ?_; refine gc_region ?_; apply gw_d; exact det_m rfl rfl (by conv => (lhs; whnf)); apply gw_d; exact w_load_boxN rfl rfl rfl .here rfl; apply gw_d; exact w_call rfl rfl (fun w s => indexSpot_ok w _ l _ _ (hl.later s)) rfl; apply gw_d; exact det_cmp rfl rfl rfl rfl rfl; apply gw_d; exact det_m rfl rfl (by conv => (lhs; whnf)); refine gw_nil ?_; refine gx_next ?_; refine gc_ret ?_)
  refine gx_ret1 (v := .bool _) rfl rfl (fun _ _ => ?_)
  congr 1
  have := idx_nonneg (isP (x, y)) l
  by_cases h : l.any (isP (x, y)) = true
  · rw [h]; simp [this.2 h]
  · have h2 : ¬ 0 ≤ idxI (isP (x, y)) l := fun h' => h (this.1 h')
    simp only [Bool.not_eq_true] at h
    rw [h]; simp; omega

/-! ### Polylines -/
def stillB (l : List (Int × Int)) (n : Nat) : Bool := (List.range n).any fun i => decide (gS l i = gS l (i + 1))
def plineE (l : List (Int × Int)) : Int := if 40 < l.length then 5 else if l.length < 2 then 11 else if l.any outP = true then 3 else if stillB l (l.length - 1) = true then 11 else 0
theorem still_snoc {l : List (Int × Int)} {k : Nat} (h : stillB l k = false) (hp : ¬ gS l k = gS l (k + 1)) : stillB l (k + 1) = false := by
  unfold stillB at *
  rw [List.range_succ, List.any_append, h]
  simp [hp]
theorem still_yes {l : List (Int × Int)} {k n : Nat} (hk : k < n) (hp : gS l k = gS l (k + 1)) : stillB l n = true := by
  unfold stillB
  rw [List.any_eq_true]
  exact ⟨k, List.mem_range.2 hk, by simp [hp]⟩
theorem len_small {α : Type} {R : Rp α} {w : World} {B : Nat} {v : Value} {l : List α} (h : Sl R w B v l) : ∃ A c, v = .slice A l.length c ∧ l.length ≤ c ∧ l.length ≤ 9223372036854775807 := by
  obtain ⟨A, c, hv, h1, h2, _⟩ := h
  exact ⟨A, c, hv, h1, by unfold maxLen at h2; omega⟩

set_option maxHeartbeats 1000000 in
theorem polyline_ok (w : World) (v : Value) (l : List (Int × Int)) (hl : Sl rSpot w w.heap.size v l) : Ok Tryz.prog 87 [v].toArray w fun r _ => r = .int .i64 (plineE l) := by
  by_cases hlen : 2 ≤ l.length
  · obtain ⟨ad, c, rfl, hc, hm, hb, hcell⟩ := hl.spot' (by omega)
    refine ok_enter Tryz.func87 rfl Tryz.ntmps87 rfl ?_
    focus (refine gc_seq ?_; refine gc_region ?_; apply gw_d; exact det_m rfl rfl (by conv => (lhs; whnf)); refine gw_nil ?_; refine gx_next ?_; refine gc_seq ?_; refine gc_seq ?_; refine gc_region ?_; apply gw_d; exact det_m rfl rfl (by conv => (lhs; whnf)); apply gw_d; exact w_len rfl rfl rfl; apply gw_d; exact det_cmp rfl rfl rfl rfl rfl; refine gw_nil ?_; refine gx_next ?_; refine gc_if_dec rfl (fun _ => ?_) (fun _ => ?_); refine gc_seq ?_; refine gc_region ?_; apply gw_d; exact det_m rfl rfl (by conv => (lhs; whnf)); refine gw_nil ?_; refine gx_next ?_; refine gc_ret ?_; refine gx_then_ret ?_; rotate_left; refine gc_skip ?_; refine gx_next ?_; refine gc_seq ?_; refine gc_seq ?_; refine gc_region ?_; apply gw_d; exact det_m rfl rfl (by conv => (lhs; whnf)); apply gw_d; exact w_len rfl rfl rfl; apply gw_d; exact det_cmp rfl rfl rfl rfl rfl; refine gw_nil ?_; refine gx_next ?_; refine gc_if_dec rfl (fun _ => ?_) (fun _ => ?_); refine gc_seq ?_; refine gc_region ?_; apply gw_d; exact det_m rfl rfl (by conv => (lhs; whnf)); refine gw_nil ?_; refine gx_next ?_; refine gc_ret ?_; refine gx_then_ret ?_; rotate_left; refine gc_skip ?_; refine gx_next ?_; refine gc_seq ?_; refine gc_seq ?_; refine gc_region ?_; apply gw_d; exact det_m rfl rfl (by conv => (lhs; whnf)); apply gw_d; exact w_call rfl rfl (fun w s => containsFunc_ok 109 pl_outside_ok w _ l (hl.later s)) rfl; refine gw_nil ?_; refine gx_next ?_; refine gc_if rfl (fun _ => ?_) (fun _ => ?_); refine gc_seq ?_; refine gc_region ?_; apply gw_d; exact det_m rfl rfl (by conv => (lhs; whnf)); refine gw_nil ?_; refine gx_next ?_; refine gc_ret ?_; refine gx_then_ret ?_; rotate_left; refine gc_skip ?_; refine gx_next ?_; refine gc_seq ?_; refine gc_seq ?_; refine gc_region ?_; apply gw_d; exact det_m rfl rfl (by conv => (lhs; whnf)); apply gw_d; exact w_len rfl rfl rfl; apply gw_d; exact det_ar rfl rfl rfl rfl rfl (by omega); apply gw_d; exact det_m rfl rfl (by conv => (lhs; whnf)); refine gw_nil ?_; refine gx_next ?_; refine gc_block ?_; rotate_left)
    · refine gx_ret1 (v := .int _ _) rfl rfl (fun _ _ => ?_)
      have : 40 < l.length := by omega
      simp [plineE, this]
    · omega
    · refine gx_ret1 (v := .int _ _) rfl rfl (fun _ _ => ?_)
      have h1 : ¬ 40 < l.length := by omega
      have h2 : ¬ l.length < 2 := by omega
      simp only [plineE, h1, h2, if_false]
      rw [if_pos ‹_›]
    · refine gc_loop (σ := Nat) [16, 17, 3, 18, 19, 20, 21, 22, 23, 24, 25, 26, 27, 2, 28, 15] (fun k => [(15, .int .i64 k)]) (fun _ => []) (fun k => k ≤ l.length - 1 ∧ stillB l k = false) (fun k => l.length - k) 0 ⟨Nat.zero_le _, rfl⟩ ⟨rfl, trivial⟩ .nil ?_
      rintro k base ⟨hk, hI⟩
      focus (refine gc_seq ?_; refine gc_region ?_; apply gw_d; exact det_cmp rfl rfl rfl rfl rfl; refine gw_nil ?_; refine gx_next ?_; refine gc_seq ?_)
      refine gc_if_dec rfl (fun h => ?_) (fun h => ?_)
      · have hce0 := hcell k (by omega)
        have hce1 := hcell (k + 1) (by omega)
        focus (refine gc_skip ?_; refine gx_next ?_; refine gc_seq ?_; refine gc_block ?_; refine gc_seq ?_; refine gc_region ?_; apply gw_d; exact det_m rfl rfl (by conv => (lhs; whnf)); apply gw_d; exact det_m rfl rfl (by conv => (lhs; whnf)); refine gw_nil ?_; refine gx_next ?_; refine gc_seq ?_)
        refine gc_draw 10 (by kernel_rfl) (by kernel_rfl) ?_
        focus (apply gd_d; exact det_m rfl rfl (by conv => (lhs; whnf)); apply gd_d; exact det_m rfl rfl (by conv => (lhs; whnf)); apply gd_d; exact w_index rfl rfl rfl rfl (by with_reducible exact rfl) (by omega); apply gd_d; exact w_load_elem rfl rfl rfl (by assumption) (by assumption) (by rfl); apply gd_d; exact det_m rfl rfl (by conv => (lhs; whnf)); apply gd_d; exact det_m rfl rfl (by conv => (lhs; whnf)); apply gd_d; exact det_ar rfl rfl rfl rfl rfl (by omega); apply gd_d; exact w_index rfl rfl rfl rfl (by with_reducible exact castA _) (by omega); apply gd_d; exact w_load_elem rfl rfl rfl (by assumption) (by assumption) (by rfl); apply gd_d; exact w_eq2 rfl rfl rfl rfl; refine gd_nil ?_; refine gw_nil ?_; refine gx_next ?_; refine gc_if_dec rfl (fun _ => ?_) (fun _ => ?_); refine gc_seq ?_; refine gc_region ?_; apply gw_d; exact det_m rfl rfl (by conv => (lhs; whnf)); refine gw_nil ?_; refine gx_next ?_; refine gc_ret ?_; refine gx_block_ret ?_; refine gx_then_ret ?_; refine gx_then_ret ?_; refine gx_block_ret ?_; refine gx_then_ret ?_; rotate_left; refine gc_skip ?_; refine gx_block ?_; refine gx_next ?_; refine gc_region ?_; apply gw_d; exact det_ar rfl rfl rfl rfl rfl (by omega); apply gw_d; exact det_m rfl rfl (by conv => (lhs; whnf)); refine gw_nil ?_; rotate_left)
        · refine gx_ret1 (v := .int _ _) rfl rfl (fun _ _ => ?_)
          have h1 : ¬ 40 < l.length := by omega
          have h2 : ¬ l.length < 2 := by omega
          simp only [plineE, h1, h2, if_false]
          rw [if_neg (by simpa using ‹l.any outP = false›), if_pos (still_yes (k := k) (by omega) ‹_›)]
        · exact gx_round (k + 1) ⟨by omega, still_snoc hI ‹_›⟩ (by omega) (by repeat (first | exact Keeps.refl | refine Keeps.upd rfl ?_ | refine Keeps.sets rfl ?_ | refine Keeps.havoc rfl ?_)) ⟨rfl, trivial⟩ .nil
      · focus (refine gc_exit ?_; refine gx_then_exit ?_; refine gx_then_exit ?_; refine gx_block_exit ?_; refine gx_next ?_; refine gc_seq ?_; refine gc_region ?_; apply gw_d; exact det_m rfl rfl (by conv => (lhs; whnf)); refine gw_nil ?_; refine gx_next ?_; refine gc_ret ?_)
        refine gx_ret1 (v := .int _ _) rfl rfl (fun _ _ => ?_)
        have h1 : ¬ 40 < l.length := by omega
        have h2 : ¬ l.length < 2 := by omega
        obtain rfl : k = l.length - 1 := by omega
        simp only [plineE, h1, h2, if_false]
        rw [if_neg (by simpa using ‹l.any outP = false›), if_neg (by simpa using hI)]
  · obtain ⟨A, c, rfl, hc, hm⟩ := len_small hl
    refine ok_enter Tryz.func87 rfl Tryz.ntmps87 rfl ?_
    focus (refine gc_seq ?_; refine gc_region ?_; apply gw_d; exact det_m rfl rfl (by conv => (lhs; whnf)); refine gw_nil ?_; refine gx_next ?_; refine gc_seq ?_; refine gc_seq ?_; refine gc_region ?_; apply gw_d; exact det_m rfl rfl (by conv => (lhs; whnf)); apply gw_d; exact w_len rfl rfl rfl; apply gw_d; exact det_cmp rfl rfl rfl rfl rfl; refine gw_nil ?_; refine gx_next ?_)
    refine gc_if_dec rfl (fun h => by omega) (fun h => ?_)
    focus (refine gc_skip ?_; refine gx_next ?_; refine gc_seq ?_; refine gc_seq ?_; refine gc_region ?_; apply gw_d; exact det_m rfl rfl (by conv => (lhs; whnf)); apply gw_d; exact w_len rfl rfl rfl; apply gw_d; exact det_cmp rfl rfl rfl rfl rfl; refine gw_nil ?_; refine gx_next ?_)
    refine gc_if_dec rfl (fun h => ?_) (fun h => by omega)
    focus (refine gc_seq ?_; refine gc_region ?_; apply gw_d; exact det_m rfl rfl (by conv => (lhs; whnf)); refine gw_nil ?_; refine gx_next ?_; refine gc_ret ?_; refine gx_then_ret ?_)
    refine gx_ret1 (v := .int _ _) rfl rfl (fun _ _ => ?_)
    have h1 : ¬ 40 < l.length := by omega
    have h2 : l.length < 2 := by omega
    simp [plineE, h1, h2]
end Go.Proofs.YteiboodeepjanaaGreat
