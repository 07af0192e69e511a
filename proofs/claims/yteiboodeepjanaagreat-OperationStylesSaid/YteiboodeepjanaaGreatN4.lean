/- Contracts: lengths of polylines. -/
import Derived.Test.YteiboodeepjanaaGreatN3
namespace Go.Proofs.YteiboodeepjanaaGreat
open Go.RowKit
set_option maxRecDepth 100000
set_option maxHeartbeats 4000000

theorem segN_range {p q : Int × Int} (hp : nearP p) (hq : nearP q) : segN p q ≤ 8796093022208000000 ∧ ((segN p q : Nat) : Int) = 1000000 * ((q.1 - p.1) * (q.1 - p.1) + (q.2 - p.2) * (q.2 - p.2)) := by
  obtain ⟨p1, p2⟩ := hp
  obtain ⟨q1, q2⟩ := hq
  have s1 := sq_range (d := q.1 - p.1) (by omega)
  have s2 := sq_range (d := q.2 - p.2) (by omega)
  unfold segN
  omega
theorem segL_range {p q : Int × Int} (hp : nearP p) (hq : nearP q) : 0 ≤ segL p q ∧ segL p q ≤ 4294967296 := by
  have h := (segN_range hp hq).1
  refine ⟨Int.natCast_nonneg _, ?_⟩
  have : isq (segN p q) ≤ 4294967296 := isq_le (by omega)
  unfold segL
  omega
theorem sq_pos {d : Int} (h : ¬ d = 0) : 1 ≤ d * d := by
  rcases Int.lt_or_gt_of_ne h with h1 | h1
  · have := Int.mul_pos_of_neg_of_neg h1 h1
    omega
  · have := Int.mul_pos h1 h1
    omega
theorem segL_pos {p q : Int × Int} (hp : nearP p) (hq : nearP q) (hne : ¬ p = q) : 1 ≤ segL p q := by
  have h := (segN_range hp hq).2
  have hd : ¬ (q.1 - p.1 = 0) ∨ ¬ (q.2 - p.2 = 0) := by
    by_cases h1 : q.1 - p.1 = 0
    · right
      intro h2
      exact hne (Prod.ext (by omega) (by omega))
    · exact .inl h1
  have s1 : 0 ≤ (q.1 - p.1) * (q.1 - p.1) := (sq_range (d := q.1 - p.1) (by obtain ⟨a, b⟩ := hp; obtain ⟨c, d⟩ := hq; omega)).1
  have s2 : 0 ≤ (q.2 - p.2) * (q.2 - p.2) := (sq_range (d := q.2 - p.2) (by obtain ⟨a, b⟩ := hp; obtain ⟨c, d⟩ := hq; omega)).1
  have h3 : 1 ≤ segN p q := by
    rcases hd with h1 | h1
    · have := sq_pos h1
      omega
    · have := sq_pos h1
      omega
  have : 1 ≤ isq (segN p q) := le_isq (by omega)
  unfold segL
  omega
def lenS (l : List (Int × Int)) : Nat → Int
  | 0 => 0
  | k + 1 => lenS l k + segL (gS l k) (gS l (k + 1))
def lenL (l : List (Int × Int)) : Int := lenS l (l.length - 1)
structure Line (l : List (Int × Int)) : Prop where
  two : 2 ≤ l.length
  le : l.length ≤ 40
  near : ∀ k, k < l.length → nearP (gS l k)
  moves : ∀ k, k + 1 < l.length → ¬ gS l k = gS l (k + 1)
theorem line_good {l : List (Int × Int)} (h : plineE l = 0) : Line l := by
  unfold plineE at h
  split at h
  · cases h
  rename_i h1
  split at h
  · cases h
  rename_i h2
  split at h
  · cases h
  rename_i h3
  split at h
  · cases h
  rename_i h4
  refine ⟨by omega, by omega, fun k hk => ?_, fun k hk hc => ?_⟩
  · have h5 : l.any outP = false := by simpa using h3
    have h6 := List.any_eq_false.1 h5 l[k] (List.getElem_mem hk)
    rw [gS_get hk]
    unfold nearP
    simp [outP, outB] at h6
    omega
  · exact h4 (still_yes (by omega) hc)
theorem lenS_range {l : List (Int × Int)} (h : Line l) : ∀ k, k < l.length → 0 ≤ lenS l k ∧ lenS l k ≤ 4294967296 * k
  | 0, _ => ⟨Int.le_refl _, Int.le_refl _⟩
  | k + 1, hk => by
    have h1 := lenS_range h k (by omega)
    have h2 := segL_range (h.near k (by omega)) (h.near (k + 1) hk)
    show 0 ≤ lenS l k + segL (gS l k) (gS l (k + 1)) ∧ lenS l k + segL (gS l k) (gS l (k + 1)) ≤ _
    omega
theorem lenL_range {l : List (Int × Int)} (h : Line l) : 1 ≤ lenL l ∧ lenL l ≤ 1099511627776 := by
  have h2 := h.two
  have h3 := h.le
  obtain ⟨m, hm⟩ : ∃ m, l.length - 1 = m + 1 := ⟨l.length - 2, by omega⟩
  unfold lenL
  rw [hm]
  have h1 := lenS_range h m (by omega)
  have h5 := segL_range (h.near m (by omega)) (h.near (m + 1) (by omega))
  have h6 := segL_pos (h.near m (by omega)) (h.near (m + 1) (by omega)) (h.moves m (by omega))
  show 1 ≤ lenS l m + segL (gS l m) (gS l (m + 1)) ∧ lenS l m + segL (gS l m) (gS l (m + 1)) ≤ _
  omega
theorem length_ok (w : World) (v : Value) (l : List (Int × Int)) (hl : Sl rSpot w w.heap.size v l) (hp : plineE l = 0) : Ok Tryz.prog 91 [v].toArray w fun r _ => r = .tuple #[.int .i64 (lenL l), .int .i64 0] := by
  have hG := line_good hp
  have h2 := hG.two
  have h40 := hG.le
  have hC : ∀ (L : List Res) (w' : World), St w L w' → Ok Tryz.prog 87 [v].toArray w' fun r _ => r = .int .i64 0 := fun L w' s => by
    have := polyline_ok w' v l (hl.later s)
    rw [hp] at this
    exact this
  obtain ⟨ad, c, rfl, hc, hm, hb, hcell⟩ := hl.spot' (by omega)
  refine ok_enter Tryz.func91 rfl Tryz.ntmps91 rfl ?_
  focus (refine gc_seq ?_; refine gc_region ?_; apply gw_d; exact det_m rfl rfl (by conv => (lhs; whnf)); apply gw_d; exact det_m rfl rfl (by conv => (lhs; whnf)); refine gw_nil ?_; refine gx_next ?_; refine gc_seq ?_; refine gc_seq ?_; refine gc_region ?_; apply gw_d; exact det_m rfl rfl (by conv => (lhs; whnf)); apply gw_d; exact w_call rfl rfl (hC _) rfl; apply gw_d; exact det_m rfl rfl (by conv => (lhs; whnf)); refine gw_nil ?_; refine gx_next ?_; refine gc_seq ?_; refine gc_region ?_; apply gw_d; exact det_m rfl rfl (by conv => (lhs; whnf)); apply gw_d; exact det_cmp rfl rfl rfl rfl rfl; refine gw_nil ?_; refine gx_next ?_)
  refine gc_if_dec rfl (fun h => absurd rfl h) (fun _ => ?_)
  focus (refine gc_skip ?_; refine gx_next ?_; refine gc_seq ?_; refine gc_region ?_; apply gw_d; exact det_m rfl rfl (by conv => (lhs; whnf)); refine gw_nil ?_; refine gx_next ?_; refine gc_seq ?_; refine gc_seq ?_; refine gc_region ?_; apply gw_d; exact det_m rfl rfl (by conv => (lhs; whnf)); apply gw_d; exact w_len rfl rfl rfl; apply gw_d; exact det_ar rfl rfl rfl rfl rfl (by omega); apply gw_d; exact det_m rfl rfl (by conv => (lhs; whnf)); refine gw_nil ?_; refine gx_next ?_; refine gc_block ?_)
  refine gc_loopK (σ := Nat) [16, 17, 6, 18, 19, 20, 21, 22, 23, 24, 25, 26, 27, 28, 29, 5, 30, 15] (fun k => [(15, .int .i64 k), (5, .int .i64 (lenS l k))]) (fun k => k ≤ l.length - 1) (fun k => l.length - k) 0 (Nat.zero_le _) ⟨rfl, rfl, trivial⟩ ?_
  rintro k base hk
  focus (refine gc_seq ?_; refine gc_region ?_; apply gw_d; exact det_cmp rfl rfl rfl rfl rfl; refine gw_nil ?_; refine gx_next ?_; refine gc_seq ?_)
  refine gc_if_dec rfl (fun h => ?_) (fun h => ?_)
  · have hk1 : k + 1 < l.length := by omega
    have hr := lenS_range hG k (by omega)
    have hsr := segL_range (hG.near k (by omega)) (hG.near (k + 1) hk1)
    have hc0 := hcell k (by omega)
    have hc1 := hcell (k + 1) hk1
    have hsg : ∀ (L : List Res) (w' : World), St w L w' → Ok Tryz.prog 112 [.agg #[.int .i64 (gS l k).1, .int .i64 (gS l k).2], .agg #[.int .i64 (gS l (k + 1)).1, .int .i64 (gS l (k + 1)).2]].toArray w' fun r _ => r = .int .i64 (segL (gS l k) (gS l (k + 1))) := fun L w' _ => segment_ok w' _ _ (hG.near k (by omega)) (hG.near (k + 1) hk1)
    focus (refine gc_skip ?_; refine gx_next ?_; refine gc_seq ?_; refine gc_block ?_; refine gc_seq ?_; refine gc_region ?_; apply gw_d; exact det_m rfl rfl (by conv => (lhs; whnf)); apply gw_d; exact det_m rfl rfl (by conv => (lhs; whnf)); refine gw_nil ?_; refine gx_next ?_)
    refine gc_draw 12 (by kernel_rfl) (by kernel_rfl) ?_
    focus (apply gd_d; exact det_m rfl rfl (by conv => (lhs; whnf)); apply gd_d; exact det_m rfl rfl (by conv => (lhs; whnf)); apply gd_d; exact det_m rfl rfl (by conv => (lhs; whnf)); apply gd_d; exact w_index rfl rfl rfl rfl (by with_reducible exact rfl) (by omega); apply gd_d; exact w_load_elem rfl rfl rfl (by assumption) (by assumption) (by rfl); apply gd_d; exact det_m rfl rfl (by conv => (lhs; whnf)); apply gd_d; exact det_m rfl rfl (by conv => (lhs; whnf)); apply gd_d; exact det_ar rfl rfl rfl rfl rfl (by omega); apply gd_d; exact w_index rfl rfl rfl rfl (by with_reducible exact castA _) (by omega); apply gd_d; exact w_load_elem rfl rfl rfl (by assumption) (by assumption) (by rfl); apply gd_d; exact w_call rfl rfl (hsg _) rfl; apply gd_d; exact det_ar rfl rfl rfl rfl rfl (by omega); refine gd_nil ?_; apply gw_d; exact det_m rfl rfl (by conv => (lhs; whnf)); refine gw_nil ?_; refine gx_block ?_; refine gx_next ?_; refine gc_region ?_; apply gw_d; exact det_ar rfl rfl rfl rfl rfl (by omega); apply gw_d; exact det_m rfl rfl (by conv => (lhs; whnf)); refine gw_nil ?_)
    exact gx_round (k + 1) (by omega) (by omega) (by repeat (first | exact Keeps.refl | refine Keeps.upd rfl ?_ | refine Keeps.sets rfl ?_ | refine Keeps.havoc rfl ?_)) ⟨rfl, rfl, trivial⟩ (Sub.all _)
  · obtain rfl : k = l.length - 1 := by omega
    focus (refine gc_exit ?_; refine gx_then_exit ?_; refine gx_then_exit ?_; refine gx_block_exit ?_; refine gx_next ?_; refine gc_seq ?_; refine gc_region ?_; apply gw_d; exact det_m rfl rfl (by conv => (lhs; whnf)); apply gw_d; exact det_m rfl rfl (by conv => (lhs; whnf)); apply gw_d; exact det_m rfl rfl (by conv => (lhs; whnf)); refine gw_nil ?_; refine gx_next ?_; refine gc_ret ?_)
    refine gx_ret2 (u := .int _ _) (v := .int _ _) rfl rfl rfl (fun _ _ => ?_)
    rfl
end Go.Proofs.YteiboodeepjanaaGreat
