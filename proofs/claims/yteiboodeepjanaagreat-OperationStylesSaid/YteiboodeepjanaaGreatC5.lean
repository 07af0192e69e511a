/- Contracts: simple polygons. -/
import Derived.Test.YteiboodeepjanaaGreatC4
import Derived.Test.YteiboodeepjanaaGreatFwH
namespace Go.Proofs.YteiboodeepjanaaGreat
open Go.RowKit
set_option maxRecDepth 100000

def dupB (l : List (Int × Int)) (n : Nat) : Bool := (List.range n).any fun i => (l.take i).any (isP ((gS l i).1, (gS l i).2))
def foldAt (l : List (Int × Int)) (i : Nat) : Bool :=
  foldB (gS l i).1 (gS l i).2 (gS l ((i + 1) % l.length)).1 (gS l ((i + 1) % l.length)).2 (gS l ((i + 2) % l.length)).1 (gS l ((i + 2) % l.length)).2
def meetAt (l : List (Int × Int)) (i k : Nat) : Bool :=
  meetB (gS l i).1 (gS l i).2 (gS l ((i + 1) % l.length)).1 (gS l ((i + 1) % l.length)).2 (gS l k).1 (gS l k).2 (gS l ((k + 1) % l.length)).1 (gS l ((k + 1) % l.length)).2
def meetsB (l : List (Int × Int)) (i n : Nat) : Bool := (List.range n).any fun k => decide (i + 2 ≤ k) && decide ((k + 1) % l.length ≠ i) && meetAt l i k
def badB (l : List (Int × Int)) (n : Nat) : Bool := (List.range n).any fun i => foldAt l i || meetsB l i l.length
def simpleB (l : List (Int × Int)) : Bool := !dupB l l.length && !badB l l.length

theorem range_any_no {n k : Nat} {p : Nat → Bool} (hk : k < n) (h : p k = true) : (List.range n).any p = true := by
  rw [List.any_eq_true]
  exact ⟨k, List.mem_range.2 hk, h⟩
theorem range_any_snoc {k : Nat} {p : Nat → Bool} (h : (List.range k).any p = false) (hp : p k = false) : (List.range (k + 1)).any p = false := by
  rw [List.range_succ, List.any_append, h]
  simp [hp]

theorem mod_last {n i k : Nat} (hk : k < n) (hi : i + 2 ≤ k) (h : (k + 1) % n = i) : k + 1 = n := by
  rcases Nat.lt_or_ge (k + 1) n with h1 | h1
  · rw [Nat.mod_eq_of_lt h1] at h; omega
  · omega
theorem meets_end {l : List (Int × Int)} {i k : Nat} (h : meetsB l i k = false) (hk : ¬ (k < l.length ∧ (k + 1) % l.length ≠ i)) (hi : i + 2 ≤ k) (hkn : k ≤ max l.length (i + 2)) : meetsB l i l.length = false := by
  unfold meetsB at *
  rw [List.any_eq_false] at *
  intro m hm
  rw [List.mem_range] at hm
  by_cases hmk : m < k
  · exact h m (List.mem_range.2 hmk)
  · by_cases hmi : i + 2 ≤ m
    · have hlt : k < l.length := by omega
      have h2 : (k + 1) % l.length = i := by
        rcases Classical.em ((k + 1) % l.length = i) with h3 | h3
        · exact h3
        · exact absurd ⟨hlt, h3⟩ hk
      have := mod_last hlt hi h2
      have : m = k := by omega
      subst this
      simp [h2]
    · simp [hmi]

theorem meets_start (l : List (Int × Int)) (i : Nat) : meetsB l i (i + 2) = false := by
  unfold meetsB
  rw [List.any_eq_false]
  intro m hm
  rw [List.mem_range] at hm
  have : ¬ i + 2 ≤ m := by omega
  simp [this]

theorem bd_of {l : List (Int × Int)} (h : l.any outP = false) {k : Nat} (hk : k < l.length) : Bd (gS l k).1 ∧ Bd (gS l k).2 := by
  have := List.any_eq_false.1 h l[k] (List.getElem_mem hk)
  rw [gS_get hk]
  unfold outP outB at this
  unfold Bd
  simp only [Bool.or_eq_true, decide_eq_true_eq, not_or] at this
  omega

set_option maxHeartbeats 2000000 in
theorem simple_ok (w : World) (v : Value) (l : List (Int × Int)) (hl : Sl rSpot w w.heap.size v l) (hlen : 3 ≤ l.length) (h40 : l.length ≤ 40) (hout : l.any outP = false) : Ok Tryz.prog 111 [v].toArray w fun r _ => r = .bool (simpleB l) := by
  obtain ⟨ad, c, rfl, hc, hm, hb, hcell⟩ := hl.spot' (by omega)
  refine ok_enter Tryz.func111 rfl Tryz.ntmps111 rfl ?_
  focus (refine gc_seq ?_; refine gc_region ?_; apply gw_d; exact det_m rfl rfl (by conv => (lhs; whnf)); refine gw_nil ?_; refine gx_next ?_; refine gc_seq ?_; refine gc_region ?_; apply gw_d; exact det_m rfl rfl (by conv => (lhs; whnf)); apply gw_d; exact w_len rfl rfl rfl; apply gw_d; exact det_m rfl rfl (by conv => (lhs; whnf)); refine gw_nil ?_; refine gx_next ?_; refine gc_seq ?_; refine gc_seq ?_; refine gc_region ?_; apply gw_d; exact det_m rfl rfl (by conv => (lhs; whnf)); apply gw_d; exact w_len rfl rfl rfl; apply gw_d; exact det_m rfl rfl (by conv => (lhs; whnf)); refine gw_nil ?_; refine gx_next ?_; refine gc_block ?_)
  refine gc_loop (σ := Nat) [15, 16, 17, 18, 5, 4, 19, 20, 21, 22, 23, 2, 24, 14] (fun k => [(14, .int .i64 k)]) (fun _ => []) (fun k => k ≤ l.length ∧ dupB l k = false) (fun k => l.length - k) 0 ⟨Nat.zero_le _, rfl⟩ ⟨rfl, trivial⟩ .nil ?_
  rintro k base ⟨hk, hI⟩
  focus (refine gc_seq ?_; refine gc_region ?_; apply gw_d; exact det_cmp rfl rfl rfl rfl rfl; refine gw_nil ?_; refine gx_next ?_; refine gc_seq ?_)
  refine gc_if_dec rfl (fun h => ?_) (fun h => ?_)
  · have hlt : k < l.length := by omega
    have hce0 := hcell k hlt
    focus (refine gc_skip ?_; refine gx_next ?_; refine gc_seq ?_; refine gc_block ?_; refine gc_seq ?_; refine gc_region ?_; apply gw_d; exact det_m rfl rfl (by conv => (lhs; whnf)); apply gw_d; exact w_index rfl rfl rfl rfl (by with_reducible exact rfl) (by omega); apply gw_d; exact w_load_elem rfl rfl rfl (by assumption) (by assumption) (by rfl); refine w_alloc rfl (fun _ => ?_); apply gw_d; exact det_m rfl rfl (by conv => (lhs; whnf)); refine w_store_all rfl rfl rfl rfl rfl .here rfl ?_; refine gw_nil ?_; refine gx_next ?_; refine gc_seq ?_)
    refine gc_draw 5 (by kernel_rfl) (by kernel_rfl) ?_
    focus (apply gd_d; exact det_m rfl rfl (by conv => (lhs; whnf)); apply gd_d; exact det_m rfl rfl (by conv => (lhs; whnf)); apply gd_d; exact w_cut_hi rfl rfl rfl rfl (by with_reducible exact rfl) (by omega); apply gd_d; exact w_load_boxN rfl rfl rfl .here rfl; apply gd_d; exact w_call rfl rfl (fun w s => containsSpot_ok w _ (l.take k) _ _ ((hl.take (m := k) (by omega)).later s)) rfl; refine gd_nil ?_; refine gw_nil ?_; refine gx_next ?_; refine gc_if rfl (fun _ => ?_) (fun _ => ?_); refine gc_seq ?_; refine gc_region ?_; apply gw_d; exact det_m rfl rfl (by conv => (lhs; whnf)); refine gw_nil ?_; refine gx_next ?_; refine gc_ret ?_; refine gx_block_ret ?_; refine gx_then_ret ?_; refine gx_then_ret ?_; refine gx_block_ret ?_; refine gx_then_ret ?_; rotate_left; refine gc_skip ?_; refine gx_block ?_; refine gx_next ?_; refine gc_region ?_; apply gw_d; exact det_ar rfl rfl rfl rfl rfl (by omega); apply gw_d; exact det_m rfl rfl (by conv => (lhs; whnf)); refine gw_nil ?_; rotate_left)
    · refine gx_ret1 (v := .bool _) rfl rfl (fun _ _ => ?_)
      have : dupB l l.length = true := range_any_no hlt ‹_›
      simp [simpleB, this]
    · exact gx_round (k + 1) ⟨by omega, range_any_snoc hI ‹_›⟩ (by omega) (by repeat (first | exact Keeps.refl | refine Keeps.upd rfl ?_ | refine Keeps.sets rfl ?_ | refine Keeps.havoc rfl ?_)) ⟨rfl, trivial⟩ .nil
  · obtain rfl : k = l.length := by omega
    focus (refine gc_exit ?_; refine gx_then_exit ?_; refine gx_then_exit ?_; refine gx_block_exit ?_; refine gx_next ?_; refine gc_seq ?_; refine gc_seq ?_; refine gc_region ?_; apply gw_d; exact det_m rfl rfl (by conv => (lhs; whnf)); apply gw_d; exact w_len rfl rfl rfl; apply gw_d; exact det_m rfl rfl (by conv => (lhs; whnf)); refine gw_nil ?_; refine gx_next ?_; refine gc_block ?_)
    refine gc_loop (σ := Nat) [28, 29, 30, 31, 7, 6, 32, 33, 34, 35, 36, 37, 38, 8, 39, 40, 41, 42, 43, 44, 45, 46, 47, 48, 2, 49, 50, 9, 51, 52, 53, 54, 55, 56, 57, 58, 59, 60, 61, 64, 65, 66, 67, 68, 69, 70, 71, 72, 73, 74, 75, 76, 77, 62, 63, 78, 27] (fun k => [(27, .int .i64 k)]) (fun _ => []) (fun k => k ≤ l.length ∧ badB l k = false) (fun k => l.length - k) 0 ⟨Nat.zero_le _, rfl⟩ ⟨rfl, trivial⟩ .nil ?_
    rintro i base2 ⟨hi, hJ⟩
    focus (refine gc_seq ?_; refine gc_region ?_; apply gw_d; exact det_cmp rfl rfl rfl rfl rfl; refine gw_nil ?_; refine gx_next ?_; refine gc_seq ?_)
    refine gc_if_dec rfl (fun h => ?_) (fun h => ?_)
    · have hlt : i < l.length := by omega
      have hp1 : (i + 1) % l.length < l.length := Nat.mod_lt _ (by omega)
      have hp2 : (i + 2) % l.length < l.length := Nat.mod_lt _ (by omega)
      have hce0 := hcell i hlt
      have hce1 := hcell _ hp1
      have hce2 := hcell _ hp2
      obtain ⟨b1, b2⟩ := bd_of hout hlt
      obtain ⟨b3, b4⟩ := bd_of hout hp1
      obtain ⟨b5, b6⟩ := bd_of hout hp2
      focus (refine gc_skip ?_; refine gx_next ?_; refine gc_seq ?_; refine gc_block ?_; refine gc_seq ?_; refine gc_region ?_; apply gw_d; exact det_m rfl rfl (by conv => (lhs; whnf)); apply gw_d; exact w_index rfl rfl rfl rfl (by with_reducible exact rfl) (by omega); apply gw_d; exact w_load_elem rfl rfl rfl (by assumption) (by assumption) (by rfl); refine w_alloc rfl (fun _ => ?_); apply gw_d; exact det_m rfl rfl (by conv => (lhs; whnf)); refine w_store_all rfl rfl rfl rfl rfl .here rfl ?_; refine gw_nil ?_; refine gx_next ?_; refine gc_seq ?_; refine gc_region ?_; apply gw_d; exact det_m rfl rfl (by conv => (lhs; whnf)); apply gw_d; exact det_m rfl rfl (by conv => (lhs; whnf)); apply gw_d; exact det_ar rfl rfl rfl rfl rfl (by omega); apply gw_d; exact det_m rfl rfl (by conv => (lhs; whnf)); apply gw_d; exact det_rem rfl rfl rfl rfl (by omega) (by omega); apply gw_d; exact w_index rfl rfl rfl rfl (by with_reducible exact castM _ _) (by omega); apply gw_d; exact w_load_elem rfl rfl rfl (by assumption) (by assumption) (by rfl); refine w_alloc rfl (fun _ => ?_); refine w_store_all rfl rfl rfl rfl rfl .here rfl ?_; refine gw_nil ?_; refine gx_next ?_; refine gc_seq ?_; refine gc_seq ?_)
      refine gc_draw 10 (by kernel_rfl) (by kernel_rfl) ?_
      focus (apply gd_d; exact w_load_boxN rfl rfl rfl (.there .here) rfl; apply gd_d; exact w_load_boxN rfl rfl rfl .here rfl; apply gd_d; exact det_m rfl rfl (by conv => (lhs; whnf)); apply gd_d; exact det_m rfl rfl (by conv => (lhs; whnf)); apply gd_d; exact det_ar rfl rfl rfl rfl rfl (by omega); apply gd_d; exact det_m rfl rfl (by conv => (lhs; whnf)); apply gd_d; exact det_rem rfl rfl rfl rfl (by omega) (by omega); apply gd_d; exact w_index rfl rfl rfl rfl (by with_reducible exact castN _ _) (by omega); apply gd_d; exact w_load_elem rfl rfl rfl (by assumption) (by assumption) (by rfl); apply gd_d; exact w_call rfl rfl (fun w s => folded_ok w _ _ _ _ _ _ b1 b2 b3 b4 b5 b6) rfl; refine gd_nil ?_; refine gw_nil ?_; refine gx_next ?_; refine gc_if rfl (fun _ => ?_) (fun _ => ?_); refine gc_seq ?_; refine gc_region ?_; apply gw_d; exact det_m rfl rfl (by conv => (lhs; whnf)); refine gw_nil ?_; refine gx_next ?_; refine gc_ret ?_; refine gx_then_ret ?_; refine gx_block_ret ?_; refine gx_then_ret ?_; refine gx_then_ret ?_; refine gx_block_ret ?_; refine gx_then_ret ?_; rotate_left; refine gc_skip ?_; refine gx_next ?_; refine gc_seq ?_; refine gc_region ?_; apply gw_d; exact det_m rfl rfl (by conv => (lhs; whnf)); apply gw_d; exact det_ar rfl rfl rfl rfl rfl (by omega); apply gw_d; exact det_m rfl rfl (by conv => (lhs; whnf)); refine gw_nil ?_; refine gx_next ?_; refine gc_block ?_; rotate_left)
      · refine gx_ret1 (v := .bool _) rfl rfl (fun _ _ => ?_)
        have : badB l l.length = true := range_any_no hlt (by
          have : foldAt l i = true := ‹_›
          simp [this])
        simp [simpleB, hI, this]
      · have hfold : foldAt l i = false := ‹_›
        refine gc_loopK (σ := Nat) [51, 52, 53, 54, 55, 56, 57, 58, 59, 60, 61, 64, 65, 66, 67, 68, 69, 70, 71, 72, 73, 74, 75, 76, 77, 2, 62, 63, 9] (fun k => [(9, .int .i64 k)]) (fun k => i + 2 ≤ k ∧ k ≤ max l.length (i + 2) ∧ meetsB l i k = false) (fun k => l.length - k) (i + 2) ⟨Nat.le_refl _, by omega, meets_start l i⟩ ⟨rfl, trivial⟩ ?_
        rintro k base3 ⟨hk1, hk2, hM⟩
        focus (refine gc_seq ?_; refine gc_seq ?_; refine gc_region ?_; apply gw_d; exact det_m rfl rfl (by conv => (lhs; whnf)); apply gw_d; exact det_m rfl rfl (by conv => (lhs; whnf)); apply gw_d; exact det_cmp rfl rfl rfl rfl rfl; apply gw_d; exact det_m rfl rfl (by conv => (lhs; whnf)); refine gw_guard_dec rfl rfl (fun _ => ?_) (fun _ => ?_); apply gw_d; exact det_m rfl rfl (by conv => (lhs; whnf)); apply gw_d; exact det_ar rfl rfl rfl rfl rfl (by omega); apply gw_d; exact det_m rfl rfl (by conv => (lhs; whnf)); apply gw_d; exact det_rem rfl rfl rfl rfl (by omega) (by omega); apply gw_d; exact det_m rfl rfl (by conv => (lhs; whnf)); apply gw_d; exact det_cmp rfl rfl rfl rfl rfl; apply gw_d; exact det_pick_t (v := .bool _) rfl rfl rfl rfl; refine gw_nil ?_; refine gx_next ?_; rotate_left; apply gw_d; exact det_not rfl; apply gw_d; exact det_not rfl; apply gw_d; exact det_not rfl; apply gw_d; exact det_not rfl; apply gw_d; exact det_not rfl; apply gw_d; exact det_not rfl; apply gw_d; exact det_pick_f (v := .bool _) rfl rfl rfl rfl; refine gw_nil ?_; refine gx_next ?_; rotate_left)
        · refine gc_if_dec rfl (fun h3 => ?_) (fun h3 => ?_)
          · have hk : k < l.length := by omega
            have hq1 : (k + 1) % l.length < l.length := Nat.mod_lt _ (by omega)
            have hce3 := hcell k hk
            have hce4 := hcell _ hq1
            obtain ⟨b7, b8⟩ := bd_of hout hk
            obtain ⟨b9, b10⟩ := bd_of hout hq1
            have hne : (k + 1) % l.length ≠ i := fun h4 => h3 (by have := congrArg (fun n : Nat => (n : Int)) h4; simpa using this)
            focus (refine gc_skip ?_; refine gx_next ?_; refine gc_seq ?_; refine gc_block ?_; refine gc_seq ?_)
            refine gc_draw 14 (by kernel_rfl) (by kernel_rfl) ?_
            focus (apply gd_d; exact w_load_boxN rfl rfl rfl (.there .here) rfl; apply gd_d; exact w_load_boxN rfl rfl rfl .here rfl; apply gd_d; exact det_m rfl rfl (by conv => (lhs; whnf)); apply gd_d; exact det_m rfl rfl (by conv => (lhs; whnf)); apply gd_d; exact w_index rfl rfl rfl rfl (by with_reducible exact rfl) (by omega); apply gd_d; exact w_load_elem rfl rfl rfl (by assumption) (by assumption) (by rfl); apply gd_d; exact det_m rfl rfl (by conv => (lhs; whnf)); apply gd_d; exact det_m rfl rfl (by conv => (lhs; whnf)); apply gd_d; exact det_ar rfl rfl rfl rfl rfl (by omega); apply gd_d; exact det_m rfl rfl (by conv => (lhs; whnf)); apply gd_d; exact det_rem rfl rfl rfl rfl (by omega) (by omega); apply gd_d; exact w_index rfl rfl rfl rfl (by with_reducible exact castM _ _) (by omega); apply gd_d; exact w_load_elem rfl rfl rfl (by assumption) (by assumption) (by rfl); apply gd_d; exact w_call rfl rfl (fun w s => meet_ok w _ _ _ _ _ _ _ _ b1 b2 b3 b4 b7 b8 b9 b10) rfl; refine gd_nil ?_; refine gw_nil ?_; refine gx_next ?_; refine gc_if rfl (fun _ => ?_) (fun _ => ?_); refine gc_seq ?_; refine gc_region ?_; apply gw_d; exact det_m rfl rfl (by conv => (lhs; whnf)); refine gw_nil ?_; refine gx_next ?_; refine gc_ret ?_; refine gx_block_ret ?_; refine gx_then_ret ?_; refine gx_then_ret ?_; refine gx_block_ret ?_; refine gx_block_ret ?_; refine gx_then_ret ?_; refine gx_then_ret ?_; refine gx_block_ret ?_; refine gx_then_ret ?_; rotate_left; refine gc_skip ?_; refine gx_block ?_; refine gx_next ?_; refine gc_region ?_; apply gw_d; exact det_m rfl rfl (by conv => (lhs; whnf)); apply gw_d; exact det_ar rfl rfl rfl rfl rfl (by omega); apply gw_d; exact det_m rfl rfl (by conv => (lhs; whnf)); refine gw_nil ?_; rotate_left)
            · refine gx_ret1 (v := .bool _) rfl rfl (fun _ _ => ?_)
              have hm1 : meetAt l i k = true := ‹_›
              have hm2 : meetsB l i l.length = true := range_any_no hk (by simp [hm1, hk1, hne])
              have : badB l l.length = true := range_any_no hlt (by simp [hm2])
              simp [simpleB, hI, this]
            · have hm1 : meetAt l i k = false := ‹_›
              exact gx_round (k + 1) ⟨by omega, by omega, range_any_snoc hM (by simp [hm1])⟩ (by omega) (by repeat (first | exact Keeps.refl | refine Keeps.upd rfl ?_ | refine Keeps.sets rfl ?_ | refine Keeps.havoc rfl ?_)) ⟨rfl, trivial⟩ (Sub.all _)
          · have he : meetsB l i l.length = false := meets_end hM (fun h4 => h3 (fun h5 => h4.2 (Int.ofNat.inj (by simpa using h5)))) hk1 hk2
            focus (refine gc_exit ?_; refine gx_then_exit ?_; refine gx_then_exit ?_; refine gx_block_exit ?_; refine gx_block ?_; refine gx_next ?_; refine gc_region ?_; apply gw_d; exact det_ar rfl rfl rfl rfl rfl (by omega); apply gw_d; exact det_m rfl rfl (by conv => (lhs; whnf)); refine gw_nil ?_)
            exact gx_round (i + 1) ⟨by omega, range_any_snoc hJ (by simp [hfold, he])⟩ (by omega) (by repeat (first | exact Keeps.refl | refine Keeps.upd rfl ?_ | refine Keeps.sets rfl ?_ | refine Keeps.havoc rfl ?_)) ⟨rfl, trivial⟩ .nil
        · have he : meetsB l i l.length = false := meets_end hM (fun h4 => by omega) hk1 hk2
          focus (refine gc_if_false rfl ?_; refine gc_exit ?_; refine gx_then_exit ?_; refine gx_then_exit ?_; refine gx_block_exit ?_; refine gx_block ?_; refine gx_next ?_; refine gc_region ?_; apply gw_d; exact det_ar rfl rfl rfl rfl rfl (by omega); apply gw_d; exact det_m rfl rfl (by conv => (lhs; whnf)); refine gw_nil ?_)
          exact gx_round (i + 1) ⟨by omega, range_any_snoc hJ (by simp [hfold, he])⟩ (by omega) (by repeat (first | exact Keeps.refl | refine Keeps.upd rfl ?_ | refine Keeps.sets rfl ?_ | refine Keeps.havoc rfl ?_)) ⟨rfl, trivial⟩ .nil
    · focus (refine gc_exit ?_; refine gx_then_exit ?_; refine gx_then_exit ?_; refine gx_block_exit ?_; refine gx_next ?_; refine gc_seq ?_; refine gc_region ?_; apply gw_d; exact det_m rfl rfl (by conv => (lhs; whnf)); refine gw_nil ?_; refine gx_next ?_; refine gc_ret ?_)
      refine gx_ret1 (v := .bool _) rfl rfl (fun _ _ => ?_)
      obtain rfl : i = l.length := by omega
      simp [simpleB, hI, hJ]

def polyE (l : List (Int × Int)) : Int := if 40 < l.length then 5 else if l.length < 3 then 11 else if l.any outP = true then 3 else if simpleB l = true then 0 else 11
theorem polygon_ok (w : World) (v : Value) (l : List (Int × Int)) (hl : Sl rSpot w w.heap.size v l) : Ok Tryz.prog 88 [v].toArray w fun r _ => r = .int .i64 (polyE l) := by
  obtain ⟨A, c, rfl, hc, hm⟩ := len_small hl
  refine ok_enter Tryz.func88 rfl Tryz.ntmps88 rfl ?_
  focus (refine gc_seq ?_; refine gc_region ?_; apply gw_d; exact det_m rfl rfl (by conv => (lhs; whnf)); refine gw_nil ?_; refine gx_next ?_; refine gc_seq ?_; refine gc_seq ?_; refine gc_region ?_; apply gw_d; exact det_m rfl rfl (by conv => (lhs; whnf)); apply gw_d; exact w_len rfl rfl rfl; apply gw_d; exact det_cmp rfl rfl rfl rfl rfl; refine gw_nil ?_; refine gx_next ?_; refine gc_if_dec rfl (fun _ => ?_) (fun _ => ?_); refine gc_seq ?_; refine gc_region ?_; apply gw_d; exact det_m rfl rfl (by conv => (lhs; whnf)); refine gw_nil ?_; refine gx_next ?_; refine gc_ret ?_; refine gx_then_ret ?_; rotate_left; refine gc_skip ?_; refine gx_next ?_; refine gc_seq ?_; refine gc_seq ?_; refine gc_region ?_; apply gw_d; exact det_m rfl rfl (by conv => (lhs; whnf)); apply gw_d; exact w_len rfl rfl rfl; apply gw_d; exact det_cmp rfl rfl rfl rfl rfl; refine gw_nil ?_; refine gx_next ?_; refine gc_if_dec rfl (fun _ => ?_) (fun _ => ?_); refine gc_seq ?_; refine gc_region ?_; apply gw_d; exact det_m rfl rfl (by conv => (lhs; whnf)); refine gw_nil ?_; refine gx_next ?_; refine gc_ret ?_; refine gx_then_ret ?_; rotate_left; refine gc_skip ?_; refine gx_next ?_; refine gc_seq ?_; refine gc_seq ?_; refine gc_region ?_; apply gw_d; exact det_m rfl rfl (by conv => (lhs; whnf)); apply gw_d; exact w_call rfl rfl (fun w s => containsFunc_ok 110 outside_ok w _ l (hl.later s)) rfl; refine gw_nil ?_; refine gx_next ?_; refine gc_if rfl (fun _ => ?_) (fun _ => ?_); refine gc_seq ?_; refine gc_region ?_; apply gw_d; exact det_m rfl rfl (by conv => (lhs; whnf)); refine gw_nil ?_; refine gx_next ?_; refine gc_ret ?_; refine gx_then_ret ?_; rotate_left; refine gc_skip ?_; refine gx_next ?_; refine gc_seq ?_; refine gc_seq ?_; refine gc_region ?_; apply gw_d; exact det_m rfl rfl (by conv => (lhs; whnf)); apply gw_d; exact w_call rfl rfl (fun w s => simple_ok w _ l (hl.later s) (by omega) (by omega) ‹_›) rfl; apply gw_d; exact det_not_ rfl rfl rfl; refine gw_nil ?_; refine gx_next ?_; refine gc_if rfl (fun _ => ?_) (fun _ => ?_); refine gc_seq ?_; refine gc_region ?_; apply gw_d; exact det_m rfl rfl (by conv => (lhs; whnf)); refine gw_nil ?_; refine gx_next ?_; refine gc_ret ?_; refine gx_then_ret ?_; rotate_left; refine gc_skip ?_; refine gx_next ?_; refine gc_seq ?_; refine gc_region ?_; apply gw_d; exact det_m rfl rfl (by conv => (lhs; whnf)); refine gw_nil ?_; refine gx_next ?_; refine gc_ret ?_; rotate_left)
  all_goals
    refine gx_ret1 (v := .int _ _) rfl rfl (fun _ _ => ?_)
    congr 1
    unfold polyE
    repeat' split
    all_goals first | rfl | (exfalso; omega) | simp_all
end Go.Proofs.YteiboodeepjanaaGreat
