/- Contracts: outlines are checked. -/
import Derived.Test.YteiboodeepjanaaGreatC9
namespace Go.Proofs.YteiboodeepjanaaGreat
open Go.RowKit
set_option maxRecDepth 100000
set_option maxHeartbeats 4000000

def eqS (p q : ByteArray) : Bool := p.toList == q.toList
def oldName (l : List Edg) (k n : Nat) : Bool := (l.take n).any fun x => eqS x.1 (gE l k).1
def edgeE (l : List Edg) (k : Nat) : Int := if nameB (gE l k).1 = true then if oldName l k k = true then 7 else plineE (gE l k).2 else 1
def gapAt (l : List Edg) (i : Nat) : Bool := decide (¬ gS (gE l i).2 ((gE l i).2.length - 1) = gS (gE l ((i + 1) % l.length)).2 0)
def gapB (l : List Edg) (n : Nat) : Bool := (List.range n).any (gapAt l)
def outlineE (l : List Edg) : Int := if 16 < l.length then 5 else if l.length < 2 then 11 else if firstE (edgeE l) l.length = 0 then if gapB l l.length = true then 11 else polyE (vertsOf l) else firstE (edgeE l) l.length

theorem old_snoc {l : List Edg} {k n : Nat} (hn : n < l.length) (h : oldName l k n = false) (hp : eqS (gE l n).1 (gE l k).1 = false) : oldName l k (n + 1) = false := by
  unfold oldName at *
  rw [List.take_succ_eq_append_getElem hn, List.any_append, h]
  rw [gE_get hn] at hp
  simp [hp]
theorem old_yes {l : List Edg} {k n m : Nat} (hn : n < l.length) (hm : n < m) (hp : eqS (gE l n).1 (gE l k).1 = true) : oldName l k m = true := by
  unfold oldName
  rw [List.any_eq_true]
  refine ⟨gE l n, ?_, hp⟩
  rw [gE_get hn, List.mem_take_iff_getElem]
  exact ⟨n, by omega, rfl⟩
theorem pline_len {l : List (Int × Int)} (h : plineE l = 0) : 2 ≤ l.length ∧ l.length ≤ 40 := by
  unfold plineE at h
  split at h
  · cases h
  · split at h
    · cases h
    · omega
theorem edge_pline {l : List Edg} {k : Nat} (h : edgeE l k = 0) : plineE (gE l k).2 = 0 := by
  unfold edgeE at h
  split at h
  · split at h
    · cases h
    · exact h
  · cases h

theorem outline_ok (w : World) (v : Value) (l : List Edg) (hl : Sl rEdge w w.heap.size v l) : Ok Tryz.prog 70 [v].toArray w fun r _ => r = .int .i64 (outlineE l) := by
  by_cases hlen : 2 ≤ l.length
  · obtain ⟨ad, c, rfl, hc, hm, hb, hcell⟩ := hl.edge' (by omega)
    have h2 : ¬ l.length < 2 := by omega
    refine ok_enter Tryz.func70 rfl Tryz.ntmps70 rfl ?_
    focus (refine gc_seq ?_; refine gc_region ?_; apply gw_d; exact det_m rfl rfl (by conv => (lhs; whnf)); refine gw_nil ?_; refine gx_next ?_; refine gc_seq ?_; refine gc_seq ?_; refine gc_region ?_; apply gw_d; exact det_m rfl rfl (by conv => (lhs; whnf)); apply gw_d; exact w_len rfl rfl rfl; apply gw_d; exact det_cmp rfl rfl rfl rfl rfl; refine gw_nil ?_; refine gx_next ?_)
    refine gc_if_dec rfl (fun h => ?_) (fun h => ?_)
    · focus (refine gc_seq ?_; refine gc_region ?_; apply gw_d; exact det_m rfl rfl (by conv => (lhs; whnf)); refine gw_nil ?_; refine gx_next ?_; refine gc_ret ?_; refine gx_then_ret ?_)
      refine gx_ret1 (v := .int _ _) rfl rfl (fun _ _ => ?_)
      have : 16 < l.length := by omega
      simp [outlineE, this]
    have h16 : ¬ 16 < l.length := by omega
    focus (refine gc_skip ?_; refine gx_next ?_; refine gc_seq ?_; refine gc_seq ?_; refine gc_region ?_; apply gw_d; exact det_m rfl rfl (by conv => (lhs; whnf)); apply gw_d; exact w_len rfl rfl rfl; apply gw_d; exact det_cmp rfl rfl rfl rfl rfl; refine gw_nil ?_; refine gx_next ?_)
    refine gc_if_dec rfl (fun h => by omega) (fun _ => ?_)
    focus (refine gc_skip ?_; refine gx_next ?_; refine gc_seq ?_; refine gc_seq ?_; refine gc_region ?_; apply gw_d; exact det_m rfl rfl (by conv => (lhs; whnf)); apply gw_d; exact w_len rfl rfl rfl; apply gw_d; exact det_m rfl rfl (by conv => (lhs; whnf)); refine gw_nil ?_; refine gx_next ?_; refine gc_block ?_)
    refine gc_loop (σ := Nat) [20, 21, 22, 23, 4, 3, 24, 25, 26, 27, 2, 28, 29, 30, 31, 32, 33, 34, 35, 6, 36, 37, 38, 39, 40, 41, 42, 43, 44, 7, 45, 46, 47, 48, 19] (fun k => [(19, .int .i64 k)]) (fun _ => []) (fun k => k ≤ l.length ∧ firstE (edgeE l) k = 0) (fun k => l.length - k) 0 ⟨Nat.zero_le _, rfl⟩ ⟨rfl, trivial⟩ .nil ?_
    rintro k base ⟨hk, hI⟩
    focus (refine gc_seq ?_; refine gc_region ?_; apply gw_d; exact det_cmp rfl rfl rfl rfl rfl; refine gw_nil ?_; refine gx_next ?_; refine gc_seq ?_)
    refine gc_if_dec rfl (fun h => ?_) (fun h => ?_)
    · have hlt : k < l.length := by omega
      obtain ⟨A1, c1, hce, hsz, hc1, hm1, hsl⟩ := hcell k hlt
      have hstop : ¬ edgeE l k = 0 → outlineE l = edgeE l k := fun hne => by
        have h3 := firstE_stop hI hne hlt
        unfold outlineE
        rw [if_neg h16, if_neg h2, h3, if_neg hne]
      focus (refine gc_skip ?_; refine gx_next ?_; refine gc_seq ?_; refine gc_block ?_; refine gc_seq ?_; refine gc_region ?_; apply gw_d; exact det_m rfl rfl (by conv => (lhs; whnf)); apply gw_d; exact w_index rfl rfl rfl rfl (by with_reducible exact rfl) (by omega); apply gw_d; exact w_load_elem rfl rfl rfl (by assumption) (by assumption) (by rfl); refine w_alloc rfl (fun _ => ?_); apply gw_d; exact det_m rfl rfl (by conv => (lhs; whnf)); refine w_store_all rfl rfl rfl rfl rfl .here rfl ?_; refine gw_nil ?_; refine gx_next ?_; refine gc_seq ?_; refine gc_seq ?_; refine gc_region ?_; apply gw_d; exact w_field rfl rfl rfl; apply gw_d; exact w_load_box rfl rfl rfl .here rfl; apply gw_d; exact w_call rfl rfl (fun w s => outlineName_ok w _ hsz) rfl; apply gw_d; exact det_not_ rfl rfl rfl; refine gw_nil ?_; refine gx_next ?_)
      refine gc_if rfl (fun h3 => ?_) (fun h3 => ?_)
      · focus (refine gc_seq ?_; refine gc_region ?_; apply gw_d; exact det_m rfl rfl (by conv => (lhs; whnf)); refine gw_nil ?_; refine gx_next ?_; refine gc_ret ?_; refine gx_then_ret ?_; refine gx_block_ret ?_; refine gx_then_ret ?_; refine gx_then_ret ?_; refine gx_block_ret ?_; refine gx_then_ret ?_)
        refine gx_ret1 (v := .int _ _) rfl rfl (fun _ _ => ?_)
        have : edgeE l k = 1 := by unfold edgeE; rw [if_neg (by simpa using h3)]
        rw [hstop (by rw [this]; decide), this]
      have hname : nameB (gE l k).1 = true := by simpa using h3
      focus (refine gc_skip ?_; refine gx_next ?_; refine gc_seq ?_; refine gc_seq ?_; refine gc_region ?_; apply gw_d; exact det_m rfl rfl (by conv => (lhs; whnf)); apply gw_d; exact det_m rfl rfl (by conv => (lhs; whnf)); apply gw_d; exact w_cut_hi rfl rfl rfl rfl (by with_reducible exact rfl) (by omega); apply gw_d; exact w_len rfl rfl rfl; apply gw_d; exact det_m rfl rfl (by conv => (lhs; whnf)); refine gw_nil ?_; refine gx_next ?_; refine gc_block ?_)
      refine gc_loopK (σ := Nat) [33, 34, 35, 6, 36, 37, 38, 39, 40, 2, 41, 32] (fun j => [(32, .int .i64 j)]) (fun j => j ≤ k ∧ oldName l k j = false) (fun j => k - j) 0 ⟨Nat.zero_le _, rfl⟩ ⟨rfl, trivial⟩ ?_
      rintro j base2 ⟨hj, hJ⟩
      focus (refine gc_seq ?_; refine gc_region ?_; apply gw_d; exact det_cmp rfl rfl rfl rfl rfl; refine gw_nil ?_; refine gx_next ?_; refine gc_seq ?_)
      refine gc_if_dec rfl (fun h4 => ?_) (fun h4 => ?_)
      · have hjl : j < l.length := by omega
        obtain ⟨A2, c2, hce2, _, _, _, _⟩ := hcell j hjl
        focus (refine gc_skip ?_; refine gx_next ?_; refine gc_seq ?_; refine gc_block ?_; refine gc_seq ?_; refine gc_region ?_; apply gw_d; exact w_index rfl rfl rfl rfl (by with_reducible exact rfl) (by omega); apply gw_d; exact w_load_elem rfl rfl rfl (by assumption) (by assumption) (by rfl); refine w_alloc rfl (fun _ => ?_); refine w_store_all rfl rfl rfl rfl rfl .here rfl ?_; refine gw_nil ?_; refine gx_next ?_; refine gc_seq ?_; refine gc_region ?_; apply gw_d; exact w_field rfl rfl rfl; apply gw_d; exact w_load_box rfl rfl rfl .here rfl; apply gw_d; exact w_field rfl rfl rfl; apply gw_d; exact w_load_box rfl rfl rfl (.there .here) rfl; apply gw_d; exact det_seq rfl rfl rfl rfl; refine gw_nil ?_; refine gx_next ?_)
        refine gc_if rfl (fun h5 => ?_) (fun h5 => ?_)
        · focus (refine gc_seq ?_; refine gc_region ?_; apply gw_d; exact det_m rfl rfl (by conv => (lhs; whnf)); refine gw_nil ?_; refine gx_next ?_; refine gc_ret ?_; refine gx_block_ret ?_; refine gx_then_ret ?_; refine gx_then_ret ?_; refine gx_block_ret ?_; refine gx_then_ret ?_; refine gx_block_ret ?_; refine gx_then_ret ?_; refine gx_then_ret ?_; refine gx_block_ret ?_; refine gx_then_ret ?_)
          refine gx_ret1 (v := .int _ _) rfl rfl (fun _ _ => ?_)
          have hold : oldName l k k = true := old_yes hjl (by omega) h5
          have : edgeE l k = 7 := by unfold edgeE; rw [if_pos hname, if_pos hold]
          rw [hstop (by rw [this]; decide), this]
        · focus (refine gc_skip ?_; refine gx_block ?_; refine gx_next ?_; refine gc_region ?_; apply gw_d; exact det_ar rfl rfl rfl rfl rfl (by omega); apply gw_d; exact det_m rfl rfl (by conv => (lhs; whnf)); refine gw_nil ?_)
          exact gx_round (j + 1) ⟨by omega, old_snoc hjl hJ h5⟩ (by omega) (by repeat (first | exact Keeps.refl | refine Keeps.upd rfl ?_ | refine Keeps.sets rfl ?_ | refine Keeps.havoc rfl ?_)) ⟨rfl, trivial⟩ Sub.tail
      · obtain rfl : j = k := by omega
        have he : edgeE l j = plineE (gE l j).2 := by unfold edgeE; rw [if_pos hname, if_neg (by simpa using hJ)]
        focus (refine gc_exit ?_; refine gx_then_exit ?_; refine gx_then_exit ?_; refine gx_block_exit ?_; refine gx_next ?_; refine gc_seq ?_; refine gc_region ?_; apply gw_d; exact w_field rfl rfl rfl; apply gw_d; exact w_load_box rfl rfl rfl .here rfl; apply gw_d; exact w_call rfl rfl (fun w s => polyline_ok w _ _ (hsl.later s)) rfl; apply gw_d; exact det_m rfl rfl (by conv => (lhs; whnf)); refine gw_nil ?_; refine gx_next ?_; refine gc_seq ?_; refine gc_region ?_; apply gw_d; exact det_m rfl rfl (by conv => (lhs; whnf)); apply gw_d; exact det_cmp rfl rfl rfl rfl rfl; refine gw_nil ?_; refine gx_next ?_)
        refine gc_if_dec rfl (fun h5 => ?_) (fun h5 => ?_)
        · focus (refine gc_seq ?_; refine gc_region ?_; apply gw_d; exact det_m rfl rfl (by conv => (lhs; whnf)); apply gw_d; exact det_m rfl rfl (by conv => (lhs; whnf)); refine gw_nil ?_; refine gx_next ?_; refine gc_ret ?_; refine gx_block_ret ?_; refine gx_then_ret ?_; refine gx_then_ret ?_; refine gx_block_ret ?_; refine gx_then_ret ?_)
          refine gx_ret1 (v := .int _ _) rfl rfl (fun _ _ => ?_)
          rw [hstop (by rw [he]; exact h5), he]
        · focus (refine gc_skip ?_; refine gx_block ?_; refine gx_next ?_; refine gc_region ?_; apply gw_d; exact det_ar rfl rfl rfl rfl rfl (by omega); apply gw_d; exact det_m rfl rfl (by conv => (lhs; whnf)); refine gw_nil ?_)
          exact gx_round (j + 1) ⟨by omega, firstE_snoc hI (by rw [he]; simpa using h5)⟩ (by omega) (by repeat (first | exact Keeps.refl | refine Keeps.upd rfl ?_ | refine Keeps.sets rfl ?_ | refine Keeps.havoc rfl ?_)) ⟨rfl, trivial⟩ .nil
    · obtain rfl : k = l.length := by omega
      have hall : ∀ i, i < l.length → 2 ≤ (gE l i).2.length ∧ (gE l i).2.length ≤ 40 := fun i hi => pline_len (edge_pline (firstE_at hI i hi))
      focus (refine gc_exit ?_; refine gx_then_exit ?_; refine gx_then_exit ?_; refine gx_block_exit ?_; refine gx_next ?_; refine gc_seq ?_; refine gc_seq ?_; refine gc_region ?_; apply gw_d; exact det_m rfl rfl (by conv => (lhs; whnf)); apply gw_d; exact w_len rfl rfl rfl; apply gw_d; exact det_m rfl rfl (by conv => (lhs; whnf)); refine gw_nil ?_; refine gx_next ?_; refine gc_block ?_)
      refine gc_loop (σ := Nat) [52, 53, 54, 55, 9, 8, 56, 57, 58, 59, 60, 61, 62, 63, 10, 64, 65, 66, 67, 68, 69, 70, 71, 72, 73, 74, 75, 76, 2, 77, 51] (fun k => [(51, .int .i64 k)]) (fun _ => []) (fun k => k ≤ l.length ∧ gapB l k = false) (fun k => l.length - k) 0 ⟨Nat.zero_le _, rfl⟩ ⟨rfl, trivial⟩ .nil ?_
      rintro i base2 ⟨hi, hJ⟩
      focus (refine gc_seq ?_; refine gc_region ?_; apply gw_d; exact det_cmp rfl rfl rfl rfl rfl; refine gw_nil ?_; refine gx_next ?_; refine gc_seq ?_)
      refine gc_if_dec rfl (fun h => ?_) (fun h => ?_)
      · have hlt : i < l.length := by omega
        have hp1 : (i + 1) % l.length < l.length := Nat.mod_lt _ (by omega)
        obtain ⟨A1, c1, hce1, _, hc1, hm1, hsl1⟩ := hcell i hlt
        obtain ⟨A2, c2, hce2, _, hc2, hm2, hsl2⟩ := hcell _ hp1
        have hn1 := hall i hlt
        have hn2 := hall _ hp1
        obtain ⟨a1, c1', hv1, _, _, hb1, hs1⟩ := hsl1.spot' (by omega)
        obtain ⟨a2, c2', hv2, _, _, hb2, hs2⟩ := hsl2.spot' (by omega)
        injection hv1 with e1 e2 e3
        injection hv2 with e4 e5 e6
        subst e1 e3 e4 e6
        have hcs1 := hs1 ((gE l i).2.length - 1) (by omega)
        have hcs2 := hs2 0 (by omega)
        focus (refine gc_skip ?_; refine gx_next ?_; refine gc_seq ?_; refine gc_block ?_; refine gc_seq ?_; refine gc_region ?_; apply gw_d; exact det_m rfl rfl (by conv => (lhs; whnf)); apply gw_d; exact w_index rfl rfl rfl rfl (by with_reducible exact rfl) (by omega); apply gw_d; exact w_load_elem rfl rfl rfl (by assumption) (by assumption) (by rfl); refine w_alloc rfl (fun _ => ?_); apply gw_d; exact det_m rfl rfl (by conv => (lhs; whnf)); refine w_store_all rfl rfl rfl rfl rfl .here rfl ?_; refine gw_nil ?_; refine gx_next ?_; refine gc_seq ?_; refine gc_region ?_; apply gw_d; exact det_m rfl rfl (by conv => (lhs; whnf)); apply gw_d; exact det_m rfl rfl (by conv => (lhs; whnf)); apply gw_d; exact det_ar rfl rfl rfl rfl rfl (by omega); apply gw_d; exact det_m rfl rfl (by conv => (lhs; whnf)); apply gw_d; exact w_len rfl rfl rfl; apply gw_d; exact det_rem rfl rfl rfl rfl (by omega) (by omega); apply gw_d; exact w_index rfl rfl rfl rfl (by with_reducible exact castM _ _) (by omega); apply gw_d; exact w_load_elem rfl rfl rfl (by assumption) (by assumption) (by rfl); refine w_alloc rfl (fun _ => ?_); refine w_store_all rfl rfl rfl rfl rfl .here rfl ?_; refine gw_nil ?_; refine gx_next ?_; refine gc_seq ?_)
        refine gc_draw 13 (by kernel_rfl) (by kernel_rfl) ?_
        focus (apply gd_d; exact w_field rfl rfl rfl; apply gd_d; exact w_load_box rfl rfl rfl (.there .here) rfl; apply gd_d; exact w_field rfl rfl rfl; apply gd_d; exact w_load_box rfl rfl rfl (.there .here) rfl; apply gd_d; exact w_len rfl rfl rfl; apply gd_d; exact det_ar rfl rfl rfl rfl rfl (by omega); apply gd_d; exact w_index rfl rfl rfl rfl (by with_reducible exact castS (by omega)) (by omega); apply gd_d; exact w_load_elem rfl rfl rfl (by assumption) (by assumption) (by rfl); apply gd_d; exact w_field rfl rfl rfl; apply gd_d; exact w_load_box rfl rfl rfl .here rfl; apply gd_d; exact w_index rfl rfl rfl rfl (by with_reducible exact cast0) (by omega); apply gd_d; exact w_load_elem rfl rfl rfl (by assumption) (by assumption) (by rfl); apply gd_d; exact w_ne2 rfl rfl rfl rfl; refine gd_nil ?_; refine gw_nil ?_; refine gx_next ?_)
        refine gc_if_dec rfl (fun h5 => ?_) (fun h5 => ?_)
        · focus (refine gc_seq ?_; refine gc_region ?_; apply gw_d; exact det_m rfl rfl (by conv => (lhs; whnf)); refine gw_nil ?_; refine gx_next ?_; refine gc_ret ?_; refine gx_block_ret ?_; refine gx_then_ret ?_; refine gx_then_ret ?_; refine gx_block_ret ?_; refine gx_then_ret ?_)
          refine gx_ret1 (v := .int _ _) rfl rfl (fun _ _ => ?_)
          have : gapB l l.length = true := range_any_no hlt (by unfold gapAt; exact decide_eq_true h5)
          unfold outlineE
          rw [if_neg h16, if_neg h2, if_pos hI, if_pos this]
        · focus (refine gc_skip ?_; refine gx_block ?_; refine gx_next ?_; refine gc_region ?_; apply gw_d; exact det_ar rfl rfl rfl rfl rfl (by omega); apply gw_d; exact det_m rfl rfl (by conv => (lhs; whnf)); refine gw_nil ?_)
          exact gx_round (i + 1) ⟨by omega, range_any_snoc hJ (by unfold gapAt; exact decide_eq_false h5)⟩ (by omega) (by repeat (first | exact Keeps.refl | refine Keeps.upd rfl ?_ | refine Keeps.sets rfl ?_ | refine Keeps.havoc rfl ?_)) ⟨rfl, trivial⟩ .nil
      · obtain rfl : i = l.length := by omega
        have hpoly : outlineE l = polyE (vertsOf l) := by
          unfold outlineE
          rw [if_neg h16, if_neg h2, if_pos hI, if_neg (by rw [hJ]; decide)]
        focus (refine gc_exit ?_; refine gx_then_exit ?_; refine gx_then_exit ?_; refine gx_block_exit ?_; refine gx_next ?_; refine gc_seq ?_; refine gc_region ?_; apply gw_d; exact det_m rfl rfl (by conv => (lhs; whnf)))
        refine gw_callm rfl (fun w s => vertices_ok w _ l (hl.later s) (by omega) (by omega) (fun x hx => ?_)) rfl (fun x => ?_)
        · obtain ⟨i, hi, rfl⟩ := List.getElem_of_mem hx
          have := hall i hi
          rw [gE_get hi] at this
          omega
        · focus (apply gw_d; exact w_call rfl rfl (fun w s => polygon_ok w _ (vertsOf l) (Sl.own (enc := encS) s .here rfl (fun p hp => ⟨rfl, verts_in hl p hp⟩))) rfl; apply gw_d; exact det_m rfl rfl (by conv => (lhs; whnf)); refine gw_nil ?_; refine gx_next ?_; refine gc_ret ?_)
          refine gx_ret1 (v := .int _ _) rfl rfl (fun _ _ => ?_)
          rw [hpoly]
  · obtain ⟨A, c, rfl, hc, hm⟩ := len_small hl
    refine ok_enter Tryz.func70 rfl Tryz.ntmps70 rfl ?_
    focus (refine gc_seq ?_; refine gc_region ?_; apply gw_d; exact det_m rfl rfl (by conv => (lhs; whnf)); refine gw_nil ?_; refine gx_next ?_; refine gc_seq ?_; refine gc_seq ?_; refine gc_region ?_; apply gw_d; exact det_m rfl rfl (by conv => (lhs; whnf)); apply gw_d; exact w_len rfl rfl rfl; apply gw_d; exact det_cmp rfl rfl rfl rfl rfl; refine gw_nil ?_; refine gx_next ?_)
    refine gc_if_dec rfl (fun h => by omega) (fun h => ?_)
    focus (refine gc_skip ?_; refine gx_next ?_; refine gc_seq ?_; refine gc_seq ?_; refine gc_region ?_; apply gw_d; exact det_m rfl rfl (by conv => (lhs; whnf)); apply gw_d; exact w_len rfl rfl rfl; apply gw_d; exact det_cmp rfl rfl rfl rfl rfl; refine gw_nil ?_; refine gx_next ?_)
    refine gc_if_dec rfl (fun h => ?_) (fun h => by omega)
    focus (refine gc_seq ?_; refine gc_region ?_; apply gw_d; exact det_m rfl rfl (by conv => (lhs; whnf)); refine gw_nil ?_; refine gx_next ?_; refine gc_ret ?_; refine gx_then_ret ?_)
    refine gx_ret1 (v := .int _ _) rfl rfl (fun _ _ => ?_)
    have h1 : ¬ 16 < l.length := by omega
    have h2 : l.length < 2 := by omega
    simp [outlineE, h1, h2]
end Go.Proofs.YteiboodeepjanaaGreat
