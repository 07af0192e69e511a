/- The examples of the chapter 57 are met. -/
import Derived.Test.YtbglhkngdagmeaaGreatDoorW10
namespace Go.Proofs.YtbglhkngdagmeaaGreatDoor
open Go.RowKit
set_option maxRecDepth 100000
set_option maxHeartbeats 4000000

theorem same57_ok (w : World) (va vb : Value) (a b : List Pay) (ha : Sl rPay w w.heap.size va a) (hb : Sl rPay w w.heap.size vb b) : Ok Tryz.prog 27 [va, vb].toArray w fun r _ => r = .bool (decide (a = b)) := by
  obtain ⟨A, c, rfl, hac, ham, hacell⟩ := ha.pay
  obtain ⟨B, d, rfl, hbc, hbm, hbcell⟩ := hb.pay
  refine ok_enter Tryz.func27 rfl Tryz.ntmps27 rfl ?_
  focus (refine gc_seq ?_; refine gc_region ?_; apply gw_d; exact det_m rfl rfl (by conv => (lhs; whnf)); refine gw_nil ?_; refine gx_next ?_; refine gc_seq ?_; refine gc_seq ?_; refine gc_region ?_; apply gw_d; exact det_m rfl rfl (by conv => (lhs; whnf)); apply gw_d; exact w_len rfl rfl rfl; apply gw_d; exact det_m rfl rfl (by conv => (lhs; whnf)); apply gw_d; exact w_len rfl rfl rfl; apply gw_d; exact det_cmp rfl rfl rfl rfl rfl; refine gw_nil ?_; refine gx_next ?_)
  refine gc_if_dec rfl (fun h => ?_) (fun h => ?_)
  · focus (refine gc_seq ?_; refine gc_region ?_; apply gw_d; exact det_m rfl rfl (by conv => (lhs; whnf)); refine gw_nil ?_; refine gx_next ?_; refine gc_ret ?_; refine gx_then_ret ?_)
    refine gx_ret1 (v := .bool _) rfl rfl (fun _ _ => ?_)
    have : ¬ a = b := fun hc => h (by rw [hc])
    simp [this]
  have hlen : a.length = b.length := by omega
  focus (refine gc_skip ?_; refine gx_next ?_; refine gc_seq ?_; refine gc_seq ?_; refine gc_region ?_; apply gw_d; exact det_m rfl rfl (by conv => (lhs; whnf)); refine gw_nil ?_; refine gx_next ?_; refine gc_block ?_)
  refine gc_loop (σ := Nat) [11, 12, 13, 14, 17, 18, 19, 20, 21, 22, 23, 24, 25, 4, 15, 16, 5] (fun k => [(5, .int .i64 k)]) (fun _ => []) (fun k => k ≤ a.length ∧ a.take k = b.take k) (fun k => a.length - k) 0 ⟨Nat.zero_le _, rfl⟩ ⟨rfl, trivial⟩ .nil ?_
  rintro k base ⟨hk, hI⟩
  focus (refine gc_seq ?_; refine gc_seq ?_; refine gc_region ?_; apply gw_d; exact det_m rfl rfl (by conv => (lhs; whnf)); apply gw_d; exact det_m rfl rfl (by conv => (lhs; whnf)); apply gw_d; exact w_len rfl rfl rfl; apply gw_d; exact det_cmp rfl rfl rfl rfl rfl; refine gw_nil ?_; refine gx_next ?_)
  refine gc_if_dec rfl (fun h => ?_) (fun h => ?_)
  · have hka : k < a.length := by omega
    have hkb : k < b.length := by omega
    obtain ⟨ad1, rfl, hb1, hce1, _⟩ := hacell k hka
    obtain ⟨ad2, rfl, hb2, hce2, _⟩ := hbcell k hkb
    focus (refine gc_skip ?_; refine gx_next ?_; refine gc_seq ?_; refine gc_block ?_; refine gc_seq ?_)
    refine gc_draw 9 (by kernel_rfl) (by kernel_rfl) ?_
    focus (apply gd_d; exact det_m rfl rfl (by conv => (lhs; whnf)); apply gd_d; exact det_m rfl rfl (by conv => (lhs; whnf)); apply gd_d; exact w_index rfl rfl rfl rfl (by with_reducible exact rfl) (by omega); apply gd_d; exact w_load_elem rfl rfl rfl (by assumption) (by assumption) (by rfl); apply gd_d; exact det_m rfl rfl (by conv => (lhs; whnf)); apply gd_d; exact det_m rfl rfl (by conv => (lhs; whnf)); apply gd_d; exact w_index rfl rfl rfl rfl (by with_reducible exact rfl) (by omega); apply gd_d; exact w_load_elem rfl rfl rfl (by assumption) (by assumption) (by rfl); apply gd_d; exact w_nes (xs := [a[k].who, a[k].work, a[k].top]) (ys := [b[k].who, b[k].work, b[k].top]) rfl rfl rfl rfl rfl rfl; refine gd_nil ?_; refine gw_nil ?_; refine gx_next ?_)
    refine gc_if_dec rfl (fun h3 => ?_) (fun h3 => ?_)
    · focus (refine gc_seq ?_; refine gc_region ?_; apply gw_d; exact det_m rfl rfl (by conv => (lhs; whnf)); refine gw_nil ?_; refine gx_next ?_; refine gc_ret ?_; refine gx_block_ret ?_; refine gx_then_ret ?_; refine gx_then_ret ?_; refine gx_block_ret ?_; refine gx_then_ret ?_)
      refine gx_ret1 (v := .bool _) rfl rfl (fun _ _ => ?_)
      have : ¬ a = b := fun hc => h3 (by subst hc; rfl)
      simp [this]
    · focus (refine gc_skip ?_; refine gx_block ?_; refine gx_next ?_; refine gc_region ?_; apply gw_d; exact det_m rfl rfl (by conv => (lhs; whnf)); apply gw_d; exact det_ar rfl rfl rfl rfl rfl (by omega); apply gw_d; exact det_m rfl rfl (by conv => (lhs; whnf)); refine gw_nil ?_)
      refine gx_round (k + 1) ⟨hka, ?_⟩ (by omega) (by repeat (first | exact Keeps.refl | refine Keeps.upd rfl ?_ | refine Keeps.sets rfl ?_ | refine Keeps.havoc rfl ?_)) ⟨rfl, trivial⟩ .nil
      have h4 := Classical.not_not.1 h3
      have h5 : a[k] = b[k] := by
        simp only [List.cons.injEq, and_true] at h4
        cases ha5 : a[k]; cases hb5 : b[k]
        rw [ha5, hb5] at h4
        simp only at h4
        obtain ⟨q1, q2, q3⟩ := h4
        rw [q1, q2, q3]
      rw [List.take_succ_eq_append_getElem hka, List.take_succ_eq_append_getElem hkb, hI, h5]
  · obtain rfl : k = a.length := by omega
    rw [List.take_length, List.take_of_length_le (by omega)] at hI
    focus (refine gc_exit ?_; refine gx_then_exit ?_; refine gx_then_exit ?_; refine gx_block_exit ?_; refine gx_next ?_; refine gc_seq ?_; refine gc_region ?_; apply gw_d; exact det_m rfl rfl (by conv => (lhs; whnf)); refine gw_nil ?_; refine gx_next ?_; refine gc_ret ?_)
    refine gx_ret1 (v := .bool _) rfl rfl (fun _ _ => ?_)
    simp [hI]

theorem e57a : amtV 250 60 120 10 = 30 ∧ amtE 250 60 120 10 = 0 := by exact ⟨by kernel_rfl, by kernel_rfl⟩
theorem e57b : opCheckE twoSty pl0 = 0 := by kernel_rfl
theorem e57c : paysE 250 60 0 twoBuns twoWrks 3 = 0 := by kernel_rfl
theorem e57d : paysE 250 60 0 twoBuns twoWrks 0 = 0 := by kernel_rfl
theorem e57e : paysL 250 60 twoOps twoBuns twoWrks twoScns = [⟨0, 50, 10⟩] := by kernel_rfl
theorem e57f : paysL 250 60 twoOps twoBuns twoWrks [] = [] := by kernel_rfl
theorem e57g : shL 10 4 = [3, 3, 2, 2] := by kernel_rfl
theorem e57h : totF [⟨0, 1, 2⟩, ⟨1, 3, 0⟩] 0 0 = some (4, 2) := by kernel_rfl
theorem e57i : totF [⟨0, -1, 0⟩] 0 0 = none := by kernel_rfl
theorem e57j : tarE (-1) 0 = 3 := by kernel_rfl
theorem two_small : Small twoOps := ⟨by decide, fun k hk a ha => by
  have hk2 : k < 2 := hk
  obtain rfl | rfl : k = 0 ∨ k = 1 := by omega
  · cases ha
  · have : a = 0 := by simpa [twoOps] using ha
    subst this
    decide⟩
theorem two_min : ∀ k (hk : k < twoOps.length), 0 ≤ twoOps[k].minutes ∧ twoOps[k].minutes ≤ 10000 := fun k hk => by
  have hk2 : k < 2 := hk
  obtain rfl | rfl : k = 0 ∨ k = 1 := by omega
  · show (0 : Int) ≤ 120 ∧ (120 : Int) ≤ 10000
    decide
  · show (0 : Int) ≤ 80 ∧ (80 : Int) ≤ 10000
    decide
section
variable {w0 w : World} {L : List Res} {x : Nat → Nat}
theorem two_check (s : St w0 (twoR x ++ L) w) : ∀ (L' : List Res) (w' : World), St w L' w' → Ok Tryz.prog 72 [twoStyV x].toArray w' fun r _ => r = .int .i64 0 := fun L' w' s' => by
  have h := opCheck0_ok w' _ _ (StyV.later s' (two_sty s)) (fun p hp => by rw [show p = _ from List.mem_singleton.1 hp])
  rw [e57b] at h
  exact h
theorem two_pays (s : St w0 (twoR x ++ L) w) (hL : Lay w) : OkM Tryz.prog 25 [twoStyV x, .slice (some ⟨x 13, 0, none⟩) 1 1, .slice (some ⟨x 15, 0, none⟩) 1 1, .slice (some ⟨x 16, 0, none⟩) 3 3, .agg #[.int .i64 250, .int .i64 60]].toArray w (fun y : Option Addr × Nat => .tuple #[.slice y.1 1 y.2, .int .i64 0]) (fun y => [Own y.1 1 y.2 55 3 [.int .i64 0, .int .i64 50, .int .i64 10]]) := by
  have h := Pays_ok (two_check s) hL (two_ops s) (two_buns s) (two_wrks s) (two_scns s) two_small two_min e57c
  rw [e57e] at h
  exact h
theorem two_none (s : St w0 (twoR x ++ L) w) (hL : Lay w) : OkM Tryz.prog 25 [twoStyV x, .slice (some ⟨x 13, 0, none⟩) 1 1, .slice (some ⟨x 15, 0, none⟩) 1 1, .slice none 0 0, .agg #[.int .i64 250, .int .i64 60]].toArray w (fun y : Option Addr × Nat => .tuple #[.slice y.1 0 y.2, .int .i64 0]) (fun y => [Own y.1 0 y.2 55 3 []]) := by
  have h := Pays_ok (xs := []) (two_check s) hL (two_ops s) (two_buns s) (two_wrks s) (Sl.nil _ _) two_small two_min e57d
  rw [e57f] at h
  exact h
end
theorem share_ten (w : World) : OkM Tryz.prog 17 [.int .i64 10, .int .i64 4].toArray w (fun b : Nat => .tuple #[.slice (some ⟨b, 0, none⟩) 4 4, .int .i64 0]) (fun b => [Box b 3 #[.int .i64 3, .int .i64 3, .int .i64 2, .int .i64 2]]) := by
  have h := wShare_good w 10 4 (by kernel_rfl)
  rw [e57g] at h
  exact h
theorem awake57_ok (w : World) (hL : Lay w) : Ok Tryz.prog 21 [].toArray w fun r _ => r = .bool true := by
  have hAm : ∀ (L : List Res) (w' : World), St w L w' → Ok Tryz.prog 15 [.agg #[.int .i64 250, .int .i64 60], .int .i64 120, .int .i64 10].toArray w' fun y _ => y = .tuple #[.int .i64 30, .int .i64 0] := fun L w' s => by
    have := wAmount_ok w' 250 60 120 10 (hL.later s)
    rw [e57a.1, e57a.2] at this
    exact this
  refine ok_enter Tryz.func21 rfl Tryz.ntmps21 rfl ?_
  focus (refine gc_seq ?_; refine gc_region ?_; apply gw_d; exact det_m rfl rfl (by conv => (lhs; whnf)); refine gw_nil ?_; refine gx_next ?_; refine gc_seq ?_; refine gc_region ?_; apply gw_d; exact w_buildP [(0, .int .i64 250), (1, .int .i64 60)] (cells := #[.int .i64 250, .int .i64 60]) (by kernel_rfl) rfl rfl rfl; refine w_alloc rfl (fun _ => ?_); refine w_store_all rfl rfl rfl rfl rfl .here rfl ?_; refine gw_nil ?_; refine gx_next ?_; refine gc_seq ?_; refine gc_region ?_)
  rename_i bt
  refine gw_callm rfl (fun w s => two_ok w) rfl (fun x => ?_)
  focus (refine w_alloc rfl (fun _ => ?_); refine w_store_all rfl rfl rfl rfl rfl .here rfl ?_; refine gw_nil ?_; refine gx_next ?_; refine gc_seq ?_; refine gc_region ?_)
  rename_i bc
  refine gw_ent (K := Box bt 23 #[.int .i64 250, .int .i64 60] :: Box bc 48 (twoV x).cells :: (twoR x ++ [])) (Sub.ent (.cons (.there (.there (.there (.there (.there (.there (.there (.there (.there (.there (.there (.there (.there (.there (.there (.there (.there .here))))))))))))))))) (.cons .here (Sub.all _)))) ?_
  focus (apply gw_d; exact w_load_boxN rfl rfl rfl .here rfl; apply gw_d; exact w_call rfl rfl (hAm _) rfl; apply gw_d; exact det_m rfl rfl (by conv => (lhs; whnf)); apply gw_d; exact det_extract rfl rfl rfl (by conv => (lhs; whnf)); apply gw_d; exact det_extract rfl rfl rfl (by conv => (lhs; whnf)); apply gw_d; exact det_m rfl rfl (by conv => (lhs; whnf)); apply gw_d; exact det_m rfl rfl (by conv => (lhs; whnf)); refine gw_nil ?_; refine gx_next ?_; refine gc_seq ?_; refine gc_region ?_; apply gw_d; exact w_field rfl rfl rfl; apply gw_d; exact w_load_part rfl rfl rfl (.there .here) rfl rfl; apply gw_d; exact w_field rfl rfl rfl; apply gw_d; exact w_load_box rfl rfl rfl (.there .here) rfl; apply gw_d; exact w_field rfl rfl rfl; apply gw_d; exact w_load_box rfl rfl rfl (.there .here) rfl; apply gw_d; exact w_field rfl rfl rfl; apply gw_d; exact w_load_box rfl rfl rfl (.there .here) rfl; apply gw_d; exact w_load_boxN rfl rfl rfl .here rfl)
  refine gw_callm rfl (fun w s => two_pays s.drop.drop (hL.later s)) rfl (fun y => ?_)
  focus (apply gw_d; exact det_m rfl rfl (by conv => (lhs; whnf)); apply gw_d; exact det_extract rfl rfl rfl (by conv => (lhs; whnf)); apply gw_d; exact det_extract rfl rfl rfl (by conv => (lhs; whnf)); apply gw_d; exact det_m rfl rfl (by conv => (lhs; whnf)); apply gw_d; exact det_m rfl rfl (by conv => (lhs; whnf)); refine gw_nil ?_; refine gx_next ?_; refine gc_seq ?_; refine gc_region ?_; apply gw_d; exact w_field rfl rfl rfl; apply gw_d; exact w_load_part rfl rfl rfl (.there (.there .here)) rfl rfl; apply gw_d; exact w_field rfl rfl rfl; apply gw_d; exact w_load_box rfl rfl rfl (.there (.there .here)) rfl; apply gw_d; exact w_field rfl rfl rfl; apply gw_d; exact w_load_box rfl rfl rfl (.there (.there .here)) rfl; apply gw_d; exact w_load_boxN rfl rfl rfl (.there .here) rfl)
  refine gw_callm rfl (fun w s => two_none s.drop.drop.drop (hL.later s)) rfl (fun z => ?_)
  refine gw_ent (K := [Own y.1 1 y.2 55 3 [.int .i64 0, .int .i64 50, .int .i64 10]]) (Sub.ent (.cons (.there .here) .nil)) ?_
  focus (apply gw_d; exact det_m rfl rfl (by conv => (lhs; whnf)); apply gw_d; exact det_extract rfl rfl rfl (by conv => (lhs; whnf)); apply gw_d; exact det_extract rfl rfl rfl (by conv => (lhs; whnf)); apply gw_d; exact det_m rfl rfl (by conv => (lhs; whnf)); apply gw_d; exact det_m rfl rfl (by conv => (lhs; whnf)); refine gw_nil ?_; refine gx_next ?_; refine gc_seq ?_; refine gc_region ?_)
  refine gw_callm rfl (fun w s => share_ten w) rfl (fun bs => ?_)
  focus (apply gw_d; exact det_m rfl rfl (by conv => (lhs; whnf)); apply gw_d; exact det_extract rfl rfl rfl (by conv => (lhs; whnf)); apply gw_d; exact det_extract rfl rfl rfl (by conv => (lhs; whnf)); apply gw_d; exact det_m rfl rfl (by conv => (lhs; whnf)); apply gw_d; exact det_m rfl rfl (by conv => (lhs; whnf)); refine gw_nil ?_; refine gx_next ?_; refine gc_seq ?_; refine gc_region ?_; apply gw_d; exact w_buildP [(1, .int .i64 1), (2, .int .i64 2)] (cells := #[.int .i64 0, .int .i64 1, .int .i64 2]) (by kernel_rfl) rfl rfl rfl; apply gw_d; exact w_buildP [(0, .int .i64 1), (1, .int .i64 3)] (cells := #[.int .i64 1, .int .i64 3, .int .i64 0]) (by kernel_rfl) rfl rfl rfl)
  refine gw_bslice (cells := #[.int .i64 0, .int .i64 1, .int .i64 2, .int .i64 1, .int .i64 3, .int .i64 0]) rfl ?_ ?_ ?_ (fun b1 => ?_)
  · rfl
  · rfl
  · kernel_rfl
  have hT1 : ∀ (L : List Res) (w' : World), St w (Box b1 55 #[.int .i64 0, .int .i64 1, .int .i64 2, .int .i64 1, .int .i64 3, .int .i64 0] :: L) w' → Ok Tryz.prog 22 [.slice (some ⟨b1, 0, none⟩) 2 2].toArray w' fun y _ => y = .tuple #[.int .i64 4, .int .i64 2, .int .i64 0] := fun L w' s => by
    have h := wTotal_ok w' (.slice (some ⟨b1, 0, none⟩) 2 2) [⟨0, 1, 2⟩, ⟨1, 3, 0⟩] (Sl.ofCells s.head rfl (by decide) (by decide) ⟨⟨rfl, inI rfl, inI rfl, inI rfl⟩, ⟨rfl, inI rfl, inI rfl, inI rfl⟩, trivial⟩)
    rw [e57h] at h
    exact h
  focus (apply gw_d; exact w_call rfl rfl (hT1 _) rfl; apply gw_d; exact det_m rfl rfl (by conv => (lhs; whnf)); apply gw_d; exact det_extract rfl rfl rfl (by conv => (lhs; whnf)); apply gw_d; exact det_extract rfl rfl rfl (by conv => (lhs; whnf)); apply gw_d; exact det_extract rfl rfl rfl (by conv => (lhs; whnf)); apply gw_d; exact det_m rfl rfl (by conv => (lhs; whnf)); apply gw_d; exact det_m rfl rfl (by conv => (lhs; whnf)); apply gw_d; exact det_m rfl rfl (by conv => (lhs; whnf)); refine gw_nil ?_; refine gx_next ?_; refine gc_seq ?_; refine gc_region ?_; apply gw_d; exact w_buildP [(1, .int .i64 (-1))] (cells := #[.int .i64 0, .int .i64 (-1), .int .i64 0]) (by kernel_rfl) rfl rfl rfl)
  refine gw_bslice1 (v := .agg #[.int .i64 0, .int .i64 (-1), .int .i64 0]) rfl rfl rfl rfl rfl (fun b2 => ?_)
  have hT2 : ∀ (L : List Res) (w' : World), St w (Box b2 55 #[.int .i64 0, .int .i64 (-1), .int .i64 0] :: L) w' → Ok Tryz.prog 22 [.slice (some ⟨b2, 0, none⟩) 1 1].toArray w' fun y _ => y = .tuple #[.int .i64 0, .int .i64 0, .int .i64 3] := fun L w' s => by
    have h := wTotal_ok w' (.slice (some ⟨b2, 0, none⟩) 1 1) [⟨0, -1, 0⟩] (Sl.ofCells s.head rfl (by decide) (by decide) ⟨⟨rfl, inI rfl, inI rfl, inI rfl⟩, trivial⟩)
    rw [e57i] at h
    exact h
  focus (apply gw_d; exact w_call rfl rfl (hT2 _) rfl; apply gw_d; exact det_m rfl rfl (by conv => (lhs; whnf)); apply gw_d; exact det_extract rfl rfl rfl (by conv => (lhs; whnf)); apply gw_d; exact det_extract rfl rfl rfl (by conv => (lhs; whnf)); apply gw_d; exact det_extract rfl rfl rfl (by conv => (lhs; whnf)); apply gw_d; exact det_m rfl rfl (by conv => (lhs; whnf)); apply gw_d; exact det_m rfl rfl (by conv => (lhs; whnf)); apply gw_d; exact det_m rfl rfl (by conv => (lhs; whnf)); refine gw_nil ?_; refine gx_next ?_; refine gc_seq ?_; refine gc_seq ?_; refine gc_region ?_; apply gw_d; exact det_m rfl rfl (by conv => (lhs; whnf)); apply gw_d; exact det_cmp rfl rfl rfl rfl rfl; apply gw_d; exact det_m rfl rfl (by conv => (lhs; whnf)); apply gw_d; exact det_m rfl rfl (by conv => (lhs; whnf)); apply gw_d; exact det_cmp rfl rfl rfl rfl rfl; apply gw_d; exact det_pick_f (v := .bool _) rfl rfl rfl rfl; apply gw_d; exact det_m rfl rfl (by conv => (lhs; whnf)); apply gw_d; exact det_m rfl rfl (by conv => (lhs; whnf)); apply gw_d; exact det_cmp rfl rfl rfl rfl rfl; apply gw_d; exact det_pick_f (v := .bool _) rfl rfl rfl rfl; apply gw_d; exact det_m rfl rfl (by conv => (lhs; whnf)); apply gw_d; exact det_m rfl rfl (by conv => (lhs; whnf)); apply gw_d; exact det_cmp rfl rfl rfl rfl rfl; apply gw_d; exact det_pick_f (v := .bool _) rfl rfl rfl rfl; apply gw_d; exact det_m rfl rfl (by conv => (lhs; whnf)); apply gw_d; exact det_m rfl rfl (by conv => (lhs; whnf)); apply gw_d; exact det_cmp rfl rfl rfl rfl rfl; apply gw_d; exact det_pick_f (v := .bool _) rfl rfl rfl rfl; apply gw_d; exact det_m rfl rfl (by conv => (lhs; whnf)); apply gw_d; exact det_m rfl rfl (by conv => (lhs; whnf)); apply gw_d; exact det_cmp rfl rfl rfl rfl rfl; apply gw_d; exact det_pick_f (v := .bool _) rfl rfl rfl rfl; refine gw_nil ?_; refine gx_next ?_)
  refine gc_if_false rfl ?_
  refine gc_ent (K := [Box bs 3 #[.int .i64 3, .int .i64 3, .int .i64 2, .int .i64 2], Own y.1 1 y.2 55 3 [.int .i64 0, .int .i64 50, .int .i64 10]]) (Sub.ent (.cons (.there (.there .here)) (.cons (.there (.there .here)) .nil))) ?_
  focus (refine gc_skip ?_; refine gx_next ?_; refine gc_seq ?_; refine gc_region ?_; apply gw_d; exact det_m rfl rfl (by conv => (lhs; whnf)); apply gw_d; exact det_cmp rfl rfl rfl rfl rfl; apply gw_d; exact det_m rfl rfl (by conv => (lhs; whnf)); apply gw_d; exact det_m rfl rfl (by conv => (lhs; whnf)); apply gw_d; exact w_buildP [(1, .int .i64 50), (2, .int .i64 10)] (cells := #[.int .i64 0, .int .i64 50, .int .i64 10]) (by kernel_rfl) rfl rfl rfl)
  refine gw_bslice1 (v := .agg #[.int .i64 0, .int .i64 50, .int .i64 10]) rfl rfl rfl rfl rfl (fun b3 => ?_)
  have hS1 : ∀ (L : List Res) (w' : World), St w (Box b3 55 #[.int .i64 0, .int .i64 50, .int .i64 10] :: Box bs 3 #[.int .i64 3, .int .i64 3, .int .i64 2, .int .i64 2] :: Own y.1 1 y.2 55 3 [.int .i64 0, .int .i64 50, .int .i64 10] :: L) w' → Ok Tryz.prog 27 [.slice y.1 1 y.2, .slice (some ⟨b3, 0, none⟩) 1 1].toArray w' fun r _ => r = .bool true := fun L w' s => by
    have h1 : Sl rPay w' w'.heap.size (.slice y.1 1 y.2) [⟨0, 50, 10⟩] := Sl.own (R := rPay) (enc := encP) (l := [⟨0, 50, 10⟩]) s (.there (.there .here)) rfl (fun q hq => by rw [List.mem_singleton] at hq; subst hq; exact ⟨rfl, inI rfl, inI rfl, inI rfl⟩)
    have h2 : Sl rPay w' w'.heap.size (.slice (some ⟨b3, 0, none⟩) 1 1) [⟨0, 50, 10⟩] := Sl.ofCells s.head rfl (by decide) (by decide) ⟨⟨rfl, inI rfl, inI rfl, inI rfl⟩, trivial⟩
    exact same57_ok w' _ _ [⟨0, 50, 10⟩] [⟨0, 50, 10⟩] h1 h2
  have hCk : ∀ (L : List Res) (w' : World), St w L w' → Ok Tryz.prog 19 [.agg #[.int .i64 (-1), .int .i64 0]].toArray w' fun y _ => y = .int .i64 3 := fun L w' s => by
    have h := wCheck_ok w' (-1) 0 (hL.later s)
    rw [e57j] at h
    exact h
  focus (apply gw_d; exact w_call rfl rfl (hS1 _) rfl; apply gw_d; exact det_pick_t (v := .bool _) rfl rfl rfl rfl; apply gw_d; exact det_m rfl rfl (by conv => (lhs; whnf)); apply gw_d; exact det_m rfl rfl (by conv => (lhs; whnf)); apply gw_d; exact w_len rfl rfl rfl; apply gw_d; exact det_cmp rfl rfl rfl rfl rfl; apply gw_d; exact det_pick_t (v := .bool _) rfl rfl rfl rfl; apply gw_d; exact det_m rfl rfl (by conv => (lhs; whnf)); apply gw_d; exact det_m rfl rfl (by conv => (lhs; whnf)); apply gw_d; exact w_len rfl rfl rfl; apply gw_d; exact det_cmp rfl rfl rfl rfl rfl; apply gw_d; exact det_pick_t (v := .bool _) rfl rfl rfl rfl; apply gw_d; exact det_m rfl rfl (by conv => (lhs; whnf)); apply gw_d; exact det_m rfl rfl (by conv => (lhs; whnf)); apply gw_d; exact w_index (m := 0) rfl rfl rfl rfl rfl (by decide); apply gw_d; exact w_load_box rfl rfl rfl (.there .here) rfl; apply gw_d; exact det_cmp rfl rfl rfl rfl rfl; apply gw_d; exact det_pick_t (v := .bool _) rfl rfl rfl rfl; apply gw_d; exact det_m rfl rfl (by conv => (lhs; whnf)); apply gw_d; exact det_m rfl rfl (by conv => (lhs; whnf)); apply gw_d; exact w_index (m := 1) rfl rfl rfl rfl rfl (by decide); apply gw_d; exact w_load_box rfl rfl rfl (.there .here) rfl; apply gw_d; exact det_cmp rfl rfl rfl rfl rfl; apply gw_d; exact det_pick_t (v := .bool _) rfl rfl rfl rfl; apply gw_d; exact det_m rfl rfl (by conv => (lhs; whnf)); apply gw_d; exact det_m rfl rfl (by conv => (lhs; whnf)); apply gw_d; exact w_index (m := 2) rfl rfl rfl rfl rfl (by decide); apply gw_d; exact w_load_box rfl rfl rfl (.there .here) rfl; apply gw_d; exact det_cmp rfl rfl rfl rfl rfl; apply gw_d; exact det_pick_t (v := .bool _) rfl rfl rfl rfl; apply gw_d; exact det_m rfl rfl (by conv => (lhs; whnf)); apply gw_d; exact det_m rfl rfl (by conv => (lhs; whnf)); apply gw_d; exact w_index (m := 3) rfl rfl rfl rfl rfl (by decide); apply gw_d; exact w_load_box rfl rfl rfl (.there .here) rfl; apply gw_d; exact det_cmp rfl rfl rfl rfl rfl; apply gw_d; exact det_pick_t (v := .bool _) rfl rfl rfl rfl; apply gw_d; exact det_m rfl rfl (by conv => (lhs; whnf)); apply gw_d; exact det_m rfl rfl (by conv => (lhs; whnf)); apply gw_d; exact det_cmp rfl rfl rfl rfl rfl; apply gw_d; exact det_pick_t (v := .bool _) rfl rfl rfl rfl; apply gw_d; exact det_m rfl rfl (by conv => (lhs; whnf)); apply gw_d; exact det_m rfl rfl (by conv => (lhs; whnf)); apply gw_d; exact det_cmp rfl rfl rfl rfl rfl; apply gw_d; exact det_pick_t (v := .bool _) rfl rfl rfl rfl; apply gw_d; exact det_m rfl rfl (by conv => (lhs; whnf)); apply gw_d; exact w_buildP [(0, .int .i64 (-1))] (cells := #[.int .i64 (-1), .int .i64 0]) (by kernel_rfl) rfl rfl rfl; apply gw_d; exact w_call rfl rfl (hCk _) rfl; apply gw_d; exact det_cmp rfl rfl rfl rfl rfl; apply gw_d; exact det_pick_t (v := .bool _) rfl rfl rfl rfl; apply gw_d; exact det_m rfl rfl (by conv => (lhs; whnf)); refine gw_nil ?_; refine gx_next ?_; refine gc_ret ?_)
  refine gx_ret1 (v := .bool _) rfl rfl (fun _ _ => ?_)
  rfl
end Go.Proofs.YtbglhkngdagmeaaGreatDoor
