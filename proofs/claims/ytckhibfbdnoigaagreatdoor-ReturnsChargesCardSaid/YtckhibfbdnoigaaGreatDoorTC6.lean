/- Texts in one file: RB RC RD RE RF RG RH RI RJ RS RK RQ RU. -/
import Derived.Test.YtckhibfbdnoigaaGreatDoorTC5
import Derived.Test.YtckhibfbdnoigaaGreatDoorTC2
import Derived.Test.YtckhibfbdnoigaaGreatDoorTC3
import Derived.Test.YtckhibfbdnoigaaGreatDoorTC4
set_option maxRecDepth 100000
set_option maxHeartbeats 8000000
namespace Go.Proofs.YtckhibfbdnoigaaGreatDoor
open Go.RowKit
theorem rbad_range {l : List (Int × Int)} {i : Nat} (hi : i < l.length) (h : rBadAt l i = true) : rSimpleB l = false := by
 unfold rSimpleB
 rw [range_any_no hi h]
 rfl

set_option maxHeartbeats 4000000 in
theorem r_simple_ok (w : World) (v : Value) (l : List (Int × Int)) (hl : Sl rSpot w w.heap.size v l) (hlen : 3 ≤ l.length) (h40 : l.length ≤ 40) (hout : l.any outP = false) : Ok Tryz.prog 157 [v].toArray w fun r _ => r = .bool (rSimpleB l) := by
 obtain ⟨ad, c, rfl, hc, hm, hb, hcell⟩ := hl.spot' (by omega)
 refine ok_enter Tryz.func157 rfl Tryz.ntmps157 rfl ?_
 (refine gV ?_; refine gM ?_; refine gN ?_; refine gM ?_; refine gL ?_; refine gM ?_; refine gO ?_; refine gQ ?_; refine gV ?_; refine gM ?_; refine gO ?_; refine gB ?_)
 refine gc_loop (σ := Nat) [11, 12, 13, 16, 17, 18, 19, 20, 21, 22, 23, 24, 25, 26, 5, 6, 27, 28, 29, 30, 31, 32, 33, 7, 34, 35, 36, 37, 38, 39, 40, 41, 42, 43, 44, 45, 46, 47, 48, 2, 49, 50, 8, 51, 52, 53, 56, 57, 58, 59, 60, 61, 62, 63, 64, 65, 66, 67, 68, 69, 70, 71, 72, 73, 74, 75, 76, 77, 54, 55, 14, 15, 4] (fun k => [(4, .int .i64 k)]) (fun _ => []) (fun k => k ≤ l.length ∧ (List.range k).any (rBadAt l) = false) (fun k => l.length - k) 0 ⟨Nat.zero_le _, rfl⟩ ⟨rfl, trivial⟩ .nil ?_
 rintro i base ⟨hi, hI⟩
 (refine gQ ?_; refine gV ?_; (iterate 2 refine gM ?_); refine gC ?_; refine gO ?_)
 refine gc_if_dec rfl (fun h => ?_) (fun h => ?_)
 ·have hlt : i < l.length := by omega
  have hp1 : (i + 1) % l.length < l.length := Nat.mod_lt _ (by omega)
  have hp2 : (i + 2) % l.length < l.length := Nat.mod_lt _ (by omega)
  have hce0 := hcell i hlt
  have hce1 := hcell _ hp1
  have hce2 := hcell _ hp2
  obtain ⟨b1, b2⟩ := bd_of hout hlt
  obtain ⟨b3, b4⟩ := bd_of hout hp1
  obtain ⟨b5, b6⟩ := bd_of hout hp2
  (refine gK ?_; refine gX ?_; refine gQ ?_; refine gB ?_; refine gQ ?_)
  refine gc_blockJ (P := Tryz.prog) Nat 14 (fun i => ([[], [], [0, 1], [0, 1, 2], [], [], [5], [], [5, 6, 7], [4, 5, 6, 7, 8], [4, 5, 6, 7, 8, 9], [], [], [0, 1, 2, 3, 11, 12]] : List (List Nat)).getD i []) (fun i' γ => match i' with
   | 0 => .slice (some ad) l.length c
   | 1 => .int .i64 i
   | 2 => .pointer (some (ad.add (i * 2)))
   | 3 => .agg #[.int .i64 (gS l i).1, .int .i64 (gS l i).2]
   | 4 => .slice (some ad) l.length c
   | 5 => .int .i64 i
   | 6 => .int .i64 ((i : Int) + 1)
   | 7 => .int .i64 l.length
   | 8 => .int .i64 (((i + 1) % l.length : Nat) : Int)
   | 9 => .pointer (some (ad.add (((i + 1) % l.length) * 2)))
   | 10 => .agg #[.int .i64 (gS l ((i + 1) % l.length)).1, .int .i64 (gS l ((i + 1) % l.length)).2]
   | 11 => .pointer (some ⟨γ 11, 0, none⟩)
   | 12 => .pointer (some ⟨γ 12, 0, none⟩)
   | _ => undef) (fun ls β w' => (ls 13 = true → ls 11 = true) ∧ St w ((if ls 12 = true then [Box (β 12) 106 #[.int .i64 0, .int .i64 0]] else []) ++ ((if ls 11 = true then [Box (β 11) 106 (if ls 13 = true then #[.int .i64 (gS l i).1, .int .i64 (gS l i).2] else #[.int .i64 0, .int .i64 0])] else []) ++ [])) w') rfl (by kernel_rfl) (fun w' s => ⟨fun h => (by cases h), by simp only [Bool.false_eq_true, if_false, List.append_nil]; exact s⟩) ?_ ?_
  ·intro i' o ls β w' hi' hik hls hpl hJ2
   have hS0 : St w [] w' := ⟨hJ2.2.below, trivial⟩
   obtain rfl | rfl | rfl | rfl | rfl | rfl | rfl | rfl | rfl | rfl | rfl | rfl | rfl | rfl : i' = 0 ∨ i' = 1 ∨ i' = 2 ∨ i' = 3 ∨ i' = 4 ∨ i' = 5 ∨ i' = 6 ∨ i' = 7 ∨ i' = 8 ∨ i' = 9 ∨ i' = 10 ∨ i' = 11 ∨ i' = 12 ∨ i' = 13 := by omega
   ·cases hi'
    exact detG (det_m (v := .slice (some ad) l.length c) rfl rfl rfl) rfl hS0 (fun w2 hx => ⟨default, rfl, hJ2.1, St.ext hJ2.2 hx⟩)
   ·cases hi'
    exact detG (det_m (v := .int .i64 (i : Int)) rfl rfl rfl) rfl hS0 (fun w2 hx => ⟨default, rfl, hJ2.1, St.ext hJ2.2 hx⟩)
   ·cases hi'
    exact detG (w_index (m := i) rfl rfl rfl rfl rfl hlt) rfl hS0 (fun w2 hx => ⟨default, rfl, hJ2.1, St.ext hJ2.2 hx⟩)
   ·cases hi'
    exact detG (w_load_elem (cs := [.int .i64 (gS l i).1, .int .i64 (gS l i).2]) rfl rfl rfl hb hce0 rfl) rfl hS0 (fun w2 hx => ⟨default, rfl, hJ2.1, St.ext hJ2.2 hx⟩)
   ·cases hi'
    exact detG (det_m (v := .slice (some ad) l.length c) rfl rfl rfl) rfl hS0 (fun w2 hx => ⟨default, rfl, hJ2.1, St.ext hJ2.2 hx⟩)
   ·cases hi'
    exact detG (det_m (v := .int .i64 (i : Int)) rfl rfl rfl) rfl hS0 (fun w2 hx => ⟨default, rfl, hJ2.1, St.ext hJ2.2 hx⟩)
   ·cases hi'
    exact detG (det_ar (r := (i : Int) + 1) rfl rfl rfl rfl rfl (by omega)) rfl hS0 (fun w2 hx => ⟨default, rfl, hJ2.1, St.ext hJ2.2 hx⟩)
   ·cases hi'
    exact detG (det_m (v := .int .i64 (l.length : Int)) rfl rfl rfl) rfl hS0 (fun w2 hx => ⟨default, rfl, hJ2.1, St.ext hJ2.2 hx⟩)
   ·cases hi'
    exact detG (c := .int .i64 (((i + 1) % l.length : Nat) : Int)) (det_eq (det_rem (i := (i : Int) + 1) (j := (l.length : Int)) rfl rfl rfl rfl (by omega) (by omega)) (congrArg (Value.int .i64) (by simp))) rfl hS0 (fun w2 hx => ⟨default, rfl, hJ2.1, St.ext hJ2.2 hx⟩)
   ·cases hi'
    exact detG (w_index (m := (i + 1) % l.length) rfl rfl rfl rfl rfl hp1) rfl hS0 (fun w2 hx => ⟨default, rfl, hJ2.1, St.ext hJ2.2 hx⟩)
   ·cases hi'
    exact detG (w_load_elem (cs := [.int .i64 (gS l ((i + 1) % l.length)).1, .int .i64 (gS l ((i + 1) % l.length)).2]) rfl rfl rfl hb hce1 rfl) rfl hS0 (fun w2 hx => ⟨default, rfl, hJ2.1, St.ext hJ2.2 hx⟩)
   ·cases hi'
    obtain ⟨hz, hS⟩ := hJ2
    have h13 : ls 13 = false := by
     cases h : ls 13 with
     | false => rfl
     | true => have := hz h; rw [hls] at this; cases this
    rw [hls] at hS
    refine ⟨rfl, (stepG_alloc (z := .agg #[.int .i64 0, .int .i64 0]) hS).mono fun u w2 hu => ?_⟩
    obtain ⟨b, hu, s2⟩ := hu
    refine ⟨b, hu, fun _ => rfl, ?_⟩
    show St w ((if ls 12 = true then [Box (β 12) 106 #[.int .i64 0, .int .i64 0]] else []) ++ ([Box b 106 (if ls 13 = true then #[.int .i64 (gS l i).1, .int .i64 (gS l i).2] else #[.int .i64 0, .int .i64 0])] ++ [])) w2
    rw [h13]
    cases h12 : ls 12 with
    | false => rw [h12] at s2; exact s2
    | true => rw [h12] at s2; exact St.sub (.cons (.there .here) (.cons .here .nil)) s2
   ·cases hi'
    obtain ⟨hz, hS⟩ := hJ2
    rw [hls] at hS
    refine ⟨rfl, (stepG_alloc (z := .agg #[.int .i64 0, .int .i64 0]) hS).mono fun u w2 hu => ?_⟩
    obtain ⟨b, hu, s2⟩ := hu
    exact ⟨b, hu, hz, s2⟩
   ·cases hi'
    obtain ⟨hz, hS⟩ := hJ2
    have h11 : ls 11 = true := hpl 11 (by decide)
    rw [hls, h11] at hS
    cases h12 : ls 12 with
    | false =>
     rw [h12] at hS
     refine ⟨rfl, (stepG_store (b := β 11) (cs := #[.int .i64 0, .int .i64 0]) (vs := #[.int .i64 (gS l i).1, .int .i64 (gS l i).2]) rfl rfl rfl rfl .here rfl hS).mono fun u w2 hu => ?_⟩
     refine ⟨default, hu.1, fun _ => h11, ?_⟩
     show St w ((if ls 12 = true then [Box (β 12) 106 #[.int .i64 0, .int .i64 0]] else []) ++ ((if ls 11 = true then [Box (β 11) 106 #[.int .i64 (gS l i).1, .int .i64 (gS l i).2]] else []) ++ [])) w2
     rw [h12, h11]
     exact hu.2
    | true =>
     rw [h12] at hS
     refine ⟨rfl, (stepG_store (b := β 11) (cs := #[.int .i64 0, .int .i64 0]) (vs := #[.int .i64 (gS l i).1, .int .i64 (gS l i).2]) rfl rfl rfl rfl (.there .here) rfl hS).mono fun u w2 hu => ?_⟩
     refine ⟨default, hu.1, fun _ => h11, ?_⟩
     show St w ((if ls 12 = true then [Box (β 12) 106 #[.int .i64 0, .int .i64 0]] else []) ++ ((if ls 11 = true then [Box (β 11) 106 #[.int .i64 (gS l i).1, .int .i64 (gS l i).2]] else []) ++ [])) w2
     rw [h12, h11]
     exact St.sub (.cons (.there .here) (.cons .here .nil)) hu.2
  ·intro ls β w' hall2 hJ2
   obtain ⟨_, hS⟩ := hJ2
   rw [hall2 11 (by decide), hall2 12 (by decide), hall2 13 (by decide)] at hS
   have hJ3 : St w [Box (β 12) 106 #[.int .i64 0, .int .i64 0], Box (β 11) 106 #[.int .i64 (gS l i).1, .int .i64 (gS l i).2]] w' := hS
   refine GW.h (P := Tryz.prog) ?_ w' hJ3
   refine w_store_all (b := β 12) (cs := #[.int .i64 0, .int .i64 0]) (vs := #[.int .i64 (gS l ((i + 1) % l.length)).1, .int .i64 (gS l ((i + 1) % l.length)).2]) rfl rfl rfl rfl rfl .here rfl ?_
   focus (refine gN ?_; (iterate 2 refine gM ?_); refine gA ?_; refine gM ?_; apply gw_d; exact det_rem rfl rfl rfl rfl (by omega) (by omega); apply gw_d; exact w_index rfl rfl rfl rfl (by with_reducible exact castN _ _) (by omega); apply gw_d; exact w_load_elem rfl rfl rfl (by assumption) (by assumption) (by rfl); refine w_alloc rfl (fun _ => ?_); refine w_store_all rfl rfl rfl rfl rfl .here rfl ?_; refine gO ?_; refine gQ ?_; refine gV ?_; apply gw_d; exact w_load_boxN rfl rfl rfl (.there (.there .here)) rfl; apply gw_d; exact w_load_boxN rfl rfl rfl (.there .here) rfl; apply gw_d; exact w_eq2 rfl rfl rfl rfl; refine gM ?_; refine gD (fun _ => ?_) (fun _ => ?_); (iterate 4 refine gU ?_); refine gPp ?_; refine gM ?_; (iterate 4 refine gU ?_); refine gPp ?_; refine gO ?_; refine gc_if_true rfl ?_; refine gV ?_; refine gM ?_; refine gO ?_; refine gR ?_; refine gT ?_; refine gY ?_; (iterate 2 refine gT ?_); refine gY ?_; refine gT ?_; rotate_left; apply gw_d; exact w_load_boxN rfl rfl rfl (.there (.there .here)) rfl; apply gw_d; exact w_load_boxN rfl rfl rfl (.there .here) rfl; apply gw_d; exact w_load_boxN rfl rfl rfl .here rfl; apply gw_d; exact w_call rfl rfl (fun w _ => r_on_ok w _ _ _ _ _ _ (by assumption) (by assumption) (by assumption) (by assumption) (by assumption) (by assumption)) rfl; refine gPq ?_; refine gM ?_; refine gw_guard rfl rfl (fun _ => ?_) (fun _ => ?_); (iterate 4 refine gU ?_); refine gPp ?_; refine gO ?_; refine gc_if_true rfl ?_; refine gV ?_; refine gM ?_; refine gO ?_; refine gR ?_; refine gT ?_; refine gY ?_; (iterate 2 refine gT ?_); refine gY ?_; refine gT ?_; rotate_left; apply gw_d; exact w_load_boxN rfl rfl rfl (.there .here) rfl; apply gw_d; exact w_load_boxN rfl rfl rfl .here rfl; apply gw_d; exact w_load_boxN rfl rfl rfl (.there (.there .here)) rfl; apply gw_d; exact w_call rfl rfl (fun w _ => r_on_ok w _ _ _ _ _ _ (by assumption) (by assumption) (by assumption) (by assumption) (by assumption) (by assumption)) rfl; refine gPq ?_; refine gO ?_; refine gc_if rfl (fun _ => ?_) (fun _ => ?_); refine gV ?_; refine gM ?_; refine gO ?_; refine gR ?_; refine gT ?_; refine gY ?_; (iterate 2 refine gT ?_); refine gY ?_; refine gT ?_; rotate_left; refine gK ?_; refine gX ?_; refine gV ?_; refine gM ?_; refine gA ?_; refine gM ?_; refine gO ?_; refine gB ?_; rotate_left)
   ·refine gb1 (fun _ _ => ?_)
    have he : gS l i = gS l ((i + 1) % l.length) := ‹_›
    rw [rbad_range hlt (by simp [rBadAt, he])]
   ·refine gb1 (fun _ _ => ?_)
    have he : onB (gS l i).1 (gS l i).2 (gS l ((i + 1) % l.length)).1 (gS l ((i + 1) % l.length)).2 (gS l ((i + 2) % l.length)).1 (gS l ((i + 2) % l.length)).2 = true := ‹_›
    rw [rbad_range hlt (by simp [rBadAt, he])]
   ·refine gb1 (fun _ _ => ?_)
    have he : onB (gS l ((i + 1) % l.length)).1 (gS l ((i + 1) % l.length)).2 (gS l ((i + 2) % l.length)).1 (gS l ((i + 2) % l.length)).2 (gS l i).1 (gS l i).2 = true := ‹_›
    rw [rbad_range hlt (by simp [rBadAt, he])]
   ·have e1 : ¬ gS l i = gS l ((i + 1) % l.length) := ‹_›
    have e2 : onB (gS l i).1 (gS l i).2 (gS l ((i + 1) % l.length)).1 (gS l ((i + 1) % l.length)).2 (gS l ((i + 2) % l.length)).1 (gS l ((i + 2) % l.length)).2 = false := ‹_›
    have e3 : onB (gS l ((i + 1) % l.length)).1 (gS l ((i + 1) % l.length)).2 (gS l ((i + 2) % l.length)).1 (gS l ((i + 2) % l.length)).2 (gS l i).1 (gS l i).2 = false := ‹_›
    refine gc_loopK (σ := Nat) [51, 52, 53, 56, 57, 58, 59, 60, 61, 62, 63, 64, 65, 66, 67, 68, 69, 70, 71, 72, 73, 74, 75, 76, 77, 2, 54, 55, 8] (fun k => [(8, .int .i64 k)]) (fun k => i + 2 ≤ k ∧ k ≤ max l.length (i + 2) ∧ meetsB l i k = false) (fun k => l.length - k) (i + 2) ⟨Nat.le_refl _, by omega, meets_start l i⟩ ⟨rfl, trivial⟩ ?_
    rintro k base3 ⟨hk1, hk2, hM⟩
    (refine gQ ?_; refine gV ?_; (iterate 2 refine gM ?_); refine gC ?_; refine gO ?_)
    refine gc_if_dec rfl (fun h3 => ?_) (fun h3 => ?_)
    ·have hk : k < l.length := by omega
     have hq1 : (k + 1) % l.length < l.length := Nat.mod_lt _ (by omega)
     have hce3 := hcell k hk
     have hce4 := hcell _ hq1
     obtain ⟨b7, b8⟩ := bd_of hout hk
     obtain ⟨b9, b10⟩ := bd_of hout hq1
     (refine gK ?_; refine gX ?_; refine gQ ?_; refine gB ?_; refine gQ ?_)
     refine gc_draw 22 (by kernel_rfl) (by kernel_rfl) ?_
     focus (refine dM ?_; apply gd_d; exact det_ar rfl rfl rfl rfl rfl (by omega); refine dM ?_; apply gd_d; exact det_rem rfl rfl rfl rfl (by omega) (by omega); refine dM ?_; apply gd_d; exact det_cmp rfl rfl rfl rfl rfl; refine dM ?_; refine gd_guard_dec rfl rfl (fun _ => ?_) (fun _ => ?_); apply gd_d; exact w_load_boxN rfl rfl rfl (.there (.there .here)) rfl; apply gd_d; exact w_load_boxN rfl rfl rfl (.there .here) rfl; (iterate 2 refine dM ?_); apply gd_d; exact w_index rfl rfl rfl rfl (by with_reducible exact rfl) (by omega); apply gd_d; exact w_load_elem rfl rfl rfl (by assumption) (by assumption) (by rfl); (iterate 2 refine dM ?_); apply gd_d; exact det_ar rfl rfl rfl rfl rfl (by omega); refine dM ?_; apply gd_d; exact det_rem rfl rfl rfl rfl (by omega) (by omega); apply gd_d; exact w_index rfl rfl rfl rfl (by with_reducible exact castM _ _) (by omega); apply gd_d; exact w_load_elem rfl rfl rfl (by assumption) (by assumption) (by rfl); apply gd_d; exact w_call rfl rfl (fun w s => r_meet_ok w _ _ _ _ _ _ _ _ b1 b2 b3 b4 b7 b8 b9 b10) rfl; apply gd_d; exact det_pick_t (v := .bool _) rfl rfl rfl rfl; refine gd_nil ?_; refine gO ?_; refine gc_if rfl (fun _ => ?_) (fun _ => ?_); refine gV ?_; refine gM ?_; refine gO ?_; refine gR ?_; refine gY ?_; (iterate 2 refine gT ?_); (iterate 2 refine gY ?_); (iterate 2 refine gT ?_); refine gY ?_; refine gT ?_; rotate_left; refine gK ?_; refine gH ?_; refine gX ?_; refine gG ?_; refine gM ?_; refine gA ?_; refine gM ?_; refine gw_nil ?_; rotate_left; (iterate 14 refine dU ?_); apply gd_d; exact det_pick_f (v := .bool _) rfl rfl rfl rfl; refine gd_nil ?_; refine gO ?_; refine gc_if_false rfl ?_; refine gK ?_; refine gH ?_; refine gX ?_; refine gG ?_; refine gM ?_; refine gA ?_; refine gM ?_; refine gw_nil ?_; rotate_left)
     ·refine gb1 (fun _ _ => ?_)
      have hm1 : meetAt l i k = true := ‹_›
      have hne : (k + 1) % l.length ≠ i := fun h4 => ‹¬ ((k : Int) + 1) % (l.length : Int) = (i : Int)› (by have := congrArg (fun n : Nat => (n : Int)) h4; simpa using this)
      have hm2 : meetsB l i l.length = true := range_any_no hk (by simp [hm1, hk1, hne])
      rw [rbad_range hlt (by simp [rBadAt, hm2])]
     ·have hm1 : meetAt l i k = false := ‹_›
      exact gx_round (k + 1) ⟨by omega, by omega, range_any_snoc hM (by simp [hm1])⟩ (by omega) kK ⟨rfl, trivial⟩ (Sub.all _)
     ·have hne : (k + 1) % l.length = i := by
       have h4 := Classical.not_not.1 ‹¬ ¬ ((k : Int) + 1) % (l.length : Int) = (i : Int)›
       exact Int.ofNat.inj (by simpa using h4)
      exact gx_round (k + 1) ⟨by omega, by omega, range_any_snoc hM (by simp [hne])⟩ (by omega) kK ⟨rfl, trivial⟩ (Sub.all _)
    ·have he : meetsB l i l.length = false := by
      have : l.length ≤ k := by omega
      by_cases hkl : k = l.length
      ·rw [← hkl]; exact hM
      ·refine Bool.eq_false_iff.2 fun h => ?_
       unfold meetsB at h
       obtain ⟨m, hm1, hm2⟩ := List.any_eq_true.1 h
       rw [List.mem_range] at hm1
       simp only [Bool.and_eq_true, decide_eq_true_eq] at hm2
       omega
     (refine gI ?_; (iterate 2 refine gZ ?_); refine gJ ?_; refine gH ?_; refine gX ?_; refine gG ?_; refine gM ?_; refine gA ?_; refine gM ?_; refine gw_nil ?_)
     exact gx_round (i + 1) ⟨by omega, range_any_snoc hI (by simp only [rBadAt, e1, e2, e3, he, decide_false, Bool.or_false])⟩ (by omega) kK ⟨rfl, trivial⟩ .nil
 ·(refine gI ?_; (iterate 2 refine gZ ?_); refine gJ ?_; refine gX ?_; refine gV ?_; refine gM ?_; refine gO ?_; refine gR ?_)
  refine gb1 (fun _ _ => ?_)
  obtain rfl : i = l.length := by omega
  simp [rSimpleB, hI]

theorem r_polygon_ok (w : World) (v : Value) (l : List (Int × Int)) (hl : Sl rSpot w w.heap.size v l) : Ok Tryz.prog 127 [v].toArray w fun r _ => r = .int .i64 (polyE l) := by
 obtain ⟨A, c, rfl, hc, hm, hcell⟩ := hl.spot
 refine ok_enter Tryz.func127 rfl Tryz.ntmps127 rfl ?_
 (refine gV ?_; refine gM ?_; refine gO ?_; refine gQ ?_; refine gV ?_; refine gM ?_; refine gL ?_; refine gC ?_; refine gO ?_)
 refine gc_if_dec rfl (fun h => ?_) (fun h40 => ?_)
 ·(refine gV ?_; refine gM ?_; refine gO ?_; refine gR ?_; refine gT ?_)
  refine gi1 (fun _ _ => ?_)
  have : 40 < l.length := by omega
  simp [polyE, this]
 (refine gK ?_; refine gX ?_; refine gQ ?_; refine gV ?_; refine gM ?_; refine gL ?_; refine gC ?_; refine gO ?_)
 refine gc_if_dec rfl (fun h => ?_) (fun h3 => ?_)
 ·(refine gV ?_; refine gM ?_; refine gO ?_; refine gR ?_; refine gT ?_)
  refine gi1 (fun _ _ => ?_)
  have h1 : ¬ 40 < l.length := by omega
  have h2 : l.length < 3 := by omega
  simp [polyE, h1, h2]
 have h1 : ¬ 40 < l.length := by omega
 have h2 : ¬ l.length < 3 := by omega
 (refine gK ?_; refine gX ?_; refine gQ ?_; refine gV ?_; refine gM ?_; refine gO ?_; refine gB ?_)
 refine gc_loop (σ := Nat) [10, 11, 12, 13, 16, 17, 18, 19, 20, 21, 2, 14, 15, 3] (fun k => [(3, .int .i64 k)]) (fun _ => []) (fun k => k ≤ l.length ∧ (l.take k).any outP = false) (fun k => l.length - k) 0 ⟨Nat.zero_le _, rfl⟩ ⟨rfl, trivial⟩ .nil ?_
 rintro k base ⟨hk, hI⟩
 (refine gQ ?_; refine gV ?_; (iterate 2 refine gM ?_); refine gL ?_; refine gC ?_; refine gO ?_)
 refine gc_if_dec rfl (fun h => ?_) (fun h => ?_)
 ·obtain ⟨ad, rfl, hb, hce, hi⟩ := hcell k (by omega)
  have hlt : k < l.length := by omega
  focus (refine gK ?_; refine gX ?_; refine gQ ?_; refine gB ?_; refine gV ?_; (iterate 2 refine gM ?_); apply gw_d; exact w_index rfl rfl rfl rfl (by with_reducible exact rfl) (by omega); apply gw_d; exact w_load_elem rfl rfl rfl (by assumption) (by assumption) (by rfl); apply gw_d; exact w_call rfl rfl (fun w _ => r_within_ok w _ _) rfl; apply gw_d; exact det_not_ rfl rfl rfl; refine gO ?_; refine gc_if rfl (fun _ => ?_) (fun _ => ?_); refine gV ?_; refine gM ?_; refine gO ?_; refine gR ?_; refine gY ?_; (iterate 2 refine gT ?_); refine gY ?_; refine gT ?_; rotate_left; refine gK ?_; refine gH ?_; refine gX ?_; refine gG ?_; refine gM ?_; refine gA ?_; refine gM ?_; refine gw_nil ?_; rotate_left)
  ·refine gi1 (fun _ _ => ?_)
   have ho : outP l[k] = true := by
    have ho : (!(!outB l[k].1 l[k].2)) = true := ‹_›
    simpa [outP] using ho
   have hy : l.any outP = true := List.any_eq_true.2 ⟨_, List.getElem_mem hlt, ho⟩
   simp [polyE, h1, h2, hy]
  ·exact gx_round (k + 1) ⟨by omega, any_snoc hlt hI (by
    have ho : (!(!outB l[k].1 l[k].2)) = false := ‹_›
    simpa [outP] using ho)⟩ (by omega) kK ⟨rfl, trivial⟩ .nil
 ·rw [List.take_of_length_le (by omega)] at hI
  focus (refine gI ?_; (iterate 2 refine gZ ?_); refine gJ ?_; refine gX ?_; refine gQ ?_; refine gV ?_; refine gM ?_; apply gw_d; exact w_call rfl rfl (fun w s => r_simple_ok w _ l (hl.later s) (by omega) (by omega) hI) rfl; apply gw_d; exact det_not_ rfl rfl rfl; refine gO ?_; refine gc_if rfl (fun _ => ?_) (fun _ => ?_); refine gV ?_; refine gM ?_; refine gO ?_; refine gR ?_; refine gT ?_; rotate_left; refine gK ?_; refine gX ?_; refine gV ?_; refine gM ?_; refine gO ?_; refine gR ?_; rotate_left)
  ·refine gi1 (fun _ _ => ?_)
   have ho : rSimpleB l = false := by simpa using ‹(!rSimpleB l) = true›
   rw [simple_same (by omega)] at ho
   simp [polyE, h1, h2, hI, ho]
  ·refine gi1 (fun _ _ => ?_)
   have ho : rSimpleB l = true := by simpa using ‹(!rSimpleB l) = false›
   rw [simple_same (by omega)] at ho
   simp [polyE, h1, h2, hI, ho]
theorem r_named_ok (w : World) (v : Value) (l : List Edg) (hl : Sl rEdge w w.heap.size v l) (k : Nat) (hk : k < l.length) : Ok Tryz.prog 125 [v, .int .i64 k, .string (gE l k).1].toArray w fun r _ => r = .bool (oldName l k k) := by
 obtain ⟨ad, c, rfl, hc, hm, hb, hcell⟩ := hl.edge' (by omega)
 refine ok_enter Tryz.func125 rfl Tryz.ntmps125 rfl ?_
 (refine gV ?_; refine gM ?_; refine gO ?_; refine gQ ?_; refine gV ?_; refine gM ?_; refine gO ?_; refine gB ?_)
 refine gc_loop (σ := Nat) [8, 9, 10, 13, 14, 15, 16, 17, 18, 19, 6, 11, 12, 7] (fun j => [(7, .int .i64 j)]) (fun _ => []) (fun j => j ≤ k ∧ oldName l k j = false) (fun j => k - j) 0 ⟨Nat.zero_le _, rfl⟩ ⟨rfl, trivial⟩ .nil ?_
 rintro j base ⟨hj, hJ⟩
 (refine gQ ?_; refine gV ?_; (iterate 2 refine gM ?_); refine gC ?_; refine gO ?_)
 refine gc_if_dec rfl (fun h => ?_) (fun h => ?_)
 ·have hjl : j < l.length := by omega
  obtain ⟨A2, c2, hce, _, _, _, _⟩ := hcell j hjl
  (refine gK ?_; refine gX ?_; refine gQ ?_; refine gB ?_; refine gV ?_; (iterate 2 refine gM ?_); apply gw_d; exact w_index rfl rfl rfl rfl (by with_reducible exact rfl) (by omega); refine gF ?_; apply gw_d; exact w_load_fld rfl rfl rfl hb (hce 0 _ rfl); refine gM ?_; apply gw_d; exact det_seq rfl rfl rfl rfl; refine gO ?_)
  refine gc_if rfl (fun h5 => ?_) (fun h5 => ?_)
  ·(refine gV ?_; refine gM ?_; refine gO ?_; refine gR ?_; refine gY ?_; (iterate 2 refine gT ?_); refine gY ?_; refine gT ?_)
   refine gb1 (fun _ _ => ?_)
   rw [old_yes hjl (by omega) h5]
  ·(refine gK ?_; refine gH ?_; refine gX ?_; refine gG ?_; refine gM ?_; refine gA ?_; refine gM ?_; refine gw_nil ?_)
   exact gx_round (j + 1) ⟨by omega, old_snoc hjl hJ h5⟩ (by omega) kK ⟨rfl, trivial⟩ .nil
 ·obtain rfl : j = k := by omega
  (refine gI ?_; (iterate 2 refine gZ ?_); refine gJ ?_; refine gX ?_; refine gV ?_; refine gM ?_; refine gO ?_; refine gR ?_)
  refine gb1 (fun _ _ => ?_)
  rw [hJ]

theorem r_vertices_ok (w : World) (v : Value) (l : List Edg) (hl : Sl rEdge w w.heap.size v l) (h0 : 0 < l.length) (h16 : l.length ≤ 16) (hlen : ∀ x ∈ l, 1 ≤ x.2.length ∧ x.2.length ≤ 40) :
  OkM Tryz.prog 128 [v].toArray w (fun x : Option Addr × Nat => .slice x.1 (vertsOf l).length x.2) (fun x => [Own x.1 (vertsOf l).length x.2 106 2 ((vertsOf l).flatMap encS)]) := by
 obtain ⟨ad, c, rfl, hc, hm, hb, hcell⟩ := hl.edge' h0
 unfold OkM
 refine ok_enter Tryz.func128 rfl Tryz.ntmps128 rfl ?_
 refine gc_own0 106 2 ?_
 (refine gV ?_; refine gM ?_; refine gN ?_; refine gM ?_; refine gO ?_; refine gQ ?_; refine gV ?_; refine gM ?_; refine gO ?_; refine gB ?_)
 refine gc_loop (σ := Nat × Option Addr × Nat) [6, 7, 8, 9, 12, 13, 14, 15, 16, 17, 5, 18, 19, 20, 21, 22, 23, 24, 25, 26, 27, 28, 29, 3, 10, 11, 4] (fun s => [(3, .slice s.2.1 (vertsOf (l.take s.1)).length s.2.2), (4, .int .i64 s.1)]) (fun s => [Own s.2.1 (vertsOf (l.take s.1)).length s.2.2 106 2 ((vertsOf (l.take s.1)).flatMap encS)])
  (fun s => s.1 ≤ l.length) (fun s => l.length - s.1) (0, none, 0) (Nat.zero_le _) ⟨rfl, rfl, trivial⟩ (.cons .here .nil) ?_
 rintro ⟨k, A, c2⟩ base hk
 dsimp only at hk ⊢
 (refine gQ ?_; refine gV ?_; (iterate 2 refine gM ?_); refine gL ?_; refine gC ?_; refine gO ?_)
 refine gc_if_dec rfl (fun h => ?_) (fun h => ?_)
 ·have hlt : k < l.length := by omega
  obtain ⟨A1, c1, hce, hsz, hc1, hm1, hsl⟩ := hcell k hlt
  obtain ⟨h1, h2⟩ := hlen _ (by rw [gE_get hlt]; exact List.getElem_mem hlt : gE l k ∈ l)
  have hv := verts_snoc hlt
  have hn : (vertsOf (l.take (k + 1))).length = (vertsOf (l.take k)).length + ((gE l k).2.length - 1) := by rw [hv, List.length_append, List.length_dropLast]
  have hle := verts_le (l := l.take k) (fun x hx => (hlen x (List.mem_of_mem_take hx)).2)
  rw [List.length_take] at hle
  have hlast : (gE l k).2.dropLast = (gE l k).2.take ((gE l k).2.length - 1) := List.dropLast_eq_take
  have hsl2 := hsl.take (m := (gE l k).2.length - 1) (by omega)
  (refine gK ?_; refine gX ?_; refine gQ ?_; refine gB ?_; refine gV ?_; (iterate 2 refine gM ?_); apply gw_d; exact w_index rfl rfl rfl rfl (by with_reducible exact rfl) (by omega); refine gF ?_; apply gw_d; exact w_load_fld rfl rfl rfl hb (hce 1 _ rfl); refine gL ?_; refine gM ?_; refine gN ?_; refine gM ?_; refine gC ?_; refine gO ?_)
  refine gc_if_dec rfl (fun h5 => ?_) (fun h5 => by omega)
  (refine gG ?_; (iterate 3 refine gM ?_); apply gw_d; exact w_index rfl rfl rfl rfl (by with_reducible exact rfl) (by omega); refine gF ?_; apply gw_d; exact w_load_fld rfl rfl rfl hb (hce 1 _ rfl); refine gM ?_; refine gA ?_; apply gw_d; exact w_cut_hi rfl rfl rfl rfl (by with_reducible exact castS (by omega)) (by omega))
  refine gw_append (news := ((gE l k).2.dropLast).flatMap encS) rfl rfl rfl .here (by rw [encS_len, List.length_dropLast]) (fun w' s hpos => ?_) (encS_one _) (by unfold maxLen; omega) (by omega) (by decide) rfl (fun A2 c3 => ?_)
  ·rw [hlast]
   exact (hsl2.later s).row (by rw [List.length_take]; omega)
  ·(refine gM ?_; refine gw_nil ?_; refine gH ?_; refine gX ?_; refine gG ?_; refine gM ?_; refine gA ?_; refine gM ?_; refine gw_nil ?_)
   exact gx_round (k + 1, A2, c3) (by dsimp only; omega) (by dsimp only; omega) kK ⟨by rw [hn]; rfl, rfl, trivial⟩ (by rw [hn, hv, List.flatMap_append]; exact .cons .here .nil)
 ·obtain rfl : k = l.length := by omega
  rw [List.take_length]
  (refine gI ?_; (iterate 2 refine gZ ?_); refine gJ ?_; refine gX ?_; refine gV ?_; (iterate 2 refine gM ?_); refine gO ?_; refine gR ?_)
  exact gx_ret1 rfl rfl fun w s => ⟨(A, c2), rfl, s.sep⟩

theorem r_outline_ok (w : World) (v : Value) (l : List Edg) (hl : Sl rEdge w w.heap.size v l) : Ok Tryz.prog 110 [v].toArray w fun r _ => r = .int .i64 (outlineE l) := by
 by_cases hlen : 2 ≤ l.length
 ·obtain ⟨ad, c, rfl, hc, hm, hb, hcell⟩ := hl.edge' (by omega)
  have h2 : ¬ l.length < 2 := by omega
  refine ok_enter Tryz.func110 rfl Tryz.ntmps110 rfl ?_
  (refine gV ?_; refine gM ?_; refine gO ?_; refine gQ ?_; refine gV ?_; refine gM ?_; refine gL ?_; refine gC ?_; refine gO ?_)
  refine gc_if_dec rfl (fun h => ?_) (fun h => ?_)
  ·(refine gV ?_; refine gM ?_; refine gO ?_; refine gR ?_; refine gT ?_)
   refine gi1 (fun _ _ => ?_)
   have : 16 < l.length := by omega
   simp [outlineE, this]
  have h16 : ¬ 16 < l.length := by omega
  (refine gK ?_; refine gX ?_; refine gQ ?_; refine gV ?_; refine gM ?_; refine gL ?_; refine gC ?_; refine gO ?_)
  refine gc_if_dec rfl (fun h => by omega) (fun _ => ?_)
  (refine gK ?_; refine gX ?_; refine gQ ?_; refine gV ?_; refine gM ?_; refine gO ?_; refine gB ?_)
  refine gc_loop (σ := Nat) [14, 15, 16, 17, 20, 21, 22, 23, 24, 25, 26, 2, 27, 28, 29, 30, 31, 32, 33, 34, 35, 36, 37, 38, 39, 40, 4, 41, 42, 43, 18, 19, 3] (fun k => [(3, .int .i64 k)]) (fun _ => []) (fun k => k ≤ l.length ∧ firstE (edgeE l) k = 0) (fun k => l.length - k) 0 ⟨Nat.zero_le _, rfl⟩ ⟨rfl, trivial⟩ .nil ?_
  rintro k base ⟨hk, hI⟩
  (refine gQ ?_; refine gV ?_; (iterate 2 refine gM ?_); refine gL ?_; refine gC ?_; refine gO ?_)
  refine gc_if_dec rfl (fun h => ?_) (fun h => ?_)
  ·have hlt : k < l.length := by omega
   obtain ⟨A1, c1, hce, hsz, hc1, hm1, hsl⟩ := hcell k hlt
   have hstop : ¬ edgeE l k = 0 → outlineE l = edgeE l k := fun hne => by
    have h3 := firstE_stop hI hne hlt
    unfold outlineE
    rw [if_neg h16, if_neg h2, h3, if_neg hne]
   (refine gK ?_; refine gX ?_; refine gQ ?_; refine gB ?_; refine gQ ?_; refine gV ?_; (iterate 2 refine gM ?_); apply gw_d; exact w_index rfl rfl rfl rfl (by with_reducible exact rfl) (by omega); refine gF ?_; apply gw_d; exact w_load_fld rfl rfl rfl hb (hce 0 _ rfl); apply gw_d; exact w_call rfl rfl (fun w s => rname_ok w _ hsz) rfl; apply gw_d; exact det_not_ rfl rfl rfl; refine gO ?_)
   refine gc_if rfl (fun h3 => ?_) (fun h3 => ?_)
   ·(refine gV ?_; refine gM ?_; refine gO ?_; refine gR ?_; refine gT ?_; refine gY ?_; (iterate 2 refine gT ?_); refine gY ?_; refine gT ?_)
    refine gi1 (fun _ _ => ?_)
    have : edgeE l k = 1 := by unfold edgeE; rw [if_neg (by simpa using h3)]
    rw [hstop (by rw [this]; decide), this]
   have hname : nameB (gE l k).1 = true := by simpa using h3
   (refine gK ?_; refine gX ?_; refine gQ ?_; refine gV ?_; (iterate 4 refine gM ?_); apply gw_d; exact w_index rfl rfl rfl rfl (by with_reducible exact rfl) (by omega); refine gF ?_; apply gw_d; exact w_load_fld rfl rfl rfl hb (hce 0 _ rfl); apply gw_d; exact w_call rfl rfl (fun w s => r_named_ok w _ l (hl.later s) k hlt) rfl; refine gO ?_)
   refine gc_if rfl (fun hold => ?_) (fun hJ => ?_)
   ·(refine gV ?_; refine gM ?_; refine gO ?_; refine gR ?_; refine gT ?_; refine gY ?_; (iterate 2 refine gT ?_); refine gY ?_; refine gT ?_)
    refine gi1 (fun _ _ => ?_)
    have : edgeE l k = 7 := by unfold edgeE; rw [if_pos hname, if_pos hold]
    rw [hstop (by rw [this]; decide), this]
   have he : edgeE l k = plineE (gE l k).2 := by unfold edgeE; rw [if_pos hname, if_neg (by simpa using hJ)]
   (refine gK ?_; refine gX ?_; refine gV ?_; (iterate 2 refine gM ?_); apply gw_d; exact w_index rfl rfl rfl rfl (by with_reducible exact rfl) (by omega); refine gF ?_; apply gw_d; exact w_load_fld rfl rfl rfl hb (hce 1 _ rfl); apply gw_d; exact w_call rfl rfl (fun w s => r_polyline_ok w _ _ (hsl.later s)) rfl; refine gM ?_; refine gN ?_; refine gM ?_; refine gC ?_; refine gO ?_)
   refine gc_if_dec rfl (fun h5 => ?_) (fun h5 => ?_)
   ·(refine gV ?_; (iterate 2 refine gM ?_); refine gO ?_; refine gR ?_; refine gY ?_; (iterate 2 refine gT ?_); refine gY ?_; refine gT ?_)
    refine gi1 (fun _ _ => ?_)
    rw [hstop (by rw [he]; exact h5), he]
   ·(refine gK ?_; refine gH ?_; refine gX ?_; refine gG ?_; refine gM ?_; refine gA ?_; refine gM ?_; refine gw_nil ?_)
    exact gx_round (k + 1) ⟨by omega, firstE_snoc hI (by rw [he]; simpa using h5)⟩ (by omega) kK ⟨rfl, trivial⟩ .nil
  ·obtain rfl : k = l.length := by omega
   have hall : ∀ i, i < l.length → 2 ≤ (gE l i).2.length ∧ (gE l i).2.length ≤ 40 := fun i hi => pline_len (edge_pline (firstE_at hI i hi))
   (refine gI ?_; (iterate 2 refine gZ ?_); refine gJ ?_; refine gX ?_; refine gQ ?_; refine gV ?_; refine gM ?_; refine gO ?_; refine gB ?_)
   refine gc_loop (σ := Nat) [44, 45, 46, 47, 50, 51, 52, 53, 54, 55, 56, 57, 58, 59, 60, 61, 62, 63, 6, 7, 64, 65, 66, 67, 68, 69, 70, 71, 72, 73, 2, 48, 49, 5] (fun k => [(5, .int .i64 k)]) (fun _ => []) (fun k => k ≤ l.length ∧ gapB l k = false) (fun k => l.length - k) 0 ⟨Nat.zero_le _, rfl⟩ ⟨rfl, trivial⟩ .nil ?_
   rintro i base2 ⟨hi, hJ⟩
   (refine gQ ?_; refine gV ?_; (iterate 2 refine gM ?_); refine gL ?_; refine gC ?_; refine gO ?_)
   refine gc_if_dec rfl (fun h => ?_) (fun h => ?_)
   ·have hlt : i < l.length := by omega
    have hp1 : (i + 1) % l.length < l.length := Nat.mod_lt _ (by omega)
    obtain ⟨A1, c1, hce1, _, hc1, hm1, hsl1⟩ := hcell i hlt
    obtain ⟨A2, c2, hce2, _, hc2, hm2, hsl2⟩ := hcell _ hp1
    have hn1 := hall i hlt
    have hn2 := hall _ hp1
    obtain ⟨a1, c1', hv1, _, _, hb1, hs1⟩ := hsl1.spot' (by omega)
    obtain ⟨a2, c2', hv2, _, _, hb2, hs2⟩ := hsl2.spot' (by omega)
    injection hv1 with e1 e2 e3
    injection hv2 with e4 e5 e6
    subst e1 e3 e4 e6
    have hcs1 := hs1 ((gE l i).2.length - 1) (by omega)
    have hcs2 := hs2 0 (by omega)
    (refine gK ?_; refine gX ?_; refine gQ ?_; refine gB ?_; refine gQ ?_)
    refine gc_draw 15 (by kernel_rfl) (by kernel_rfl) ?_
    ((iterate 2 refine dM ?_); apply gd_d; exact w_index rfl rfl rfl rfl (by with_reducible exact rfl) (by omega); apply gd_d; exact w_field rfl rfl rfl; apply gd_d; exact w_load_fld rfl rfl rfl hb (hce1 1 _ rfl); (iterate 2 refine dM ?_); apply gd_d; exact det_ar rfl rfl rfl rfl rfl (by omega); refine dM ?_; apply gd_d; exact w_len rfl rfl rfl; apply gd_d; exact det_rem rfl rfl rfl rfl (by omega) (by omega); apply gd_d; exact w_index rfl rfl rfl rfl (by with_reducible exact castM _ _) (by omega); apply gd_d; exact w_field rfl rfl rfl; apply gd_d; exact w_load_fld rfl rfl rfl hb (hce2 1 _ rfl); refine dM ?_; refine gd_nil ?_; refine gM ?_; refine gO ?_; refine gQ ?_)
    refine gc_draw 10 (by kernel_rfl) (by kernel_rfl) ?_
    ((iterate 2 refine dM ?_); apply gd_d; exact w_len rfl rfl rfl; apply gd_d; exact det_ar rfl rfl rfl rfl rfl (by omega); apply gd_d; exact w_index rfl rfl rfl rfl (by with_reducible exact castS (by omega)) (by omega); apply gd_d; exact w_load_elem rfl rfl rfl (by assumption) (by assumption) (by rfl); refine dM ?_; apply gd_d; exact w_index rfl rfl rfl rfl (by with_reducible exact cast0) (by omega); apply gd_d; exact w_load_elem rfl rfl rfl (by assumption) (by assumption) (by rfl); apply gd_d; exact w_ne2 rfl rfl rfl rfl; refine gd_nil ?_; refine gO ?_)
    refine gc_if_dec rfl (fun h5 => ?_) (fun h5 => ?_)
    ·(refine gV ?_; refine gM ?_; refine gO ?_; refine gR ?_; refine gY ?_; (iterate 2 refine gT ?_); refine gY ?_; refine gT ?_)
     refine gi1 (fun _ _ => ?_)
     have : gapB l l.length = true := range_any_no hlt (by unfold gapAt; exact decide_eq_true h5)
     unfold outlineE
     rw [if_neg h16, if_neg h2, if_pos hI, if_pos this]
    ·(refine gK ?_; refine gH ?_; refine gX ?_; refine gG ?_; refine gM ?_; refine gA ?_; refine gM ?_; refine gw_nil ?_)
     exact gx_round (i + 1) ⟨by omega, range_any_snoc hJ (by unfold gapAt; exact decide_eq_false h5)⟩ (by omega) kK ⟨rfl, trivial⟩ .nil
   ·obtain rfl : i = l.length := by omega
    have hpoly : outlineE l = polyE (vertsOf l) := by
     unfold outlineE
     rw [if_neg h16, if_neg h2, if_pos hI, if_neg (by rw [hJ]; decide)]
    (refine gI ?_; (iterate 2 refine gZ ?_); refine gJ ?_; refine gX ?_; refine gV ?_; refine gM ?_)
    refine gw_callm rfl (fun w s => r_vertices_ok w _ l (hl.later s) (by omega) (by omega) (fun x hx => ?_)) rfl (fun x => ?_)
    ·obtain ⟨i, hi, rfl⟩ := List.getElem_of_mem hx
     have := hall i hi
     rw [gE_get hi] at this
     omega
    ·(apply gw_d; exact w_call rfl rfl (fun w s => r_polygon_ok w _ (vertsOf l) (Sl.own (enc := encS) s .here rfl (fun p hp => ⟨rfl, verts_in hl p hp⟩))) rfl; refine gM ?_; refine gO ?_; refine gR ?_)
     refine gi1 (fun _ _ => ?_)
     rw [hpoly]
 ·obtain ⟨A, c, rfl, hc, hm⟩ := len_small hl
  refine ok_enter Tryz.func110 rfl Tryz.ntmps110 rfl ?_
  (refine gV ?_; refine gM ?_; refine gO ?_; refine gQ ?_; refine gV ?_; refine gM ?_; refine gL ?_; refine gC ?_; refine gO ?_)
  refine gc_if_dec rfl (fun h => by omega) (fun h => ?_)
  (refine gK ?_; refine gX ?_; refine gQ ?_; refine gV ?_; refine gM ?_; refine gL ?_; refine gC ?_; refine gO ?_)
  refine gc_if_dec rfl (fun h => ?_) (fun h => by omega)
  (refine gV ?_; refine gM ?_; refine gO ?_; refine gR ?_; refine gT ?_)
  refine gi1 (fun _ _ => ?_)
  have h1 : ¬ 16 < l.length := by omega
  have h2 : l.length < 2 := by omega
  simp [outlineE, h1, h2]
theorem r_within21_ok (w : World) (n b : Int) (hb : 0 ≤ b ∧ b ≤ 100000) : Ok Tryz.prog 109 [.int .i64 n, .int .i64 b].toArray w fun r _ => r = .bool (decide (-b ≤ n ∧ n ≤ b)) := by
 refine ok_enter Tryz.func109 rfl Tryz.ntmps109 rfl ?_
 focus (refine gV ?_; refine gM ?_; refine gN ?_; (iterate 2 refine gM ?_); apply gw_d; exact det_neg rfl rfl rfl (wrap_in (by omega)); refine gC ?_; refine gM ?_; refine gD (fun _ => ?_) (fun _ => ?_); (iterate 2 refine gM ?_); refine gC ?_; refine gPp ?_; refine gM ?_; refine gO ?_; refine gR ?_; rotate_left; (iterate 3 refine gU ?_); refine gPq ?_; refine gM ?_; refine gO ?_; refine gR ?_; rotate_left)
 all_goals (refine gb1 (fun _ _ => ?_); congr 1; symm; first | (apply decide_eq_true; omega) | (apply decide_eq_false; omega) | (congr 1; apply propext; constructor <;> omega))
theorem r_round0_ok (w : World) (a b : Int) (ha : a = 0) (hb : 1 ≤ b ∧ b ≤ 1000) : Ok Tryz.prog 129 [.int .i64 a, .int .i64 b].toArray w fun r _ => r = .int .i64 0 := by
 subst ha
 refine ok_enter Tryz.func129 rfl Tryz.ntmps129 rfl ?_
 (refine gV ?_; refine gM ?_; refine gO ?_; refine gQ ?_; refine gV ?_; refine gM ?_; refine gC ?_; refine gO ?_)
 refine gc_if_dec rfl (fun h => absurd h (by decide)) (fun _ => ?_)
 (refine gK ?_; refine gX ?_; refine gV ?_; refine gM ?_; refine gA ?_; refine gM ?_; refine gA ?_; refine gM ?_; refine gA ?_; apply gw_d; exact det_quo rfl rfl rfl rfl (by omega) (by omega) (by omega); refine gM ?_; refine gO ?_; refine gR ?_)
 refine gi1 (fun _ _ => ?_)
 rw [Int.ediv_eq_zero_of_lt (by omega) (by omega)]

theorem r_graded0_ok (w : World) (nm : ByteArray) (A : Option Addr) (c : Nat) (l : List (Int × Int)) (hl : Sl rSpot w w.heap.size (.slice A l.length c) l) (h2 : 2 ≤ l.length) (h40 : l.length ≤ 40) :
  OkM Tryz.prog 111 [.agg #[.string nm, .slice A l.length c], .agg #[.int .i64 0, .int .i64 0], .agg #[.int .i64 0, .int .i64 0]].toArray w
   (fun x : Option Addr × Nat => .agg #[.string nm, .slice x.1 l.length x.2]) (fun x => [Own x.1 l.length x.2 106 2 (l.flatMap encS)]) := by
 obtain ⟨ad, c', hv, hc, hm, hb, hcell⟩ := hl.spot' (by omega)
 injection hv with e1 e2 e3
 subst e1 e3
 unfold OkM
 refine ok_enter Tryz.func111 rfl Tryz.ntmps111 rfl ?_
 (refine gV ?_; refine gw_boxd (v := .agg _) rfl rfl (fun _ => ?_); refine gw_boxd (v := .agg _) rfl rfl (fun _ => ?_); refine gw_boxd (v := .agg _) rfl rfl (fun _ => ?_); refine w_alloc rfl (fun _ => ?_); refine gN ?_; refine gF ?_; refine gW (.there (.there (.there .here))) ?_; apply gw_d; exact w_build (cells := #[.string nm, .slice none 0 0]) rfl rfl (by rfl); refine w_alloc rfl (fun _ => ?_); refine w_store_all rfl rfl rfl rfl rfl .here rfl ?_; refine gN ?_; refine gF ?_; refine gW (.there (.there (.there (.there .here)))) ?_; refine gL ?_; refine gA ?_; refine gM ?_; refine gO ?_; refine gQ ?_; refine gV ?_; refine gM ?_; refine gO ?_; refine gB ?_)
 rename_i bx ba bb b6 b7
 refine gc_own0 106 2 ?_
 refine gc_loop (σ := Nat × Option Addr × Nat) [18, 19, 20, 23, 24, 25, 26, 27, 28, 29, 30, 31, 32, 33, 34, 35, 36, 37, 38, 39, 40, 41, 42, 43, 44, 45, 46, 47, 48, 49, 10, 50, 51, 52, 53, 54, 55, 56, 57, 58, 59, 60, 61, 62, 63, 64, 65, 66, 67, 68, 69, 70, 71, 72, 73, 21, 22, 9] (fun s => [(9, .int .i64 s.1)])
  (fun s => [Box b7 109 #[.string nm, .slice s.2.1 s.1 s.2.2], Own s.2.1 s.1 s.2.2 106 2 ((l.take s.1).flatMap encS), Box b6 109 #[.string ByteArray.empty, .slice none 0 0], Box bb 106 #[.int .i64 0, .int .i64 0], Box ba 106 #[.int .i64 0, .int .i64 0], Box bx 109 #[.string nm, .slice (some ad) l.length c]])
  (fun s => s.1 ≤ l.length) (fun s => l.length - s.1) (0, none, 0) (Nat.zero_le _) ⟨rfl, trivial⟩ (.cons (.there .here) (.cons .here (.cons .here (.cons .here (.cons .here (.cons .here .nil)))))) ?_
 rintro ⟨k, A1, c1⟩ base hk
 dsimp only at hk ⊢
 (refine gQ ?_; refine gV ?_; (iterate 2 refine gM ?_); refine gC ?_; refine gO ?_)
 refine gc_if_dec rfl (fun h => ?_) (fun h => ?_)
 ·have hlt : k < l.length := by omega
  have hce := hcell k hlt
  have hin := hl.spots_in (gS l k) (by rw [gS_get hlt]; exact List.getElem_mem hlt)
  unfold inI64 at hin
  (refine gK ?_; refine gX ?_; refine gQ ?_; refine gB ?_; refine gQ ?_)
  refine gc_block_draw Nat 28 (fun i => ([[], [], [0, 1], [], [3], [0, 1, 2, 3, 4], [], [], [7], [6, 7, 8], [0, 1, 2, 3, 4, 5, 6, 7, 8, 9], [], [0, 1, 2, 3, 4, 5, 6, 7, 8, 9, 10, 11], [], [], [13, 14], [], [16], [13, 14, 15, 16, 17], [], [], [20], [19, 20, 21], [13, 14, 15, 16, 17, 18, 19, 20, 21, 22], [], [0, 1, 2, 3, 4, 5, 6, 7, 8, 9, 10, 11, 12, 13, 14, 15, 16, 17, 18, 19, 20, 21, 22, 23, 24], [0, 1, 2, 3, 4, 5, 6, 7, 8, 9, 10, 11, 12, 13, 14, 15, 16, 17, 18, 19, 20, 21, 22, 23, 24, 25], []] : List (List Nat)).getD i []) rfl (by kernel_rfl) ?_
  (apply gb_d; (intro γ; exact det_m rfl rfl (by conv => (lhs; whnf))); (intros; rfl); (intros; rfl); apply gb_d; (intro γ; exact det_m rfl rfl (by conv => (lhs; whnf))); (intros; rfl); (intros; rfl); apply gb_d; (intro γ; exact det_ar rfl rfl rfl rfl rfl (by omega)); (intros; rfl); (intros; rfl); apply gb_d; (intro γ; exact w_field rfl rfl rfl); (intros; rfl); (intros; rfl); apply gb_d; (intro γ; exact w_load_box rfl rfl rfl (.there (.there (.there (.there .here)))) rfl); (intros; rfl); (intros; rfl); apply gb_d; (intro γ; exact det_ar rfl rfl rfl rfl rfl (by omega)); (intros; rfl); (intros; rfl); apply gb_d; (intro γ; exact det_m rfl rfl (by conv => (lhs; whnf))); (intros; rfl); (intros; rfl); apply gb_d; (intro γ; exact w_field rfl rfl rfl); (intros; rfl); (intros; rfl); apply gb_d; (intro γ; exact w_load_box rfl rfl rfl (.there (.there (.there .here))) rfl); (intros; rfl); (intros; rfl); apply gb_d; (intro γ; exact det_ar rfl rfl rfl rfl rfl (by omega)); (intros; rfl); (intros; rfl); apply gb_d; (intro γ; exact det_ar rfl rfl rfl rfl rfl (by omega)); (intros; rfl); (intros; rfl); apply gb_d; (intro γ; exact det_m rfl rfl (by conv => (lhs; whnf))); (intros; rfl); (intros; rfl); apply gb_d; (intro γ; exact w_call rfl rfl (fun w s => r_round0_ok w _ _ (by omega) (by omega)) rfl); (intros; rfl); (intros; rfl); apply gb_d; (intro γ; exact det_m rfl rfl (by conv => (lhs; whnf))); (intros; rfl); (intros; rfl); apply gb_d; (intro γ; exact det_m rfl rfl (by conv => (lhs; whnf))); (intros; rfl); (intros; rfl); apply gb_d; (intro γ; exact det_ar rfl rfl rfl rfl rfl (by omega)); (intros; rfl); (intros; rfl); apply gb_d; (intro γ; exact w_field rfl rfl rfl); (intros; rfl); (intros; rfl); apply gb_d; (intro γ; exact w_load_box rfl rfl rfl (.there (.there (.there (.there .here)))) rfl); (intros; rfl); (intros; rfl); apply gb_d; (intro γ; exact det_ar rfl rfl rfl rfl rfl (by omega)); (intros; rfl); (intros; rfl); apply gb_d; (intro γ; exact det_m rfl rfl (by conv => (lhs; whnf))); (intros; rfl); (intros; rfl); apply gb_d; (intro γ; exact w_field rfl rfl rfl); (intros; rfl); (intros; rfl); apply gb_d; (intro γ; exact w_load_box rfl rfl rfl (.there (.there (.there .here))) rfl); (intros; rfl); (intros; rfl); apply gb_d; (intro γ; exact det_ar rfl rfl rfl rfl rfl (by omega)); (intros; rfl); (intros; rfl); apply gb_d; (intro γ; exact det_ar rfl rfl rfl rfl rfl (by omega)); (intros; rfl); (intros; rfl); apply gb_d; (intro γ; exact det_m rfl rfl (by conv => (lhs; whnf))); (intros; rfl); (intros; rfl); apply gb_d; (intro γ; exact w_call rfl rfl (fun w s => r_round0_ok w _ _ (by omega) (by omega)) rfl); (intros; rfl); (intros; rfl); apply gb_d; (intro γ; exact w_build (cells := #[.int .i64 0, .int .i64 0]) rfl rfl (by rfl)); (intros; rfl); (intros; rfl))
  refine gb_alloc id id (fun _ => rfl) (fun _ => rfl) ?_
  refine GB.nil (fun β => ?_)
  refine w_store_all (b := β 27) (cs := #[.int .i64 0, .int .i64 0]) (vs := #[.int .i64 0, .int .i64 0]) rfl rfl rfl rfl rfl .here rfl ?_
  generalize β 27 = bd
  (refine gO ?_)
  refine gc_block_draw Nat 22 (fun i => ([[], [0], [], [2], [], [2, 3, 4], [2, 3, 4, 5], [2, 3, 4, 5, 6], [], [8], [2, 3, 4, 5, 6, 7, 8, 9], [], [11], [], [11, 12, 13], [11, 12, 13, 14], [11, 12, 13, 14, 15], [], [17], [11, 12, 13, 14, 15, 16, 17, 18], [2, 3, 4, 5, 6, 7, 8, 9, 10, 11, 12, 13, 14, 15, 16, 17, 18, 19], [2, 3, 4, 5, 6, 7, 8, 9, 10, 11, 12, 13, 14, 15, 16, 17, 18, 19, 20]] : List (List Nat)).getD i []) rfl (by kernel_rfl) ?_
  (apply gb_d; (intro γ; exact w_field rfl rfl rfl); (intros; rfl); (intros; rfl); apply gb_d; (intro γ; exact w_load_box rfl rfl rfl (.there .here) rfl); (intros; rfl); (intros; rfl); apply gb_d; (intro γ; exact w_field rfl rfl rfl); (intros; rfl); (intros; rfl); apply gb_d; (intro γ; exact w_load_box rfl rfl rfl (.there (.there (.there (.there (.there (.there .here)))))) rfl); (intros; rfl); (intros; rfl); apply gb_d; (intro γ; exact det_m rfl rfl (by conv => (lhs; whnf))); (intros; rfl); (intros; rfl); apply gb_d; (intro γ; exact w_index rfl rfl rfl rfl (by with_reducible exact rfl) (by omega)); (intros; rfl); (intros; rfl); apply gb_d; (intro γ; exact w_field rfl rfl rfl); (intros; rfl); (intros; rfl); apply gb_d; (intro γ; exact w_load_fld rfl rfl rfl hb (hce 0 _ rfl)); (intros; rfl); (intros; rfl); apply gb_d; (intro γ; exact w_field rfl rfl rfl); (intros; rfl); (intros; rfl); apply gb_d; (intro γ; exact w_load_box rfl rfl rfl .here rfl); (intros; rfl); (intros; rfl); apply gb_d; (intro γ; exact det_ar rfl rfl rfl rfl rfl (by omega)); (intros; rfl); (intros; rfl); apply gb_d; (intro γ; exact w_field rfl rfl rfl); (intros; rfl); (intros; rfl); apply gb_d; (intro γ; exact w_load_box rfl rfl rfl (.there (.there (.there (.there (.there (.there .here)))))) rfl); (intros; rfl); (intros; rfl); apply gb_d; (intro γ; exact det_m rfl rfl (by conv => (lhs; whnf))); (intros; rfl); (intros; rfl); apply gb_d; (intro γ; exact w_index rfl rfl rfl rfl (by with_reducible exact rfl) (by omega)); (intros; rfl); (intros; rfl); apply gb_d; (intro γ; exact w_field rfl rfl rfl); (intros; rfl); (intros; rfl); apply gb_d; (intro γ; exact w_load_fld rfl rfl rfl hb (hce 1 _ rfl)); (intros; rfl); (intros; rfl); apply gb_d; (intro γ; exact w_field rfl rfl rfl); (intros; rfl); (intros; rfl); apply gb_d; (intro γ; exact w_load_box rfl rfl rfl .here rfl); (intros; rfl); (intros; rfl); apply gb_d; (intro γ; exact det_ar rfl rfl rfl rfl rfl (by omega)); (intros; rfl); (intros; rfl); apply gb_d; (intro γ; exact w_build (cells := #[.int .i64 ((gS l k).1 + 0), .int .i64 ((gS l k).2 + 0)]) rfl rfl (by rfl)); (intros; rfl); (intros; rfl))
  refine gb_bslice1 (fun _ => .agg #[.int .i64 ((gS l k).1 + 0), .int .i64 ((gS l k).2 + 0)]) id id (fun _ => rfl) (fun _ => rfl) (fun _ => rfl) (fun _ => rfl) rfl rfl (fun _ _ => rfl) (fun _ => rfl) ?_
  refine GB.nil (fun γ => ?_)
  have hrow : (l.take (k + 1)).flatMap encS = (l.take k).flatMap encS ++ [.int .i64 ((gS l k).1 + 0), .int .i64 ((gS l k).2 + 0)] := by
   rw [List.take_succ_eq_append_getElem hlt, List.flatMap_append, gS_get hlt, Int.add_zero, Int.add_zero]
   simp [encS]
  refine gw_append (news := [.int .i64 ((gS l k).1 + 0), .int .i64 ((gS l k).2 + 0)]) rfl rfl rfl (.there (.there (.there .here))) rfl (fun w' s _ => ?_) (fun u hu => ?_) (by unfold maxLen; omega) (by omega) (by decide) rfl (fun A2 c2 => ?_)
  ·refine ⟨⟨γ 21, 0, none⟩, rfl, fun j u hu => ?_⟩
   rw [add_zero]
   refine (Box.cell s.head j).trans ?_
   change (#[Value.int .i64 ((gS l k).1 + 0), Value.int .i64 ((gS l k).2 + 0)] : Array Value)[j]? = some u
   rw [List.getElem?_toArray]
   exact hu
  ·simp only [List.mem_cons, List.not_mem_nil, or_false] at hu
   rcases hu with rfl | rfl <;> rfl
  ·rw [← hrow]
   (refine gF ?_; refine w_store rfl rfl rfl rfl rfl (.there (.there (.there .here))) rfl rfl ?_; refine gw_nil ?_; refine gH ?_; refine gX ?_; refine gG ?_; refine gM ?_; refine gA ?_; refine gM ?_; refine gw_nil ?_)
   exact gx_round (k + 1, A2, c2) (by dsimp only; omega) (by dsimp only; omega) kK ⟨rfl, trivial⟩ (.cons .here (.cons .here (.cons (.there (.there .here)) (.cons (.there (.there .here)) (.cons (.there (.there .here)) (.cons (.there (.there .here)) .nil))))))
 ·obtain rfl : k = l.length := by omega
  rw [List.take_length]
  (refine gI ?_; (iterate 2 refine gZ ?_); refine gJ ?_; refine gX ?_; refine gV ?_; apply gw_d; exact w_load_boxN rfl rfl rfl .here rfl; refine w_store_all rfl rfl rfl rfl rfl (.there (.there .here)) rfl ?_; refine gO ?_; refine gR ?_)
  refine gx_retc rfl rfl .here rfl fun w' s => ?_
  exact ⟨(A1, c1), rfl, (s.sub (K := [Own A1 l.length c1 106 2 (l.flatMap encS)]) (.cons (.there (.there .here)) .nil)).sep⟩

def linesO (ls : List (List (Int × Int))) (vs : List (Option Addr × Nat)) (w : World) : Prop :=
 vs.length = ls.length ∧ ∀ (i : Nat) (x : Option Addr × Nat) (l : List (Int × Int)), vs[i]? = some x → ls[i]? = some l → (Own x.1 l.length x.2 106 2 (l.flatMap encS)).p w
def fpO (ls : List (List (Int × Int))) (vs : List (Option Addr × Nat)) (b : Nat) : Prop := ∃ (i : Nat) (x : Option Addr × Nat) (l : List (Int × Int)), vs[i]? = some x ∧ ls[i]? = some l ∧ (Value.slice x.1 l.length x.2).ownBlock = some b
def LinesO (ls : List (List (Int × Int))) (vs : List (Option Addr × Nat)) : Res :=
 ⟨fpO ls vs, linesO ls vs, fun w w' h ⟨h1, h2⟩ => ⟨h1, fun i x l hb hl => (Own x.1 l.length x.2 106 2 (l.flatMap encS)).stable w w' (fun b hb' => h b ⟨i, x, l, hb, hl, hb'⟩) (h2 i x l hb hl)⟩⟩
theorem gc_lineso {P : Program} {Q : Exit → Act → World → Prop} {N : Nat} {w0 : World} {L : List Res} {e : Env} {c : Code} (k : GC P Q N w0 (LinesO [] [] :: L) c e) : GC P Q N w0 L c e := ⟨fun w s =>
 k.h w (s.add (Ext.refl w) ⟨rfl, fun i b l hb => by simp at hb⟩ fun b hb => by
  obtain ⟨i, x, l, h, _⟩ := hb
  simp at h)⟩
theorem at_snoc {α β : Type} {ls : List α} {vs : List β} {l : α} {x : β} (h : vs.length = ls.length) {i : Nat} {y : β} {m : α} (hy : (vs ++ [x])[i]? = some y) (hm : (ls ++ [l])[i]? = some m) : (vs[i]? = some y ∧ ls[i]? = some m) ∨ (y = x ∧ m = l) := by
 rcases Nat.lt_or_ge i vs.length with hi | hi
 ·rw [List.getElem?_append_left hi] at hy
  rw [List.getElem?_append_left (by omega)] at hm
  exact .inl ⟨hy, hm⟩
 ·rw [List.getElem?_append_right hi] at hy
  rw [List.getElem?_append_right (by omega), ← h] at hm
  cases hk : i - vs.length with
  | zero =>
   rw [hk] at hy hm
   simp at hy hm
   exact .inr ⟨hy.symm, hm.symm⟩
  | succ m => rw [hk] at hy; simp at hy
theorem LinesO.snoc {ls : List (List (Int × Int))} {vs : List (Option Addr × Nat)} {l : List (Int × Int)} {x : Option Addr × Nat} {L : List Res} : Ent (Own x.1 l.length x.2 106 2 (l.flatMap encS) :: LinesO ls vs :: L) (LinesO (ls ++ [l]) (vs ++ [x]) :: L) := fun w0 w s => by
 have h1 := s.head
 obtain ⟨h2, h3⟩ := s.drop.head
 refine s.merge (fun b hb => ?_) ⟨by simp [h2], fun i y m hy hm => ?_⟩
 ·obtain ⟨i, y, m, hy, hm, ho⟩ := hb
  rcases at_snoc h2 hy hm with ⟨q1, q2⟩ | ⟨rfl, rfl⟩
  ·exact .inr ⟨i, y, m, q1, q2, ho⟩
  ·exact .inl ho
 ·rcases at_snoc h2 hy hm with ⟨q1, q2⟩ | ⟨rfl, rfl⟩
  ·exact h3 i y m q1 q2
  ·exact h1
def encO (p : Edg × (Option Addr × Nat)) : List Value := [.string p.1.1, .slice p.2.1 p.1.2.length p.2.2]
def rowO (l : List Edg) (vs : List (Option Addr × Nat)) : List Value := (l.zip vs).flatMap encO
theorem rowO_snoc {l : List Edg} {vs : List (Option Addr × Nat)} {x : Edg} {b : Option Addr × Nat} (h : l.length = vs.length) : rowO (l ++ [x]) (vs ++ [b]) = rowO l vs ++ encO (x, b) := by
 unfold rowO
 rw [List.zip_append h, List.flatMap_append]
 simp
theorem deep_edgesO {A : Option Addr} {n c : Nat} {l : List Edg} {vs : List (Option Addr × Nat)} {L : List Res} (hn : n = l.length) (hin : ∀ x ∈ l, x.1.size ≤ maxLen ∧ x.2.length ≤ 40 ∧ ∀ p ∈ x.2, inI64 p.1 ∧ inI64 p.2) :
  Ent (Own A n c 109 2 (rowO l vs) :: LinesO (l.map (·.2)) vs :: L) (Deep (fun x => (Value.slice A n c).ownBlock = some x ∨ fpO (l.map (·.2)) vs x) rEdge (.slice A n c) l :: L) := fun w0 w s => by
 have hown : w.ownsRow 0 109 2 (.slice A n c) n (rowO l vs) := s.head
 obtain ⟨h2, h3⟩ := s.drop.head
 rw [List.length_map] at h2
 refine s.merge (fun x hx => hx) ?_
 subst hn
 change SlS rEdge w (fun x => (Value.slice A l.length c).ownBlock = some x ∨ fpO (l.map (·.2)) vs x) (.slice A l.length c) l
 rcases hown.2 with ⟨hv, h0⟩ | ⟨g, cap, cur, hv, _, hg, h1, h2', _⟩
 ·injection hv with e1 e2 e3
  subst e1 e3
  exact ⟨none, 0, rfl, by omega, Nat.zero_le _, fun k hk => by omega⟩
 ·injection hv with e1 e2 e3
  subst e1 e3
  refine ⟨_, _, rfl, h1, h2', fun k hk => ?_⟩
  have hkb : k < vs.length := by omega
  have hz : (l.zip vs)[k]? = some (l[k], vs[k]) := by rw [List.getElem?_zip_eq_some]; exact ⟨List.getElem?_eq_getElem hk, List.getElem?_eq_getElem hkb⟩
  have hkz : k < (l.zip vs).length := (List.getElem?_eq_some_iff.1 hz).1
  have hzz : (l.zip vs)[k] = (l[k], vs[k]) := (List.getElem?_eq_some_iff.1 hz).2
  have hmap : (l.map (·.2))[k]? = some l[k].2 := by rw [List.getElem?_map, List.getElem?_eq_getElem hk]; rfl
  have hline : w.ownsRow 0 106 2 (.slice vs[k].1 l[k].2.length vs[k].2) l[k].2.length (l[k].2.flatMap encS) := h3 k vs[k] l[k].2 (List.getElem?_eq_getElem hkb) hmap
  obtain ⟨q1, q2, q3⟩ := hin l[k] (List.getElem_mem hk)
  refine ⟨⟨g, 0, none⟩, encO (l[k], vs[k]), rfl, .inl rfl, fun j u hu => ?_, _, rfl, q1, ?_⟩
  ·refine hown.cells rfl _ u ?_
   have hj : j < 2 := (List.getElem?_eq_some_iff.1 hu).1
   have := flat_get (enc := encO) (sz := 2) (l.zip vs) (fun _ _ => rfl) k hkz j hj
   rw [hzz] at this
   exact this.trans hu
  ·rcases hline.2 with ⟨hv, h0⟩ | ⟨g', cap', cur', hv, _, hg', h1', h2'', _⟩
   ·injection hv with e1 e2 e3
    refine ⟨vs[k].1, vs[k].2, rfl, by omega, by unfold maxLen; omega, fun i hi => by omega⟩
   ·have hv' := hv
    injection hv with e1 e2 e3
    refine ⟨vs[k].1, vs[k].2, rfl, by omega, by rw [e3]; exact h2'', fun i hi => ⟨⟨g', 0, none⟩, encS l[k].2[i], e1, .inr ⟨k, vs[k], l[k].2, List.getElem?_eq_getElem hkb, hmap, ?_⟩, fun j u hu => ?_, rfl, q3 _ (List.getElem_mem hi)⟩⟩
    ·rw [e1]; rfl
    ·have hj : j < 2 := (List.getElem?_eq_some_iff.1 hu).1
     have := flat_get (enc := encS) (sz := 2) l[k].2 (fun _ _ => rfl) i hi j hj
     rw [show rSpot.size = 2 from rfl]
     exact hline.cells (by rw [e1]; rfl) _ u (this.trans hu)
theorem St.behind {w0 w : World} {K : List Res} : ∀ {X : List Res}, St w0 (X ++ K) w → St w0 K w
 | [], s => s
 | _ :: _, s => St.behind s.drop

theorem r_graded_ok (w : World) (nm : ByteArray) (g : Int) (m : Bool) (Ae An Ac Aw : Option Addr) (ce nn cn cc nw cw : Nat) (l : List Edg) (cs : List (Int × Int))
  (hl : Sl rEdge w w.heap.size (.slice Ae l.length ce) l) (hcs : Sl rSpot w w.heap.size (.slice Ac cs.length cc) cs) :
  OkM Tryz.prog 95 [.agg #[.string nm, .slice Ae l.length ce, .int .i64 g, .slice An nn cn, .slice Ac cs.length cc, .slice Aw nw cw, .bool m], .int .i64 0].toArray w
   (fun x : Option Addr × Nat × (Nat → Prop) => .tuple #[.slice x.1 (if gradedE l cs = 0 then l.length else 0) x.2.1, .int .i64 (gradedE l cs)])
   (fun x => if gradedE l cs = 0 then [Deep x.2.2 rEdge (.slice x.1 l.length x.2.1) l] else []) := by
 obtain ⟨A', c', hv, hcc, hcm, hccell⟩ := hcs.spot
 injection hv with e1 e2 e3
 subst e1 e3
 have hll := len_small hl
 obtain ⟨A', c', hv, hlc, hlm⟩ := hll
 injection hv with e1 e2 e3
 subst e1 e3
 have bad : ∀ k : Int, ¬ k = 0 → gradedE l cs = k → ∀ w' : World, ∃ x : Option Addr × Nat × (Nat → Prop), Value.tuple #[.slice none 0 0, .int .i64 k] = .tuple #[.slice x.1 (if gradedE l cs = 0 then l.length else 0) x.2.1, .int .i64 (gradedE l cs)] ∧
   Made w (if gradedE l cs = 0 then [Deep x.2.2 rEdge (.slice x.1 l.length x.2.1) l] else []) w' := fun k hk he w' => ⟨(none, 0, fun _ => False), by rw [he, if_neg hk], by rw [he, if_neg hk]; exact Made.nil _ _⟩
 unfold OkM
 refine ok_enter Tryz.func95 rfl Tryz.ntmps95 rfl ?_
 (refine gV ?_; refine gw_boxd (v := .agg _) rfl rfl (fun _ => ?_); (iterate 2 refine gM ?_); refine gO ?_; refine gQ ?_; refine gV ?_; refine gM ?_; apply gw_d; exact w_call rfl rfl (fun w s => r_within21_ok w _ _ (by decide)) rfl; apply gw_d; exact det_not_dec rfl rfl rfl; refine gO ?_)
 rename_i bp
 refine gc_if_dec rfl (fun h => absurd (by decide) h) (fun _ => ?_)
 (refine gK ?_; refine gX ?_; refine gV ?_; refine gF ?_; refine gW .here ?_; refine gL ?_; refine gM ?_; refine gO ?_; refine gQ ?_; refine gV ?_; refine gF ?_; refine gW .here ?_; refine gL ?_; refine gM ?_; refine gC ?_; refine gO ?_)
 refine gc_if_dec rfl (fun h => ?_) (fun h => ?_)
 ·(refine gV ?_; (iterate 2 refine gM ?_); refine gO ?_; refine gR ?_; refine gT ?_)
  refine gx_ret2 (u := .slice _ _ _) (v := .int _ _) rfl rfl rfl (fun _ _ => ?_)
  exact bad 1 (by decide) (by unfold gradedE; rw [if_pos (by omega)]) _
 have hlen : cs.length = l.length := by omega
 (refine gK ?_; refine gX ?_; refine gQ ?_; refine gV ?_; refine gM ?_; refine gO ?_; refine gB ?_)
 refine gc_loopK (σ := Nat) [25, 26, 27, 30, 31, 32, 33, 34, 35, 36, 37, 38, 39, 40, 41, 42, 43, 44, 45, 46, 47, 4, 5, 28, 29, 7] (fun k => [(7, .int .i64 k)]) (fun k => k ≤ cs.length ∧ (cs.take k).any farB = false) (fun k => cs.length - k) 0 ⟨Nat.zero_le _, rfl⟩ ⟨rfl, trivial⟩ ?_
 rintro k base ⟨hk, hI⟩
 (refine gQ ?_; refine gV ?_; (iterate 2 refine gM ?_); refine gC ?_; refine gO ?_)
 refine gc_if_dec rfl (fun h => ?_) (fun h => ?_)
 ·have hlt : k < cs.length := by omega
  obtain ⟨ad, rfl, hb, hce, _⟩ := hccell k hlt
  have hfar : farB cs[k] = true → cs.any farB = true := fun h => List.any_eq_true.2 ⟨_, List.getElem_mem hlt, h⟩
  have hsn : farB cs[k] = false → (cs.take (k + 1)).any farB = false := fun h => by rw [List.take_succ_eq_append_getElem hlt, List.any_append, hI]; simp [h]
  focus (refine gK ?_; refine gX ?_; refine gQ ?_; refine gB ?_; refine gV ?_; refine gF ?_; refine gW .here ?_; refine gM ?_; apply gw_d; exact w_index rfl rfl rfl rfl (by with_reducible exact rfl) (by omega); refine gF ?_; apply gw_d; exact w_load_fld rfl rfl rfl hb (hce 0 _ rfl); apply gw_d; exact w_call rfl rfl (fun w s => r_within21_ok w _ _ (by decide)) rfl; apply gw_d; exact det_not_dec rfl rfl rfl; refine gM ?_; refine gD (fun _ => ?_) (fun _ => ?_); (iterate 8 refine gU ?_); refine gPp ?_; refine gO ?_; refine gc_if_true rfl ?_; refine gV ?_; (iterate 2 refine gM ?_); refine gO ?_; refine gR ?_; refine gY ?_; (iterate 2 refine gT ?_); refine gY ?_; refine gT ?_; rotate_left; refine gF ?_; refine gW .here ?_; refine gM ?_; apply gw_d; exact w_index rfl rfl rfl rfl (by with_reducible exact rfl) (by omega); refine gF ?_; apply gw_d; exact w_load_fld rfl rfl rfl hb (hce 1 _ rfl); apply gw_d; exact w_call rfl rfl (fun w s => r_within21_ok w _ _ (by decide)) rfl; apply gw_d; exact det_not_dec rfl rfl rfl; refine gPq ?_; refine gO ?_; refine gc_if_dec rfl (fun _ => ?_) (fun _ => ?_); refine gV ?_; (iterate 2 refine gM ?_); refine gO ?_; refine gR ?_; refine gY ?_; (iterate 2 refine gT ?_); refine gY ?_; refine gT ?_; rotate_left; refine gK ?_; refine gH ?_; refine gX ?_; refine gG ?_; refine gM ?_; refine gA ?_; refine gM ?_; refine gw_nil ?_; rotate_left)
  ·refine gx_ret2 (u := .slice _ _ _) (v := .int _ _) rfl rfl rfl (fun _ _ => ?_)
   exact bad 3 (by decide) (by unfold gradedE; rw [if_neg (by omega), if_pos (hfar (by unfold farB; simp only [Bool.or_eq_true, Bool.not_eq_true', decide_eq_false_iff_not]; left; assumption))]) _
  ·refine gx_ret2 (u := .slice _ _ _) (v := .int _ _) rfl rfl rfl (fun _ _ => ?_)
   exact bad 3 (by decide) (by unfold gradedE; rw [if_neg (by omega), if_pos (hfar (by unfold farB; simp only [Bool.or_eq_true, Bool.not_eq_true', decide_eq_false_iff_not]; right; assumption))]) _
  ·exact gx_round (k + 1) ⟨by omega, hsn (by unfold farB; simp only [Bool.or_eq_false_iff, Bool.not_eq_false', decide_eq_true_eq]; constructor <;> (apply Classical.not_not.1; assumption))⟩ (by omega) kK ⟨rfl, trivial⟩ (Sub.all _)
 obtain rfl : k = cs.length := by omega
 rw [List.take_length] at hI
 have hE : gradedE l cs = outlineE l := by unfold gradedE; rw [if_neg (by omega), if_neg (by rw [hI]; decide)]
 (refine gI ?_; (iterate 2 refine gZ ?_); refine gJ ?_; refine gX ?_; refine gQ ?_; refine gV ?_; refine gF ?_; refine gW .here ?_; apply gw_d; exact w_call rfl rfl (fun w s => r_outline_ok w _ l (hl.later s)) rfl; refine gM ?_; refine gN ?_; refine gM ?_; refine gC ?_; refine gO ?_)
 refine gc_if_dec rfl (fun h => ?_) (fun h => ?_)
 ·(refine gV ?_; (iterate 3 refine gM ?_); refine gO ?_; refine gR ?_; refine gT ?_)
  refine gx_ret2 (u := .slice _ _ _) (v := .int _ _) rfl rfl rfl (fun _ _ => ?_)
  exact bad _ h hE _
 have hE0 : outlineE l = 0 := by simpa using h
 obtain ⟨hl2, hl16, hlines⟩ := outline_good hE0
 obtain ⟨ade, ce', hv, _, _, hbe, hecell⟩ := hl.edge' (by omega)
 injection hv with e1 e2 e3
 subst e1 e3
 obtain ⟨adc, cc', hv, _, _, hbc, hccell'⟩ := hcs.spot' (by omega)
 injection hv with e1 e2 e3
 subst e1 e3
 have hin : ∀ x ∈ l, x.1.size ≤ maxLen ∧ x.2.length ≤ 40 ∧ ∀ p ∈ x.2, inI64 p.1 ∧ inI64 p.2 := fun x hx => by
  obtain ⟨u, hu⟩ := hl.edges_in x hx
  obtain ⟨i, hi, rfl⟩ := List.getElem_of_mem hx
  obtain ⟨_, _, _, hs, _⟩ := hecell i hi
  have := hlines i hi
  rw [gE_get hi] at this hs
  refine ⟨?_, this.2, hu.spots_in⟩
  obtain ⟨_, _, _, _, _, h3⟩ := hl
  obtain ⟨_, _, _, _, _, _, _, h4, _⟩ := h3 i hi
  exact h4
 (refine gK ?_; refine gX ?_; refine gV ?_; refine gM ?_; refine gO ?_; refine gQ ?_; refine gV ?_; refine gM ?_; refine gO ?_; refine gB ?_)
 refine gc_own0 109 2 (gc_lineso ?_)
 refine gc_loop (σ := Nat × Option Addr × Nat × List (Option Addr × Nat)) [54, 55, 56, 59, 60, 61, 62, 63, 64, 65, 66, 67, 68, 69, 70, 71, 11, 12, 72, 73, 74, 75, 76, 77, 78, 79, 80, 81, 82, 83, 84, 85, 86, 87, 88, 89, 90, 91, 92, 93, 94, 95, 96, 97, 98, 9, 57, 58, 10] (fun s => [(9, .slice s.2.1 s.1 s.2.2.1), (10, .int .i64 s.1)])
  (fun s => [Own s.2.1 s.1 s.2.2.1 109 2 (rowO (l.take s.1) s.2.2.2), LinesO ((l.take s.1).map (·.2)) s.2.2.2, Box bp 113 #[.string nm, .slice (some ade) l.length ce, .int .i64 g, .slice An nn cn, .slice (some adc) cs.length cc, .slice Aw nw cw, .bool m]])
  (fun s => s.1 ≤ l.length ∧ s.2.2.2.length = s.1) (fun s => l.length - s.1) (0, none, 0, []) ⟨Nat.zero_le _, rfl⟩ ⟨rfl, rfl, trivial⟩ (.cons (.there .here) (.cons .here (.cons .here .nil))) ?_
 rintro ⟨k, A, c2, vs⟩ base ⟨hk, hbs⟩
 dsimp only at hk hbs ⊢
 (refine gQ ?_; refine gV ?_; (iterate 2 refine gM ?_); refine gC ?_; refine gO ?_)
 refine gc_if_dec rfl (fun h => ?_) (fun h => ?_)
 ·have hlt : k < l.length := by omega
  have hkc : k < cs.length := by omega
  have hkm : (k + 1) % cs.length < cs.length := Nat.mod_lt _ (by omega)
  have hcc0 := hccell' k hkc
  have hcc1 := hccell' _ hkm
  obtain ⟨A1, c1, hce, hsz, hc1, hm1, hsl⟩ := hecell k hlt
  obtain ⟨hn2, hn40⟩ := hlines k hlt
  (refine gK ?_; refine gX ?_; refine gQ ?_; refine gB ?_; refine gQ ?_)
  refine gc_blockJ (P := Tryz.prog) Nat 16 (fun i => ([[], [0], [], [0, 1, 2], [0, 1, 2, 3], [], [5], [], [7], [], [7, 8, 9], [5, 6, 7, 8, 9, 10], [5, 6, 7, 8, 9, 10, 11], [], [], [0, 1, 2, 3, 4, 13, 14]] : List (List Nat)).getD i []) (fun i' γ => match i' with
   | 0 => .pointer (some ⟨bp, 4, none⟩)
   | 1 => .slice (some adc) cs.length cc
   | 2 => .int .i64 k
   | 3 => .pointer (some (adc.add (k * 2)))
   | 4 => .agg #[.int .i64 (gS cs k).1, .int .i64 (gS cs k).2]
   | 5 => .pointer (some ⟨bp, 4, none⟩)
   | 6 => .slice (some adc) cs.length cc
   | 7 => .int .i64 k
   | 8 => .int .i64 ((k : Int) + 1)
   | 9 => .int .i64 l.length
   | 10 => .int .i64 (((k + 1) % cs.length : Nat) : Int)
   | 11 => .pointer (some (adc.add (((k + 1) % cs.length) * 2)))
   | 12 => .agg #[.int .i64 (gS cs ((k + 1) % cs.length)).1, .int .i64 (gS cs ((k + 1) % cs.length)).2]
   | 13 => .pointer (some ⟨γ 13, 0, none⟩)
   | 14 => .pointer (some ⟨γ 14, 0, none⟩)
   | _ => undef) (fun ls β w' => (ls 15 = true → ls 13 = true) ∧ St w ((if ls 14 = true then [Box (β 14) 106 #[.int .i64 0, .int .i64 0]] else []) ++ ((if ls 13 = true then [Box (β 13) 106 (if ls 15 = true then #[.int .i64 (gS cs k).1, .int .i64 (gS cs k).2] else #[.int .i64 0, .int .i64 0])] else []) ++ [Own A k c2 109 2 (rowO (l.take k) vs), LinesO ((l.take k).map (·.2)) vs, Box bp 113 #[.string nm, .slice (some ade) l.length ce, .int .i64 g, .slice An nn cn, .slice (some adc) cs.length cc, .slice Aw nw cw, .bool m]])) w') rfl (by kernel_rfl) (fun w' s => ⟨fun h => (by cases h), by simp only [Bool.false_eq_true, if_false, List.nil_append]; exact s⟩) ?_ ?_
  ·intro i' o ls β w' hi' hik hls hpl hJ2
   have hS0 : St w [Own A k c2 109 2 (rowO (l.take k) vs), LinesO ((l.take k).map (·.2)) vs, Box bp 113 #[.string nm, .slice (some ade) l.length ce, .int .i64 g, .slice An nn cn, .slice (some adc) cs.length cc, .slice Aw nw cw, .bool m]] w' := hJ2.2.behind.behind
   obtain rfl | rfl | rfl | rfl | rfl | rfl | rfl | rfl | rfl | rfl | rfl | rfl | rfl | rfl | rfl | rfl : i' = 0 ∨ i' = 1 ∨ i' = 2 ∨ i' = 3 ∨ i' = 4 ∨ i' = 5 ∨ i' = 6 ∨ i' = 7 ∨ i' = 8 ∨ i' = 9 ∨ i' = 10 ∨ i' = 11 ∨ i' = 12 ∨ i' = 13 ∨ i' = 14 ∨ i' = 15 := by omega
   ·cases hi'
    exact detG (w_field rfl rfl rfl) rfl hS0 (fun w2 hx => ⟨default, rfl, hJ2.1, St.ext hJ2.2 hx⟩)
   ·cases hi'
    exact detG (w_load_box (b := bp) (i := 4) rfl rfl rfl (.there (.there .here)) rfl) rfl hS0 (fun w2 hx => ⟨default, rfl, hJ2.1, St.ext hJ2.2 hx⟩)
   ·cases hi'
    exact detG (det_m (v := .int .i64 (k : Int)) rfl rfl rfl) rfl hS0 (fun w2 hx => ⟨default, rfl, hJ2.1, St.ext hJ2.2 hx⟩)
   ·cases hi'
    exact detG (w_index (m := k) rfl rfl rfl rfl rfl hkc) rfl hS0 (fun w2 hx => ⟨default, rfl, hJ2.1, St.ext hJ2.2 hx⟩)
   ·cases hi'
    exact detG (w_load_elem (cs := [.int .i64 (gS cs k).1, .int .i64 (gS cs k).2]) rfl rfl rfl hbc hcc0 rfl) rfl hS0 (fun w2 hx => ⟨default, rfl, hJ2.1, St.ext hJ2.2 hx⟩)
   ·cases hi'
    exact detG (w_field rfl rfl rfl) rfl hS0 (fun w2 hx => ⟨default, rfl, hJ2.1, St.ext hJ2.2 hx⟩)
   ·cases hi'
    exact detG (w_load_box (b := bp) (i := 4) rfl rfl rfl (.there (.there .here)) rfl) rfl hS0 (fun w2 hx => ⟨default, rfl, hJ2.1, St.ext hJ2.2 hx⟩)
   ·cases hi'
    exact detG (det_m (v := .int .i64 (k : Int)) rfl rfl rfl) rfl hS0 (fun w2 hx => ⟨default, rfl, hJ2.1, St.ext hJ2.2 hx⟩)
   ·cases hi'
    exact detG (det_ar (r := (k : Int) + 1) rfl rfl rfl rfl rfl (by omega)) rfl hS0 (fun w2 hx => ⟨default, rfl, hJ2.1, St.ext hJ2.2 hx⟩)
   ·cases hi'
    exact detG (det_m (v := .int .i64 (l.length : Int)) rfl rfl rfl) rfl hS0 (fun w2 hx => ⟨default, rfl, hJ2.1, St.ext hJ2.2 hx⟩)
   ·cases hi'
    exact detG (det_eq (c' := .int .i64 (((k + 1) % cs.length : Nat) : Int)) (det_rem (i := (k : Int) + 1) (j := (l.length : Int)) rfl rfl rfl rfl (by omega) (by omega)) (congrArg (Value.int .i64) (by rw [hlen]; simp))) rfl hS0 (fun w2 hx => ⟨default, rfl, hJ2.1, St.ext hJ2.2 hx⟩)
   ·cases hi'
    exact detG (w_index (m := (k + 1) % cs.length) rfl rfl rfl rfl rfl hkm) rfl hS0 (fun w2 hx => ⟨default, rfl, hJ2.1, St.ext hJ2.2 hx⟩)
   ·cases hi'
    exact detG (w_load_elem (cs := [.int .i64 (gS cs ((k + 1) % cs.length)).1, .int .i64 (gS cs ((k + 1) % cs.length)).2]) rfl rfl rfl hbc hcc1 rfl) rfl hS0 (fun w2 hx => ⟨default, rfl, hJ2.1, St.ext hJ2.2 hx⟩)
   ·cases hi'
    obtain ⟨hz, hS⟩ := hJ2
    have h15 : ls 15 = false := by
     cases h : ls 15 with
     | false => rfl
     | true => have := hz h; rw [hls] at this; cases this
    rw [hls] at hS
    refine ⟨rfl, (stepG_alloc (z := .agg #[.int .i64 0, .int .i64 0]) hS).mono fun u w2 hu => ?_⟩
    obtain ⟨b, hu, s2⟩ := hu
    refine ⟨b, hu, fun _ => rfl, ?_⟩
    show St w ((if ls 14 = true then [Box (β 14) 106 #[.int .i64 0, .int .i64 0]] else []) ++ ([Box b 106 (if ls 15 = true then #[.int .i64 (gS cs k).1, .int .i64 (gS cs k).2] else #[.int .i64 0, .int .i64 0])] ++ [Own A k c2 109 2 (rowO (l.take k) vs), LinesO ((l.take k).map (·.2)) vs, Box bp 113 #[.string nm, .slice (some ade) l.length ce, .int .i64 g, .slice An nn cn, .slice (some adc) cs.length cc, .slice Aw nw cw, .bool m]])) w2
    rw [h15]
    cases h14 : ls 14 with
    | false => rw [h14] at s2; exact s2
    | true => rw [h14] at s2; exact St.sub (.cons (.there .here) (Sub.all _)) s2
   ·cases hi'
    obtain ⟨hz, hS⟩ := hJ2
    rw [hls] at hS
    refine ⟨rfl, (stepG_alloc (z := .agg #[.int .i64 0, .int .i64 0]) hS).mono fun u w2 hu => ?_⟩
    obtain ⟨b, hu, s2⟩ := hu
    exact ⟨b, hu, hz, s2⟩
   ·cases hi'
    obtain ⟨hz, hS⟩ := hJ2
    have h13 : ls 13 = true := hpl 13 (by decide)
    rw [hls, h13] at hS
    cases h14 : ls 14 with
    | false =>
     rw [h14] at hS
     refine ⟨rfl, (stepG_store (b := β 13) (cs := #[.int .i64 0, .int .i64 0]) (vs := #[.int .i64 (gS cs k).1, .int .i64 (gS cs k).2]) rfl rfl rfl rfl .here rfl hS).mono fun u w2 hu => ?_⟩
     refine ⟨default, hu.1, fun _ => h13, ?_⟩
     show St w ((if ls 14 = true then [Box (β 14) 106 #[.int .i64 0, .int .i64 0]] else []) ++ ((if ls 13 = true then [Box (β 13) 106 #[.int .i64 (gS cs k).1, .int .i64 (gS cs k).2]] else []) ++ [Own A k c2 109 2 (rowO (l.take k) vs), LinesO ((l.take k).map (·.2)) vs, Box bp 113 #[.string nm, .slice (some ade) l.length ce, .int .i64 g, .slice An nn cn, .slice (some adc) cs.length cc, .slice Aw nw cw, .bool m]])) w2
     rw [h14, h13]
     exact hu.2
    | true =>
     rw [h14] at hS
     refine ⟨rfl, (stepG_store (b := β 13) (cs := #[.int .i64 0, .int .i64 0]) (vs := #[.int .i64 (gS cs k).1, .int .i64 (gS cs k).2]) rfl rfl rfl rfl (.there .here) rfl hS).mono fun u w2 hu => ?_⟩
     refine ⟨default, hu.1, fun _ => h13, ?_⟩
     show St w ((if ls 14 = true then [Box (β 14) 106 #[.int .i64 0, .int .i64 0]] else []) ++ ((if ls 13 = true then [Box (β 13) 106 #[.int .i64 (gS cs k).1, .int .i64 (gS cs k).2]] else []) ++ [Own A k c2 109 2 (rowO (l.take k) vs), LinesO ((l.take k).map (·.2)) vs, Box bp 113 #[.string nm, .slice (some ade) l.length ce, .int .i64 g, .slice An nn cn, .slice (some adc) cs.length cc, .slice Aw nw cw, .bool m]])) w2
     rw [h14, h13]
     exact St.sub (.cons (.there .here) (Sub.all _)) hu.2
  ·intro ls β w' hall2 hJ2
   obtain ⟨_, hS⟩ := hJ2
   rw [hall2 13 (by decide), hall2 14 (by decide), hall2 15 (by decide)] at hS
   have hJ3 : St w (Box (β 14) 106 #[.int .i64 0, .int .i64 0] :: Box (β 13) 106 #[.int .i64 (gS cs k).1, .int .i64 (gS cs k).2] :: [Own A k c2 109 2 (rowO (l.take k) vs), LinesO ((l.take k).map (·.2)) vs, Box bp 113 #[.string nm, .slice (some ade) l.length ce, .int .i64 g, .slice An nn cn, .slice (some adc) cs.length cc, .slice Aw nw cw, .bool m]]) w' := hS
   refine GW.h (P := Tryz.prog) ?_ w' hJ3
   refine w_store_all (b := β 14) (cs := #[.int .i64 0, .int .i64 0]) (vs := #[.int .i64 (gS cs ((k + 1) % cs.length)).1, .int .i64 (gS cs ((k + 1) % cs.length)).2]) rfl rfl rfl rfl rfl .here rfl ?_
   (refine gO ?_)
   have hG : ∀ (L : List Res) (w' : World), St w L w' → OkM Tryz.prog 111 [.agg #[.string (gE l k).1, .slice A1 (gE l k).2.length c1], .agg #[.int .i64 0, .int .i64 0], .agg #[.int .i64 0, .int .i64 0]].toArray w'
     (fun x : Nat × Option Addr × Nat => .agg #[.string (gE l k).1, .slice x.2.1 (gE l k).2.length x.2.2]) (fun x => [Own x.2.1 (gE l k).2.length x.2.2 106 2 ((gE l k).2.flatMap encS)]) := fun L w' s => by
    have h := r_graded0_ok w' (gE l k).1 A1 c1 (gE l k).2 (hsl.later s) hn2 hn40
    unfold OkM at h ⊢
    exact h.mono fun r w2 hx ⟨x, q1, q2⟩ => ⟨(0, x), q1, q2⟩
   refine gc_block_draw (Nat × Option Addr × Nat) 26 (fun i => ([[], [], [1], [], [1, 2, 3], [1, 2, 3, 4], [], [], [7], [6, 7, 8], [], [], [11], [10, 11, 12], [6, 7, 8, 9, 10, 11, 12, 13], [], [], [16], [15, 16, 17], [], [], [20], [19, 20, 21], [15, 16, 17, 18, 19, 20, 21, 22], [1, 2, 3, 4, 5, 6, 7, 8, 9, 10, 11, 12, 13, 14, 15, 16, 17, 18, 19, 20, 21, 22, 23], [1, 2, 3, 4, 5, 6, 7, 8, 9, 10, 11, 12, 13, 14, 15, 16, 17, 18, 19, 20, 21, 22, 23, 24]] : List (List Nat)).getD i []) rfl (by kernel_rfl) ?_
   (apply gb_d; (intro γ; exact det_m rfl rfl (by conv => (lhs; whnf))); (intros; rfl); (intros; rfl); apply gb_d; (intro γ; exact w_field rfl rfl rfl); (intros; rfl); (intros; rfl); apply gb_d; (intro γ; exact w_load_box rfl rfl rfl (.there (.there (.there (.there .here)))) rfl); (intros; rfl); (intros; rfl); apply gb_d; (intro γ; exact det_m rfl rfl (by conv => (lhs; whnf))); (intros; rfl); (intros; rfl); apply gb_d; (intro γ; exact w_index rfl rfl rfl rfl (by with_reducible exact rfl) (by omega)); (intros; rfl); (intros; rfl); apply gb_d; (intro γ; exact w_load_elem rfl rfl rfl (by assumption) (by assumption) (by rfl)); (intros; rfl); (intros; rfl); apply gb_d; (intro γ; exact det_m rfl rfl (by conv => (lhs; whnf))); (intros; rfl); (intros; rfl); apply gb_d; (intro γ; exact w_field rfl rfl rfl); (intros; rfl); (intros; rfl); apply gb_d; (intro γ; exact w_load_box rfl rfl rfl (.there .here) rfl); (intros; rfl); (intros; rfl); apply gb_d; (intro γ; exact det_ar rfl rfl rfl rfl rfl (by omega)); (intros; rfl); (intros; rfl); apply gb_d; (intro γ; exact det_m rfl rfl (by conv => (lhs; whnf))); (intros; rfl); (intros; rfl); apply gb_d; (intro γ; exact w_field rfl rfl rfl); (intros; rfl); (intros; rfl); apply gb_d; (intro γ; exact w_load_box rfl rfl rfl (.there .here) rfl); (intros; rfl); (intros; rfl); apply gb_d; (intro γ; exact det_ar rfl rfl rfl rfl rfl (by omega)); (intros; rfl); (intros; rfl); apply gb_d; (intro γ; exact det_eq (c' := .agg #[.int .i64 0, .int .i64 0]) (w_build (cells := #[.int .i64 (0 * (gS cs k).1), .int .i64 (0 * (gS cs k).2)]) rfl rfl (by rfl)) (by rw [Int.zero_mul, Int.zero_mul])); (intros; rfl); (intros; rfl); apply gb_d; (intro γ; exact det_m rfl rfl (by conv => (lhs; whnf))); (intros; rfl); (intros; rfl); apply gb_d; (intro γ; exact w_field rfl rfl rfl); (intros; rfl); (intros; rfl); apply gb_d; (intro γ; exact w_load_box rfl rfl rfl .here rfl); (intros; rfl); (intros; rfl); apply gb_d; (intro γ; exact det_ar rfl rfl rfl rfl rfl (by omega)); (intros; rfl); (intros; rfl); apply gb_d; (intro γ; exact det_m rfl rfl (by conv => (lhs; whnf))); (intros; rfl); (intros; rfl); apply gb_d; (intro γ; exact w_field rfl rfl rfl); (intros; rfl); (intros; rfl); apply gb_d; (intro γ; exact w_load_box rfl rfl rfl .here rfl); (intros; rfl); (intros; rfl); apply gb_d; (intro γ; exact det_ar rfl rfl rfl rfl rfl (by omega)); (intros; rfl); (intros; rfl); apply gb_d; (intro γ; exact det_eq (c' := .agg #[.int .i64 0, .int .i64 0]) (w_build (cells := #[.int .i64 (0 * (gS cs ((k + 1) % cs.length)).1), .int .i64 (0 * (gS cs ((k + 1) % cs.length)).2)]) rfl rfl (by rfl)) (by rw [Int.zero_mul, Int.zero_mul])); (intros; rfl); (intros; rfl))
   refine gb_call (l := fun _ => [.agg #[.string (gE l k).1, .slice A1 (gE l k).2.length c1], .agg #[.int .i64 0, .int .i64 0], .agg #[.int .i64 0, .int .i64 0]]) (fun _ (x : Nat × Option Addr × Nat) => .agg #[.string (gE l k).1, .slice x.2.1 (gE l k).2.length x.2.2]) (fun _ (x : Nat × Option Addr × Nat) => [Own x.2.1 (gE l k).2.length x.2.2 106 2 ((gE l k).2.flatMap encS)]) (fun _ => rfl) (fun _ w s => hG _ w s) (fun _ => rfl) (fun _ _ => ⟨rfl, rfl⟩) (fun _ => ⟨rfl, rfl⟩) ?_
   refine gb_bslice1 (fun (γ : Nat → Nat × Option Addr × Nat) => .agg #[.string (gE l k).1, .slice (γ 24).2.1 (gE l k).2.length (γ 24).2.2]) (fun b => (b, none, 0)) (·.1) (fun _ => rfl) (fun _ => rfl) (fun _ => rfl) (fun _ => rfl) rfl rfl (fun _ _ => rfl) (fun _ => rfl) ?_
   refine GB.nil (fun δ => ?_)
   have hr1 : rowO (l.take (k + 1)) (vs ++ [(δ 24).2]) = rowO (l.take k) vs ++ encO (gE l k, (δ 24).2) := by rw [List.take_succ_eq_append_getElem hlt, gE_get hlt]; exact rowO_snoc (by rw [List.length_take]; omega)
   have hr2 : (l.take (k + 1)).map (·.2) = (l.take k).map (·.2) ++ [(gE l k).2] := by rw [List.take_succ_eq_append_getElem hlt, gE_get hlt, List.map_append]; rfl
   refine gw_append (news := encO (gE l k, (δ 24).2)) rfl rfl rfl (.there (.there (.there (.there .here)))) rfl (fun w' s _ => ?_) (fun u hu => ?_) (by unfold maxLen; omega) (by omega) (by decide) rfl (fun A2 c3 => ?_)
   ·refine ⟨⟨(δ 25).1, 0, none⟩, rfl, fun j u hu => ?_⟩
    have hbx := Box.cell (s.pick (.there .here)).head j
    rw [add_zero]
    refine Eq.trans hbx ?_
    change (#[Value.string (gE l k).1, Value.slice (δ 24).2.1 (gE l k).2.length (δ 24).2.2] : Array Value)[j]? = some u
    rw [List.getElem?_toArray]
    exact hu
   ·simp only [encO, List.mem_cons, List.not_mem_nil, or_false] at hu
    rcases hu with rfl | rfl <;> rfl
   ·(refine gM ?_; refine gw_nil ?_; refine gH ?_; refine gX ?_; refine gG ?_; refine gM ?_; refine gA ?_; refine gM ?_; refine gw_nil ?_)
    refine gx_roundE (k + 1, A2, c3, vs ++ [(δ 24).2]) ⟨hlt, by simp [hbs]⟩ (by dsimp only; omega) kK ⟨rfl, rfl, trivial⟩ ?_
    dsimp only
    rw [hr1, hr2]
    refine Ent.trans (Sub.ent (.cons .here (.cons .here (.cons (.there (.there (.there .here))) (.cons (.there (.there (.there .here))) .nil))))) (Ent.cons LinesO.snoc ?_)
    intro q hq b hb
    rw [List.mem_cons, List.mem_singleton] at hq
    rcases hq with rfl | rfl
    ·obtain ⟨i, y, m', hy, hm', ho⟩ := hb
     rcases at_snoc (by rw [List.length_map, List.length_take]; omega) hy hm' with ⟨q1, q2⟩ | ⟨rfl, rfl⟩
     ·exact ⟨_, List.mem_cons_of_mem _ List.mem_cons_self, ⟨i, y, m', q1, q2, ho⟩⟩
     ·exact ⟨_, List.mem_cons_self, ho⟩
    ·exact ⟨_, List.mem_cons_of_mem _ (List.mem_cons_of_mem _ List.mem_cons_self), hb⟩
 ·obtain rfl : k = l.length := by omega
  rw [List.take_length]
  refine gc_ent (deep_edgesO rfl hin) ?_
  (refine gI ?_; (iterate 2 refine gZ ?_); refine gJ ?_; refine gX ?_; refine gQ ?_; refine gV ?_; refine gM ?_; apply gw_d; exact w_call rfl rfl (fun w s => r_outline_ok w _ l (Sl.deep s .here)) rfl; refine gM ?_; refine gN ?_; refine gM ?_; refine gC ?_; refine gO ?_)
  refine gc_if_dec rfl (fun h => absurd hE0 h) (fun _ => ?_)
  (refine gK ?_; refine gX ?_; refine gV ?_; (iterate 3 refine gM ?_); refine gO ?_; refine gR ?_)
  refine gx_ret2 (u := .slice _ _ _) (v := .int _ _) rfl rfl rfl (fun w' s => ?_)
  exact ⟨(A, c2, _), by rw [hE, hE0, if_pos rfl], by rw [hE, hE0, if_pos rfl]; exact (s.sub (.cons .here .nil)).sep⟩
theorem r_root_ok (w : World) (n : Nat) (hn : n ≤ 9223372036854775807) : Ok Tryz.prog 184 [.int .i64 (n : Int)].toArray w fun r _ => r = .int .i64 (isq n : Int) := by
 have hw64 : IntKind.u64.wrap (n : Int) = (n : Int) := by
  have : IntKind.u64.wrap (n : Int) = (n : Int) % 18446744073709551616 := rfl
  rw [this]
  omega
 have h32 : isq n < 0 + 2 ^ 32 := by
  have h1 := (isq_spec n).1
  refine Nat.lt_of_not_le fun h => ?_
  have h2 : (0 + 2 ^ 32) * (0 + 2 ^ 32) ≤ isq n * isq n := Nat.mul_le_mul h h
  have h3 : (0 + 2 ^ 32) * (0 + 2 ^ 32) = 18446744073709551616 := rfl
  omega
 refine ok_enter Tryz.func184 rfl Tryz.ntmps184 rfl ?_
 (refine gV ?_; refine gM ?_; refine gN ?_; refine gM ?_; refine gO ?_; refine gQ ?_; refine gV ?_; refine gM ?_; refine gO ?_; refine gB ?_)
 refine gc_loop (σ := Nat × Nat) [6, 7, 10, 11, 12, 13, 14, 15, 5, 16, 17, 18, 19, 20, 21, 22, 23, 3, 8, 9, 4] (fun s => [(3, .int .i64 (s.2 : Int)), (4, .int .i64 ((s.1 : Int) - 1))]) (fun _ => []) (fun s => s.1 ≤ 32 ∧ s.2 ≤ isq n ∧ isq n < s.2 + 2 ^ s.1 ∧ s.2 + 2 ^ s.1 ≤ 4294967296) (fun s => s.1) (32, 0) ⟨Nat.le_refl _, Nat.zero_le _, h32, by decide⟩ ⟨rfl, rfl, trivial⟩ .nil ?_
 rintro ⟨j, out⟩ base ⟨hj, hI1, hI2, hI3⟩
 dsimp only at hj hI1 hI2 hI3 ⊢
 (refine gQ ?_; refine gV ?_; refine gM ?_; refine gC ?_; refine gO ?_)
 refine gc_if_dec rfl (fun h => ?_) (fun h => ?_)
 ·obtain ⟨k, rfl⟩ : ∃ k, j = k + 1 := ⟨j - 1, by omega⟩
  have hp : (2 : Nat) ^ (k + 1) = 2 ^ k + 2 ^ k := by rw [Nat.pow_succ]; omega
  have hp0 : 0 < (2 : Nat) ^ k := Nat.two_pow_pos _
  have hcv : IntKind.u64.wrap (((k + 1 : Nat) : Int) - 1) = (k : Int) := by
   have : IntKind.u64.wrap (((k + 1 : Nat) : Int) - 1) = (((k + 1 : Nat) : Int) - 1) % 18446744073709551616 := rfl
   rw [this]
   omega
  have hshl : IntKind.i64.wrap (1 * 2 ^ (min ((k : Int)).toNat IntKind.i64.bits)) = ((2 ^ k : Nat) : Int) := by
   have e1 : ((k : Int)).toNat = k := by omega
   have e2 : IntKind.i64.bits = 64 := rfl
   rw [e1, e2, Nat.min_eq_left (by omega), Int.one_mul, two_pow_cast, IntKind.wrap_i64]
   omega
  have hct : IntKind.u64.wrap ((out : Int) + ((2 ^ k : Nat) : Int)) = ((out + 2 ^ k : Nat) : Int) := by
   have : IntKind.u64.wrap ((out : Int) + ((2 ^ k : Nat) : Int)) = ((out : Int) + ((2 ^ k : Nat) : Int)) % 18446744073709551616 := rfl
   rw [this]
   omega
  have hback : IntKind.i64.wrap ((out + 2 ^ k : Nat) : Int) = ((out + 2 ^ k : Nat) : Int) := by
   rw [IntKind.wrap_i64]
   omega
  have hsq : (out + 2 ^ k) * (out + 2 ^ k) < 18446744073709551616 := by
   have : (out + 2 ^ k) * (out + 2 ^ k) ≤ 4294967295 * 4294967295 := Nat.mul_le_mul (by omega) (by omega)
   omega
  (refine gK ?_; refine gX ?_; refine gQ ?_; refine gB ?_; refine gV ?_; (iterate 2 refine gM ?_); apply gw_d; exact det_conv rfl rfl rfl hcv; apply gw_d; exact det_shl rfl rfl rfl rfl (by omega) hshl; refine gA ?_; apply gw_d; exact det_conv rfl rfl rfl hct; refine gM ?_; refine gN ?_; (iterate 2 refine gM ?_); apply gw_d; exact det_eq (c' := .int .u64 (((out + 2 ^ k) * (out + 2 ^ k) : Nat) : Int)) (det_mulU (i := out + 2 ^ k) (j := out + 2 ^ k) rfl rfl rfl rfl) (by rw [Nat.mod_eq_of_lt hsq]); refine gM ?_; apply gw_d; exact det_conv rfl rfl rfl hw64; refine gC ?_; refine gO ?_)
  refine gc_if_dec rfl (fun h2 => ?_) (fun h2 => ?_)
  ·have hle : out + 2 ^ k ≤ isq n := le_isq (by omega)
   (refine gG ?_; refine gM ?_; apply gw_d; exact det_conv rfl rfl rfl hback; refine gM ?_; refine gw_nil ?_; refine gH ?_; refine gX ?_; refine gG ?_; refine gM ?_; refine gA ?_; refine gM ?_; refine gw_nil ?_)
   exact gx_round (k, out + 2 ^ k) ⟨by dsimp only; omega, hle, by dsimp only; omega, by dsimp only; omega⟩ (by dsimp only; omega) kK ⟨rfl, congrArg (Value.int .i64) (show ((k + 1 : Nat) : Int) - 1 - 1 = (k : Int) - 1 by omega), trivial⟩ .nil
  ·have hlt : isq n < out + 2 ^ k := by
    refine Nat.lt_of_not_le fun h3 => h2 ?_
    have h4 := Nat.mul_le_mul h3 h3
    have h5 := (isq_spec n).1
    omega
   (refine gK ?_; refine gH ?_; refine gX ?_; refine gG ?_; refine gM ?_; refine gA ?_; refine gM ?_; refine gw_nil ?_)
   exact gx_round (k, out) ⟨by dsimp only; omega, hI1, hlt, by dsimp only; omega⟩ (by dsimp only; omega) kK ⟨rfl, congrArg (Value.int .i64) (show ((k + 1 : Nat) : Int) - 1 - 1 = (k : Int) - 1 by omega), trivial⟩ .nil
 ·obtain rfl : j = 0 := by omega
  rw [Nat.pow_zero] at hI2
  (refine gI ?_; (iterate 2 refine gZ ?_); refine gJ ?_; refine gX ?_; refine gV ?_; (iterate 2 refine gM ?_); refine gO ?_; refine gR ?_)
  refine gi1 (fun _ _ => ?_)
  congr 1
  omega

theorem r_segment_ok (w : World) (p q : Int × Int) (hp : nearP p) (hq : nearP q) : Ok Tryz.prog 158 [.agg #[.int .i64 p.1, .int .i64 p.2], .agg #[.int .i64 q.1, .int .i64 q.2]].toArray w fun r _ => r = .int .i64 (segL p q) := by
 obtain ⟨p1, p2⟩ := hp
 obtain ⟨q1, q2⟩ := hq
 have s1 := sq_range (d := q.1 - p.1) (by omega)
 have s2 := sq_range (d := q.2 - p.2) (by omega)
 have hv : ((segN p q : Nat) : Int) = 1000000 * ((q.1 - p.1) * (q.1 - p.1) + (q.2 - p.2) * (q.2 - p.2)) := by
  unfold segN
  omega
 have hR : ∀ (L : List Res) (w' : World), St w L w' → Ok Tryz.prog 184 [.int .i64 (1000000 * ((q.1 - p.1) * (q.1 - p.1) + (q.2 - p.2) * (q.2 - p.2)))].toArray w' fun r _ => r = .int .i64 (segL p q) := fun L w' _ => by
  have := r_root_ok w' (segN p q) (by omega)
  rw [hv] at this
  exact this
 refine ok_enter Tryz.func158 rfl Tryz.ntmps158 rfl ?_
 (refine gV ?_; refine gw_boxd (v := .agg _) rfl rfl (fun _ => ?_); refine gw_boxd (v := .agg _) rfl rfl (fun _ => ?_); refine gM ?_; refine gO ?_; refine gQ ?_)
 refine gc_draw 11 (by kernel_rfl) (by kernel_rfl) ?_
 (apply gd_d; exact w_field rfl rfl rfl; apply gd_d; exact w_load_box rfl rfl rfl .here rfl; apply gd_d; exact w_field rfl rfl rfl; apply gd_d; exact w_load_box rfl rfl rfl (.there .here) rfl; apply gd_d; exact det_ar rfl rfl rfl rfl rfl (by omega); apply gd_d; exact w_field rfl rfl rfl; apply gd_d; exact w_load_box rfl rfl rfl .here rfl; apply gd_d; exact w_field rfl rfl rfl; apply gd_d; exact w_load_box rfl rfl rfl (.there .here) rfl; apply gd_d; exact det_ar rfl rfl rfl rfl rfl (by omega); refine dM ?_; refine gd_nil ?_; refine gM ?_; refine gN ?_; (iterate 2 refine gM ?_); refine gA ?_; (iterate 2 refine gM ?_); refine gA ?_; refine gA ?_; refine gA ?_; apply gw_d; exact w_call rfl rfl (hR _) rfl; refine gM ?_; refine gO ?_; refine gR ?_)
 exact gx_ret1 (v := .int .i64 (segL p q)) rfl rfl (fun _ _ => rfl)

theorem r_total_ok (w : World) (v : Value) (l : List (Int × Int)) (hl : Sl rSpot w w.heap.size v l) (hp : plineE l = 0) : Ok Tryz.prog 130 [v].toArray w fun r _ => r = .int .i64 (lenL l) := by
 have hG := line_good hp
 have h2 := hG.two
 have h40 := hG.le
 obtain ⟨ad, c, rfl, hc, hm, hb, hcell⟩ := hl.spot' (by omega)
 refine ok_enter Tryz.func130 rfl Tryz.ntmps130 rfl ?_
 (refine gV ?_; refine gM ?_; refine gN ?_; refine gM ?_; refine gO ?_; refine gQ ?_; refine gV ?_; refine gM ?_; refine gO ?_; refine gB ?_)
 refine gc_loopK (σ := Nat) [5, 6, 7, 8, 11, 12, 13, 14, 15, 16, 17, 18, 19, 20, 21, 22, 3, 9, 10, 4] (fun k => [(4, .int .i64 (k + 1 : Nat)), (3, .int .i64 (lenS l k))]) (fun k => k ≤ l.length - 1) (fun k => l.length - k) 0 (Nat.zero_le _) ⟨rfl, rfl, trivial⟩ ?_
 rintro k base hk
 (refine gQ ?_; refine gV ?_; (iterate 2 refine gM ?_); refine gL ?_; refine gC ?_; refine gO ?_)
 refine gc_if_dec rfl (fun h => ?_) (fun h => ?_)
 ·have hk1 : k + 1 < l.length := by omega
  have hr := lenS_range hG k (by omega)
  have hsr := segL_range (hG.near k (by omega)) (hG.near (k + 1) hk1)
  have hc0 := hcell k (by omega)
  have hc1 := hcell (k + 1) hk1
  have hsg : ∀ (L : List Res) (w' : World), St w L w' → Ok Tryz.prog 158 [.agg #[.int .i64 (gS l k).1, .int .i64 (gS l k).2], .agg #[.int .i64 (gS l (k + 1)).1, .int .i64 (gS l (k + 1)).2]].toArray w' fun r _ => r = .int .i64 (segL (gS l k) (gS l (k + 1))) := fun L w' _ => r_segment_ok w' _ _ (hG.near k (by omega)) (hG.near (k + 1) hk1)
  (refine gK ?_; refine gX ?_; refine gQ ?_; refine gB ?_)
  refine gc_draw 12 (by kernel_rfl) (by kernel_rfl) ?_
  ((iterate 3 refine dM ?_); apply gd_d; exact det_ar rfl rfl rfl rfl rfl (by omega); apply gd_d; exact w_index (m := k) rfl rfl rfl rfl (by omega) (by omega); apply gd_d; exact w_load_elem rfl rfl rfl (by assumption) (by assumption) (by rfl); (iterate 2 refine dM ?_); apply gd_d; exact w_index (m := k + 1) rfl rfl rfl rfl rfl (by omega); apply gd_d; exact w_load_elem rfl rfl rfl (by assumption) (by assumption) (by rfl); apply gd_d; exact w_call rfl rfl (hsg _) rfl; apply gd_d; exact det_ar rfl rfl rfl rfl rfl (by omega); refine gd_nil ?_; refine gM ?_; refine gw_nil ?_; refine gH ?_; refine gX ?_; refine gG ?_; refine gM ?_; refine gA ?_; refine gM ?_; refine gw_nil ?_)
  exact gx_round (k + 1) (by omega) (by omega) kK ⟨rfl, rfl, trivial⟩ (Sub.all _)
 ·obtain rfl : k = l.length - 1 := by omega
  (refine gI ?_; (iterate 2 refine gZ ?_); refine gJ ?_; refine gX ?_; refine gV ?_; (iterate 2 refine gM ?_); refine gO ?_; refine gR ?_)
  refine gi1 (fun _ _ => ?_)
  rfl

theorem r_length_ok (w : World) (v : Value) (l : List (Int × Int)) (hl : Sl rSpot w w.heap.size v l) (hp : plineE l = 0) : Ok Tryz.prog 112 [v].toArray w fun r _ => r = .tuple #[.int .i64 (lenL l), .int .i64 0] := by
 have hC : ∀ (L : List Res) (w' : World), St w L w' → Ok Tryz.prog 126 [v].toArray w' fun r _ => r = .int .i64 0 := fun L w' s => by
  have := r_polyline_ok w' v l (hl.later s)
  rw [hp] at this
  exact this
 obtain ⟨A, c, rfl, hc, hm⟩ := len_small hl
 refine ok_enter Tryz.func112 rfl Tryz.ntmps112 rfl ?_
 (refine gV ?_; (iterate 2 refine gM ?_); refine gO ?_; refine gQ ?_; refine gV ?_; refine gM ?_; apply gw_d; exact w_call rfl rfl (hC _) rfl; refine gM ?_; refine gN ?_; refine gM ?_; refine gC ?_; refine gO ?_)
 refine gc_if_dec rfl (fun h => absurd rfl h) (fun _ => ?_)
 (refine gK ?_; refine gX ?_; refine gV ?_; refine gM ?_; apply gw_d; exact w_call rfl rfl (fun w s => r_total_ok w _ l (hl.later s) hp) rfl; (iterate 2 refine gM ?_); refine gO ?_; refine gR ?_)
 refine gx_ret2 (u := .int _ _) (v := .int _ _) rfl rfl rfl (fun _ _ => ?_)
 rfl
theorem r_share_ok (w : World) (a c : Nat) (hac : a ≤ c) (hc : 1 ≤ c) (hc40 : c ≤ 1099511627776) : Ok Tryz.prog 131 [.int .i64 (a : Int), .int .i64 (c : Int), .int .i64 (c : Int)].toArray w fun r _ => r = .int .i64 (a : Int) := by
 have hq1 : (c : Int) / (c : Int) = 1 := Int.ediv_self (by omega)
 have hr0 : (c : Int) % (c : Int) = 0 := Int.emod_self
 have hz1 : (0 : Int) / (c : Int) = 0 := Int.zero_ediv _
 have hz2 : (0 : Int) % (c : Int) = 0 := Int.zero_emod _
 refine ok_enter Tryz.func131 rfl Tryz.ntmps131 rfl ?_
 (refine gV ?_; refine gM ?_; refine gO ?_; refine gQ ?_)
 refine gc_draw 7 (by kernel_rfl) (by kernel_rfl) ?_
 ((iterate 2 refine dM ?_); apply gd_d; exact det_quo rfl rfl rfl rfl (by omega) (by omega) (by omega); (iterate 2 refine dM ?_); apply gd_d; exact det_rem rfl rfl rfl rfl (by omega) (by omega); refine dM ?_; refine gd_nil ?_; refine gM ?_; refine gN ?_; (iterate 2 refine gM ?_))
 rw [hq1, hr0]
 (refine gA ?_; refine gM ?_; refine gN ?_; (iterate 2 refine gM ?_); refine gO ?_; refine gQ ?_; refine gV ?_; refine gM ?_; refine gO ?_; refine gB ?_)
 refine gc_loop (σ := Nat × Int × Int) [22, 23, 26, 27, 28, 29, 10, 11, 30, 31, 32, 33, 34, 35, 36, 37, 38, 39, 40, 41, 42, 43, 44, 45, 46, 24, 25, 12] (fun s => [(10, .int .i64 s.2.1), (11, .int .i64 s.2.2), (12, .int .i64 ((s.1 : Int) - 1))]) (fun _ => []) (fun s => s.1 ≤ 41 ∧ s.2.1 = 0 ∧ s.2.2 = 0) (fun s => s.1) (41, 0, 0) ⟨Nat.le_refl _, rfl, rfl⟩ ⟨rfl, rfl, rfl, trivial⟩ .nil ?_
 rintro ⟨j, q, lf⟩ base ⟨hj, hq, hlf⟩
 dsimp only at hj hq hlf ⊢
 (refine gQ ?_; refine gV ?_; refine gM ?_; refine gC ?_; refine gO ?_)
 refine gc_if_dec rfl (fun h => ?_) (fun h => ?_)
 ·obtain ⟨k, rfl⟩ : ∃ k, j = k + 1 := ⟨j - 1, by omega⟩
  have hcv : IntKind.u64.wrap (((k + 1 : Nat) : Int) - 1) = (k : Int) := by
   have : IntKind.u64.wrap (((k + 1 : Nat) : Int) - 1) = (((k + 1 : Nat) : Int) - 1) % 18446744073709551616 := rfl
   rw [this]
   omega
  have hsh : (a : Int).fdiv (2 ^ (min ((k : Int)).toNat IntKind.i64.bits)) = ((a / 2 ^ (min k 64) : Nat) : Int) := by
   have e1 : ((k : Int)).toNat = k := by omega
   have e2 : IntKind.i64.bits = 64 := rfl
   rw [e1, e2, two_pow_cast, Int.fdiv_eq_ediv_of_nonneg _ (Int.natCast_nonneg _)]
   rfl
  generalize a / 2 ^ (min k 64) = z at hsh
  have e0 : 2 * lf + 0 = 0 := by omega
  have e1 : 2 * lf = 0 := by omega
  have g1 : (2 * lf + 0) / (c : Int) = 0 := by rw [e0]; exact hz1
  have g2 : (2 * lf) / (c : Int) = 0 := by rw [e1]; exact hz1
  have g3 : (2 * lf + 0) % (c : Int) = 0 := by rw [e0]; exact hz2
  have g4 : (2 * lf) % (c : Int) = 0 := by rw [e1]; exact hz2
  focus (refine gK ?_; refine gX ?_; refine gQ ?_; refine gB ?_; refine gV ?_; refine gM ?_; refine gA ?_; refine gM ?_; refine gA ?_; (iterate 2 refine gM ?_); refine gO ?_; refine gQ ?_; refine gV ?_; (iterate 2 refine gM ?_); apply gw_d; exact det_conv rfl rfl rfl hcv; apply gw_d; exact det_shr rfl rfl rfl rfl (by omega) hsh; apply gw_d; exact det_rem rfl rfl rfl rfl (by omega) (by omega); refine gC ?_; refine gO ?_; refine gc_if_dec rfl (fun _ => ?_) (fun _ => ?_); refine gG ?_; (iterate 2 refine gM ?_); refine gA ?_; refine gM ?_; refine gN ?_; (iterate 3 refine gM ?_); apply gw_d; exact det_quo rfl rfl rfl rfl (by omega) (by omega) (by omega); refine gA ?_; refine gM ?_; refine gO ?_; refine gG ?_; (iterate 2 refine gM ?_); apply gw_d; exact det_rem rfl rfl rfl rfl (by omega) (by omega); refine gM ?_; refine gw_nil ?_; refine gH ?_; refine gX ?_; refine gG ?_; refine gM ?_; refine gA ?_; refine gM ?_; refine gw_nil ?_; rotate_left; refine gK ?_; refine gX ?_; refine gV ?_; (iterate 3 refine gM ?_); apply gw_d; exact det_quo rfl rfl rfl rfl (by omega) (by omega) (by omega); refine gA ?_; refine gM ?_; refine gO ?_; refine gG ?_; (iterate 2 refine gM ?_); apply gw_d; exact det_rem rfl rfl rfl rfl (by omega) (by omega); refine gM ?_; refine gw_nil ?_; refine gH ?_; refine gX ?_; refine gG ?_; refine gM ?_; refine gA ?_; refine gM ?_; refine gw_nil ?_; rotate_left)
  all_goals exact gx_round (k, _, _) ⟨by dsimp only; omega, by dsimp only; omega, by dsimp only; omega⟩ (by dsimp only; omega) kK ⟨rfl, rfl, congrArg (Value.int .i64) (show ((k + 1 : Nat) : Int) - 1 - 1 = (k : Int) - 1 by omega), trivial⟩ .nil
 ·(refine gI ?_; (iterate 2 refine gZ ?_); refine gJ ?_; refine gX ?_; refine gQ ?_; refine gV ?_; refine gM ?_; refine gA ?_; refine gM ?_; refine gC ?_; refine gO ?_)
  refine gc_if_dec rfl (fun h => by omega) (fun _ => ?_)
  (refine gK ?_; refine gX ?_; refine gV ?_; (iterate 2 refine gM ?_); refine gA ?_; refine gM ?_; refine gO ?_; refine gR ?_)
  refine gi1 (fun _ _ => ?_)
  congr 1
  omega

theorem r_partner_bad (w : World) (L a : Int) (_hL : 1 ≤ L ∧ L ≤ 1099511627776) (h : a < 0 ∨ a > L) : Ok Tryz.prog 113 [.int .i64 L, .int .i64 L, .bool false, .int .i64 a].toArray w fun r _ => r = .tuple #[.int .i64 0, .int .i64 3] := by
 refine ok_enter Tryz.func113 rfl Tryz.ntmps113 rfl ?_
 focus (refine gV ?_; (iterate 2 refine gM ?_); refine gO ?_; refine gQ ?_; refine gV ?_; refine gM ?_; refine gC ?_; refine gM ?_; refine gD (fun _ => ?_) (fun _ => ?_); (iterate 2 refine gU ?_); refine gPp ?_; refine gM ?_; (iterate 2 refine gU ?_); refine gPp ?_; refine gM ?_; (iterate 2 refine gU ?_); refine gPp ?_; refine gM ?_; (iterate 2 refine gU ?_); refine gPp ?_; refine gM ?_; (iterate 3 refine gU ?_); refine gPp ?_; refine gO ?_; refine gc_if_true rfl ?_; refine gV ?_; (iterate 2 refine gM ?_); refine gO ?_; refine gR ?_; refine gT ?_; rotate_left; refine gM ?_; refine gC ?_; refine gPq ?_; refine gM ?_; refine gD (fun _ => ?_) (fun _ => ?_); (iterate 2 refine gU ?_); refine gPp ?_; refine gM ?_; (iterate 2 refine gU ?_); refine gPp ?_; refine gM ?_; (iterate 2 refine gU ?_); refine gPp ?_; refine gM ?_; (iterate 3 refine gU ?_); refine gPp ?_; refine gO ?_; refine gc_if_true rfl ?_; refine gV ?_; (iterate 2 refine gM ?_); refine gO ?_; refine gR ?_; refine gT ?_; rotate_left; refine gM ?_; refine gC ?_; refine gPq ?_; refine gM ?_; refine gD (fun _ => ?_) (fun _ => ?_); (iterate 2 refine gU ?_); refine gPp ?_; refine gM ?_; (iterate 2 refine gU ?_); refine gPp ?_; refine gM ?_; (iterate 3 refine gU ?_); refine gPp ?_; refine gO ?_; refine gc_if_true rfl ?_; refine gV ?_; (iterate 2 refine gM ?_); refine gO ?_; refine gR ?_; refine gT ?_; rotate_left; refine gM ?_; refine gC ?_; refine gPq ?_; refine gM ?_; refine gD (fun _ => ?_) (fun _ => ?_); (iterate 2 refine gU ?_); refine gPp ?_; refine gM ?_; (iterate 3 refine gU ?_); refine gPp ?_; refine gO ?_; refine gc_if_true rfl ?_; refine gV ?_; (iterate 2 refine gM ?_); refine gO ?_; refine gR ?_; refine gT ?_; rotate_left; refine gM ?_; refine gC ?_; refine gPq ?_; refine gM ?_; refine gD (fun _ => ?_) (fun _ => ?_); (iterate 3 refine gU ?_); refine gPp ?_; refine gO ?_; refine gc_if_true rfl ?_; refine gV ?_; (iterate 2 refine gM ?_); refine gO ?_; refine gR ?_; refine gT ?_; rotate_left; (iterate 2 refine gM ?_); refine gC ?_; refine gPq ?_; refine gO ?_; refine gc_if_dec rfl (fun _ => ?_) (fun _ => ?_); refine gV ?_; (iterate 2 refine gM ?_); refine gO ?_; refine gR ?_; refine gT ?_; rotate_left; refine gK ?_; refine gX ?_; refine gV ?_; (iterate 3 refine gM ?_); rotate_left)
 all_goals first | (refine gx_ret2 (u := .int _ _) (v := .int _ _) rfl rfl rfl (fun _ _ => ?_); rfl) | skip
 all_goals (exfalso; omega)
theorem r_partner_ok (w : World) (L a : Nat) (hL : 1 ≤ L ∧ L ≤ 1099511627776) (h : a ≤ L) : Ok Tryz.prog 113 [.int .i64 (L : Int), .int .i64 (L : Int), .bool false, .int .i64 (a : Int)].toArray w fun r _ => r = .tuple #[.int .i64 (a : Int), .int .i64 0] := by
 refine ok_enter Tryz.func113 rfl Tryz.ntmps113 rfl ?_
 focus (refine gV ?_; (iterate 2 refine gM ?_); refine gO ?_; refine gQ ?_; refine gV ?_; refine gM ?_; refine gC ?_; refine gM ?_; refine gD (fun _ => ?_) (fun _ => ?_); (iterate 2 refine gU ?_); refine gPp ?_; refine gM ?_; (iterate 2 refine gU ?_); refine gPp ?_; refine gM ?_; (iterate 2 refine gU ?_); refine gPp ?_; refine gM ?_; (iterate 2 refine gU ?_); refine gPp ?_; refine gM ?_; (iterate 3 refine gU ?_); refine gPp ?_; refine gO ?_; refine gc_if_true rfl ?_; refine gV ?_; (iterate 2 refine gM ?_); refine gO ?_; refine gR ?_; refine gT ?_; rotate_left; refine gM ?_; refine gC ?_; refine gPq ?_; refine gM ?_; refine gD (fun _ => ?_) (fun _ => ?_); (iterate 2 refine gU ?_); refine gPp ?_; refine gM ?_; (iterate 2 refine gU ?_); refine gPp ?_; refine gM ?_; (iterate 2 refine gU ?_); refine gPp ?_; refine gM ?_; (iterate 3 refine gU ?_); refine gPp ?_; refine gO ?_; refine gc_if_true rfl ?_; refine gV ?_; (iterate 2 refine gM ?_); refine gO ?_; refine gR ?_; refine gT ?_; rotate_left; refine gM ?_; refine gC ?_; refine gPq ?_; (iterate 2 refine gM ?_); refine gC ?_; refine gPq ?_; refine gM ?_; refine gD (fun _ => ?_) (fun _ => ?_); (iterate 2 refine gU ?_); refine gPp ?_; refine gM ?_; (iterate 3 refine gU ?_); refine gPp ?_; refine gO ?_; refine gc_if_true rfl ?_; refine gV ?_; (iterate 2 refine gM ?_); refine gO ?_; refine gR ?_; refine gT ?_; rotate_left; refine gM ?_; refine gC ?_; refine gPq ?_; (iterate 3 refine gM ?_); refine gC ?_; refine gPq ?_; refine gO ?_; refine gc_if_dec rfl (fun _ => ?_) (fun _ => ?_); refine gV ?_; (iterate 2 refine gM ?_); refine gO ?_; refine gR ?_; refine gT ?_; rotate_left; refine gK ?_; refine gX ?_; refine gV ?_; (iterate 3 refine gM ?_); apply gw_d; exact w_call rfl rfl (fun w' _ => r_share_ok w' a L h hL.1 hL.2) rfl; refine gM ?_; refine gO ?_; refine gQ ?_; refine gV ?_; refine gM ?_; refine gO ?_; refine gc_if_false rfl ?_; refine gK ?_; refine gX ?_; refine gV ?_; (iterate 3 refine gM ?_); refine gO ?_; refine gR ?_; rotate_left)
 all_goals first | (exfalso; omega) | skip
 refine gx_ret2 (u := .int _ _) (v := .int _ _) rfl rfl rfl (fun _ _ => ?_)
 rfl
theorem r_placed_ok (w : World) (nm : ByteArray) (g : Int) (m : Bool) (Ae An Ac Aw : Option Addr) (ce cn cc nw cw : Nat) (l : List Edg) (cs ns : List (Int × Int))
  (hl : Sl rEdge w w.heap.size (.slice Ae l.length ce) l) (hns : Sl rSpot w w.heap.size (.slice An ns.length cn) ns) (hcs : Sl rSpot w w.heap.size (.slice Ac cs.length cc) cs) :
  OkM Tryz.prog 96 [.agg #[.string nm, .slice Ae l.length ce, .int .i64 g, .slice An ns.length cn, .slice Ac cs.length cc, .slice Aw nw cw, .bool m], .int .i64 0].toArray w
   (fun x : Option Addr × Nat × Nat => .tuple #[.slice x.1 x.2.1 x.2.2, .int .i64 (placedE l cs ns)]) (fun _ => []) := by
 unfold OkM
 refine ok_enter Tryz.func96 rfl Tryz.ntmps96 rfl ?_
 (refine gV ?_; refine gw_boxd (v := .agg _) rfl rfl (fun _ => ?_); (iterate 2 refine gM ?_); refine gN ?_; apply gw_d; exact w_load_boxN rfl rfl rfl .here rfl; refine gM ?_)
 refine gw_callm rfl (fun w s => r_graded_ok w nm g m _ _ _ _ _ _ _ _ _ _ l cs (hl.later s) (hcs.later s)) rfl (fun x => ?_)
 (refine gM ?_; apply gw_d; exact det_extract rfl rfl rfl (by conv => (lhs; whnf)); apply gw_d; exact det_extract rfl rfl rfl (by conv => (lhs; whnf)); (iterate 2 refine gM ?_); refine gO ?_; refine gQ ?_; refine gV ?_; refine gM ?_; refine gC ?_; refine gO ?_)
 refine gc_if_dec rfl (fun h => ?_) (fun h => ?_)
 ·have hE : placedE l cs ns = gradedE l cs := by unfold placedE; rw [if_pos h]
  (refine gV ?_; (iterate 3 refine gM ?_); refine gO ?_; refine gR ?_; refine gT ?_)
  refine gx_ret2 (u := .slice _ _ _) (v := .int _ _) rfl rfl rfl (fun _ _ => ?_)
  exact ⟨(none, 0, 0), by rw [hE], trivial⟩
 have h0 : gradedE l cs = 0 := by simpa using h
 rw [if_pos h0]
 simp only [if_pos h0]
 (refine gK ?_; refine gX ?_; refine gQ ?_; refine gV ?_; refine gF ?_; refine gW (.there .here) ?_; refine gL ?_; refine gC ?_; refine gO ?_)
 refine gc_if_dec rfl (fun h => ?_) (fun h16 => ?_)
 ·have hE : placedE l cs ns = 5 := by unfold placedE; rw [if_neg (by rw [h0]; decide), if_pos (by omega)]
  (refine gV ?_; (iterate 2 refine gM ?_); refine gO ?_; refine gR ?_; refine gT ?_)
  refine gx_ret2 (u := .slice _ _ _) (v := .int _ _) rfl rfl rfl (fun _ _ => ?_)
  exact ⟨(none, 0, 0), by rw [hE], trivial⟩
 have hE : placedE l cs ns = firstE (notchF l ns) ns.length := by unfold placedE; rw [if_neg (by rw [h0]; decide), if_neg (by omega)]
 rw [hE]
 (refine gK ?_; refine gX ?_; refine gV ?_; refine gM ?_; refine gO ?_; refine gQ ?_; refine gV ?_; refine gM ?_; refine gO ?_; refine gB ?_)
 rename_i bp
 refine gc_own0 3 1 ?_
 refine gc_loop (σ := Nat × Option Addr × Nat × List Int) [30, 31, 32, 33, 34, 37, 38, 39, 40, 41, 10, 42, 43, 44, 45, 46, 47, 48, 49, 50, 51, 52, 4, 5, 54, 55, 56, 57, 58, 59, 60, 61, 53, 62, 63, 11, 12, 65, 66, 67, 68, 69, 70, 71, 64, 72, 73, 13, 14, 75, 76, 77, 78, 79, 74, 80, 81, 15, 16, 82, 83, 84, 85, 86, 87, 88, 8, 35, 36, 9] (fun s => [(9, .int .i64 s.1), (8, .slice s.2.1 s.2.2.2.length s.2.2.1)]) (fun s => [Own s.2.1 s.2.2.2.length s.2.2.1 3 1 (s.2.2.2.map (Value.int .i64)), Deep x.2.2 rEdge (.slice x.1 l.length x.2.1) l, Box bp 113 #[.string nm, .slice Ae l.length ce, .int .i64 g, .slice An ns.length cn, .slice Ac cs.length cc, .slice Aw nw cw, .bool m]]) (fun s => s.1 ≤ ns.length ∧ s.2.2.2.length = s.1 ∧ firstE (notchF l ns) s.1 = 0) (fun s => ns.length - s.1) (0, none, 0, []) ⟨Nat.zero_le _, rfl, rfl⟩ ⟨rfl, rfl, trivial⟩ (.cons .here (.cons .here (.cons .here .nil))) ?_
 rintro ⟨k, A, c, pls⟩ base ⟨hk, hpl, hI⟩
 dsimp only at hk hpl hI ⊢
 (refine gQ ?_; refine gV ?_; refine gM ?_; refine gF ?_; refine gW (.there (.there .here)) ?_; refine gL ?_; refine gC ?_; refine gO ?_)
 refine gc_if_dec rfl (fun h2 => ?_) (fun h2 => ?_)
 ·have hkn : k < ns.length := by omega
  obtain ⟨adn, _, hv, _, _, hbn, hncell⟩ := hns.spot' (by omega)
  injection hv with e1 e2 e3
  subst e1 e3
  have hcn := hncell k hkn
  have hF : notchF l ns k = if (gS ns k).1 < 0 ∨ (gS ns k).1 ≥ l.length then 3 else if (gS ns k).2 < 0 ∨ (gS ns k).2 > lenL (gE l (gS ns k).1.toNat).2 then 3 else 0 := by
   unfold notchF
   rw [List.getElem?_eq_getElem hkn, gS_get hkn]
  have hstop : notchF l ns k = 3 → firstE (notchF l ns) ns.length = 3 := fun h3 => by
   have := firstE_stop hI (by rw [h3]; decide) hkn
   rw [this, h3]
  generalize gS ns k = nk at *
  (refine gK ?_; refine gX ?_; refine gQ ?_; refine gB ?_; refine gV ?_; refine gF ?_; refine gW (.there (.there .here)) ?_; refine gM ?_; apply gw_d; exact w_index rfl rfl rfl rfl (by with_reducible exact rfl) (by omega); apply gw_d; exact w_load_elem rfl rfl rfl (by assumption) (by assumption) (by rfl); refine w_alloc rfl (fun _ => ?_); refine w_store_all rfl rfl rfl rfl rfl .here rfl ?_; refine gO ?_; refine gQ ?_; refine gV ?_; refine gF ?_; refine gW .here ?_; refine gC ?_; refine gM ?_)
  by_cases hc : nk.1 < 0 ∨ nk.1 ≥ l.length
  ·rw [if_pos hc] at hF
   rw [hstop hF]
   focus (refine gD (fun _ => ?_) (fun _ => ?_); (iterate 6 refine gU ?_); refine gPp ?_; refine gO ?_; refine gc_if_true rfl ?_; refine gV ?_; (iterate 2 refine gM ?_); refine gO ?_; refine gR ?_; refine gT ?_; refine gY ?_; (iterate 2 refine gT ?_); refine gY ?_; refine gT ?_; rotate_left; refine gF ?_; refine gW .here ?_; refine gF ?_; refine gW (.there (.there (.there .here))) ?_; refine gL ?_; refine gC ?_; refine gPq ?_; refine gO ?_; refine gc_if_dec rfl (fun _ => ?_) (fun _ => ?_); refine gV ?_; (iterate 2 refine gM ?_); refine gO ?_; refine gR ?_; refine gT ?_; refine gY ?_; (iterate 2 refine gT ?_); refine gY ?_; refine gT ?_; rotate_left; refine gK ?_; refine gX ?_; refine gV ?_; refine gF ?_; refine gW (.there (.there (.there .here))) ?_; refine gF ?_; refine gW .here ?_; rotate_left)
   all_goals first | (exfalso; omega) | skip
   all_goals (refine gx_ret2 (u := .slice _ _ _) (v := .int _ _) rfl rfl rfl (fun _ _ => ?_); exact ⟨(none, 0, 0), rfl, trivial⟩)
  rw [if_neg hc] at hF
  obtain ⟨ed, hed⟩ : ∃ ed : Nat, nk.1 = (ed : Int) := ⟨nk.1.toNat, by omega⟩
  have hel : ed < l.length := by omega
  obtain ⟨ade, _, hv, _, _, hbe, hecell⟩ := hl.edge' (by omega)
  injection hv with e1 e2 e3
  subst e1 e3
  obtain ⟨A', c', hcE, _, _, _, hline⟩ := hecell ed hel
  have hcE1 := hcE 1 _ rfl
  have hLen : ∀ (L : List Res) (w' : World), St w L w' → Ok Tryz.prog 112 [.slice A' (gE l ed).2.length c'].toArray w' fun r _ => r = .tuple #[.int .i64 (lenL (gE l ed).2), .int .i64 0] := fun L w' s => r_length_ok w' _ _ (hline.later s) (edges_lines h0 ed hel)
  focus (refine gD (fun _ => ?_) (fun _ => ?_); (iterate 6 refine gU ?_); refine gPp ?_; refine gO ?_; refine gc_if_true rfl ?_; refine gV ?_; (iterate 2 refine gM ?_); refine gO ?_; refine gR ?_; refine gT ?_; refine gY ?_; (iterate 2 refine gT ?_); refine gY ?_; refine gT ?_; rotate_left; refine gF ?_; refine gW .here ?_; refine gF ?_; refine gW (.there (.there (.there .here))) ?_; refine gL ?_; refine gC ?_; refine gPq ?_; refine gO ?_; refine gc_if_dec rfl (fun _ => ?_) (fun _ => ?_); refine gV ?_; (iterate 2 refine gM ?_); refine gO ?_; refine gR ?_; refine gT ?_; refine gY ?_; (iterate 2 refine gT ?_); refine gY ?_; refine gT ?_; rotate_left; refine gK ?_; refine gX ?_; refine gV ?_; refine gF ?_; refine gW (.there (.there (.there .here))) ?_; refine gF ?_; refine gW .here ?_; apply gw_d; exact w_index (m := ed) rfl rfl rfl rfl hed hel; refine gF ?_; apply gw_d; exact w_load_fld rfl rfl rfl (by assumption) (by assumption); apply gw_d; exact w_call rfl rfl (hLen _) rfl; refine gM ?_; apply gw_d; exact det_extract rfl rfl rfl (by conv => (lhs; whnf)); apply gw_d; exact det_extract rfl rfl rfl (by conv => (lhs; whnf)); (iterate 2 refine gM ?_); refine gN ?_; refine gM ?_; refine gF ?_; refine gW .here ?_; rotate_left)
  all_goals first | (exfalso; omega) | skip
  refine gw_ent (K := Deep x.2.2 rEdge (.slice x.1 l.length x.2.1) l :: Box _ _ _ :: Own _ _ _ _ _ _ :: Box _ _ _ :: []) (Sub.ent (.cons (.there (.there .here)) (.cons .here (.cons .here (.cons .here .nil))))) ?_
  refine gw_pick (fun w' s => deep_at (i := ed) hel w w' s) (fun a ha => ?_)
  obtain ⟨x1, x2, xS⟩ := x
  dsimp only at ha ⊢
  subst ha
  have hLen2 : ∀ (L : List Res) (w' : World), St w (DeepAt xS (.slice (some a.1) l.length x2) l ed a :: L) w' → Ok Tryz.prog 112 [.slice a.2.1 (gE l ed).2.length a.2.2].toArray w' fun r _ => r = .tuple #[.int .i64 (lenL (gE l ed).2), .int .i64 0] := fun L w' s => r_length_ok w' _ _ (SlS.grow (fun b hb => (s.sep.fp _ List.mem_cons_self b hb).2) s.head.2.2.2.2) (edges_lines h0 ed hel)
  have hcd : ∀ (L : List Res) (w' : World), St w (DeepAt xS (.slice (some a.1) l.length x2) l ed a :: L) w' → w'.cell? ((a.1.add (ed * 2)).add 1) = some (.slice a.2.1 (gE l ed).2.length a.2.2) := fun L w' s => by rw [add_add]; exact s.head.2.2.2.1 1 _ rfl
  have hlr := lenL_range (line_good (edges_lines h0 ed hel))
  (apply gw_d; exact w_index (m := ed) rfl rfl rfl rfl hed hel; refine gF ?_; apply gw_d; exact det_load rfl rfl rfl (fun w' s => run_loadVar1 CNotAgg.h (hcd _ w' s)); apply gw_d; exact w_call rfl rfl (hLen2 _) rfl; refine gM ?_; apply gw_d; exact det_extract rfl rfl rfl (by conv => (lhs; whnf)); apply gw_d; exact det_extract rfl rfl rfl (by conv => (lhs; whnf)); (iterate 2 refine gM ?_); refine gN ?_; (iterate 2 refine gM ?_); refine gF ?_; refine gW (.there .here) ?_)
  all_goals first | (exfalso; omega) | skip
  have htn : nk.1.toNat = ed := by omega
  rw [htn] at hF
  by_cases hat : nk.2 < 0 ∨ nk.2 > lenL (gE l ed).2
  ·rw [if_pos hat] at hF
   rw [hstop hF]
   focus (apply gw_d; exact w_call rfl rfl (fun w' _ => r_partner_bad w' _ _ (by omega) hat) rfl; refine gM ?_; apply gw_d; exact det_extract rfl rfl rfl (by conv => (lhs; whnf)); apply gw_d; exact det_extract rfl rfl rfl (by conv => (lhs; whnf)); (iterate 2 refine gM ?_); refine gO ?_; refine gQ ?_; refine gV ?_; refine gM ?_; refine gC ?_; refine gO ?_; refine gc_if_dec rfl (fun _ => ?_) (fun _ => ?_); refine gV ?_; (iterate 3 refine gM ?_); refine gO ?_; refine gR ?_; refine gT ?_; refine gY ?_; (iterate 2 refine gT ?_); refine gY ?_; refine gT ?_; rotate_left; refine gK ?_; refine gX ?_; refine gG ?_; (iterate 2 refine gM ?_); rotate_left)
   all_goals first | (exfalso; omega) | skip
   all_goals (refine gx_ret2 (u := .slice _ _ _) (v := .int _ _) rfl rfl rfl (fun _ _ => ?_); exact ⟨(none, 0, 0), rfl, trivial⟩)
  rw [if_neg hat] at hF
  obtain ⟨LN, hLN⟩ : ∃ n : Nat, lenL (gE l ed).2 = (n : Int) := ⟨(lenL (gE l ed).2).toNat, by omega⟩
  obtain ⟨aN, haN⟩ : ∃ n : Nat, nk.2 = (n : Int) := ⟨nk.2.toNat, by omega⟩
  rw [hLN, haN]
  (skip)
  focus (apply gw_d; exact w_call rfl rfl (fun w' _ => r_partner_ok w' LN aN (by omega) (by omega)) rfl; refine gM ?_; apply gw_d; exact det_extract rfl rfl rfl (by conv => (lhs; whnf)); apply gw_d; exact det_extract rfl rfl rfl (by conv => (lhs; whnf)); (iterate 2 refine gM ?_); refine gO ?_; refine gQ ?_; refine gV ?_; refine gM ?_; refine gC ?_; refine gO ?_; refine gc_if_dec rfl (fun _ => ?_) (fun _ => ?_); refine gV ?_; (iterate 3 refine gM ?_); refine gO ?_; refine gR ?_; refine gT ?_; refine gY ?_; (iterate 2 refine gT ?_); refine gY ?_; refine gT ?_; rotate_left; refine gK ?_; refine gX ?_; refine gG ?_; (iterate 2 refine gM ?_); rotate_left)
  all_goals first | (exfalso; omega) | skip
  refine gw_bslice1 (v := .int .i64 (aN : Int)) rfl rfl rfl rfl rfl (fun bb => ?_)
  refine gw_append (news := [.int .i64 (aN : Int)]) rfl rfl rfl (.there (.there (.there .here))) rfl (fun w' s _ => ?_) (fun u hu => ?_) (by unfold maxLen; omega) (by omega) (by decide) rfl (fun A3 c3 => ?_)
  ·refine ⟨⟨bb, 0, none⟩, rfl, fun i u hu => ?_⟩
   rw [add_zero]
   refine (Box.cell s.head i).trans ?_
   change (#[Value.int .i64 (aN : Int)] : Array Value)[i]? = some u
   rw [List.getElem?_toArray]
   exact hu
  ·rw [List.mem_singleton] at hu
   subst hu
   rfl
  ·(refine gM ?_; refine gw_nil ?_; refine gH ?_; refine gX ?_; refine gG ?_; refine gM ?_; refine gA ?_; refine gM ?_; refine gw_nil ?_)
   refine gx_roundE (k + 1, A3, c3, pls ++ [(aN : Int)]) ⟨hkn, by simp [hpl], firstE_snoc hI hF⟩ (by dsimp only; omega) kK ⟨rfl, by rw [List.length_append]; rfl, trivial⟩ ?_
   dsimp only
   rw [List.length_append, List.map_append]
   exact Ent.trans (Sub.ent (.cons (.there (.there .here)) (.cons .here (.cons (.there (.there .here)) .nil)))) (Ent.trans (fun w0 w s => s.same (q := Deep xS rEdge (.slice (some a.1) l.length x2) l) (fun b hb => hb) s.head.1) (Sub.ent (.cons (.there .here) (.cons .here (.cons .here .nil)))))
 ·obtain rfl : k = ns.length := by omega
  (refine gI ?_; (iterate 2 refine gZ ?_); refine gJ ?_; refine gX ?_; refine gV ?_; (iterate 3 refine gM ?_); refine gO ?_; refine gR ?_)
  refine gx_ret2 (u := .slice _ _ _) (v := .int _ _) rfl rfl rfl (fun _ _ => ?_)
  exact ⟨(A, pls.length, c), by rw [hI], trivial⟩
theorem r_size_ok (w : World) (s : ByteArray) (hs : s.size ≤ 9223372036854775807) : Ok Tryz.prog 94 [.string s].toArray w fun r _ => r = .bool (sizeB' s) := by
 by_cases h0 : s.size = 0
 ·have hE : (s.toList == (ByteArray.mk #[]).toList) = true := by rw [ba_empty]; exact decide_eq_true h0
  have hN : sizeB' s = false := by unfold sizeB'; simp [h0]
  rw [hN]
  refine ok_enter Tryz.func94 rfl Tryz.ntmps94 rfl ?_
  (refine gV ?_; refine gM ?_; refine gO ?_; refine gQ ?_; refine gV ?_; refine gM ?_; apply gw_d; exact det_seq rfl rfl rfl rfl; refine gM ?_)
  refine gw_guard rfl rfl (fun _ => ?_) (fun h => by rw [hE] at h; cases h)
  ((iterate 3 refine gU ?_); refine gPp ?_; refine gO ?_; refine gc_if_true rfl ?_; refine gV ?_; refine gM ?_; refine gO ?_; refine gR ?_; refine gT ?_)
  all_goals (refine gb1 (fun _ _ => ?_); rfl)
 ·have hE : (s.toList == (ByteArray.mk #[]).toList) = false := by rw [ba_empty]; exact decide_eq_false h0
  refine ok_enter Tryz.func94 rfl Tryz.ntmps94 rfl ?_
  (refine gV ?_; refine gM ?_; refine gO ?_; refine gQ ?_; refine gV ?_; refine gM ?_; apply gw_d; exact det_seq rfl rfl rfl rfl; refine gM ?_)
  refine gw_guard rfl rfl (fun h => by rw [hE] at h; cases h) (fun _ => ?_)
  focus (refine gM ?_; apply gw_d; exact w_len_str rfl rfl rfl; refine gC ?_; refine gPq ?_; refine gO ?_; refine gc_if_dec rfl (fun _ => ?_) (fun _ => ?_); refine gV ?_; refine gM ?_; refine gO ?_; refine gR ?_; refine gT ?_; rotate_left; refine gK ?_; refine gX ?_; refine gQ ?_; refine gV ?_; refine gM ?_; refine gO ?_; refine gB ?_; rotate_left)
  ·refine gb1 (fun _ _ => ?_)
   rename_i h
   have h' : ¬ s.size ≤ 8 := by omega
   unfold sizeB'
   simp [h']
  rename_i h8
  refine gc_loop (σ := Nat) [11, 12, 13, 14, 17, 18, 19, 20, 21, 22, 23, 24, 25, 26, 27, 28, 29, 30, 31, 32, 33, 34, 35, 36, 37, 38, 39, 2, 15, 16, 3] (fun k => [(3, .int .i64 k)]) (fun _ => []) (fun k => k ≤ s.size ∧ (List.range k).all (fun i => sizeC (bAt s i)) = true) (fun k => s.size - k) 0 ⟨Nat.zero_le _, rfl⟩ ⟨rfl, trivial⟩ .nil ?_
  rintro k base ⟨hk, hI⟩
  focus (refine gQ ?_; refine gV ?_; (iterate 2 refine gM ?_); apply gw_d; exact w_len_str rfl rfl rfl; refine gC ?_; refine gO ?_; refine gc_if_dec rfl (fun _ => ?_) (fun _ => ?_); refine gK ?_; refine gX ?_; refine gQ ?_; refine gB ?_; refine gV ?_; (iterate 2 refine gM ?_); apply gw_d; exact w_sidx rfl rfl rfl rfl (by with_reducible exact rfl) (by omega); refine gC ?_; refine gM ?_; refine gD (fun _ => ?_) (fun _ => ?_); (iterate 2 refine gM ?_); apply gw_d; exact w_sidx rfl rfl rfl rfl (by with_reducible exact rfl) (by omega); refine gC ?_; refine gPp ?_; refine gM ?_; refine gD (fun _ => ?_) (fun _ => ?_); (iterate 10 refine gU ?_); refine gPp ?_; apply gw_d; exact det_not_ rfl rfl rfl; refine gO ?_; refine gc_if_false rfl ?_; refine gK ?_; refine gH ?_; refine gX ?_; refine gG ?_; refine gM ?_; refine gA ?_; refine gM ?_; refine gw_nil ?_; rotate_left; (iterate 2 refine gM ?_); apply gw_d; exact w_sidx rfl rfl rfl rfl (by with_reducible exact rfl) (by omega); refine gC ?_; refine gM ?_; refine gD (fun _ => ?_) (fun _ => ?_); (iterate 2 refine gM ?_); apply gw_d; exact w_sidx rfl rfl rfl rfl (by with_reducible exact rfl) (by omega); refine gC ?_; refine gPp ?_; refine gPq ?_; apply gw_d; exact det_not_dec rfl rfl rfl; refine gO ?_; refine gc_if_dec rfl (fun _ => ?_) (fun _ => ?_); refine gV ?_; refine gM ?_; refine gO ?_; refine gR ?_; refine gY ?_; (iterate 2 refine gT ?_); refine gY ?_; refine gT ?_; rotate_left; refine gK ?_; refine gH ?_; refine gX ?_; refine gG ?_; refine gM ?_; refine gA ?_; refine gM ?_; refine gw_nil ?_; rotate_left; (iterate 4 refine gU ?_); (iterate 2 refine gPq ?_); apply gw_d; exact det_not_ rfl rfl rfl; refine gO ?_; refine gc_if_true rfl ?_; refine gV ?_; refine gM ?_; refine gO ?_; refine gR ?_; refine gY ?_; (iterate 2 refine gT ?_); refine gY ?_; refine gT ?_; rotate_left; (iterate 4 refine gU ?_); refine gPq ?_; (iterate 3 refine gM ?_); apply gw_d; exact w_sidx rfl rfl rfl rfl (by with_reducible exact rfl) (by omega); refine gC ?_; refine gM ?_; refine gD (fun _ => ?_) (fun _ => ?_); (iterate 2 refine gM ?_); apply gw_d; exact w_sidx rfl rfl rfl rfl (by with_reducible exact rfl) (by omega); refine gC ?_; refine gPp ?_; refine gPq ?_; apply gw_d; exact det_not_dec rfl rfl rfl; refine gO ?_; refine gc_if_dec rfl (fun _ => ?_) (fun _ => ?_); refine gV ?_; refine gM ?_; refine gO ?_; refine gR ?_; refine gY ?_; (iterate 2 refine gT ?_); refine gY ?_; refine gT ?_; rotate_left; refine gK ?_; refine gH ?_; refine gX ?_; refine gG ?_; refine gM ?_; refine gA ?_; refine gM ?_; refine gw_nil ?_; rotate_left; (iterate 4 refine gU ?_); (iterate 2 refine gPq ?_); apply gw_d; exact det_not_ rfl rfl rfl; refine gO ?_; refine gc_if_true rfl ?_; refine gV ?_; refine gM ?_; refine gO ?_; refine gR ?_; refine gY ?_; (iterate 2 refine gT ?_); refine gY ?_; refine gT ?_; rotate_left; refine gI ?_; (iterate 2 refine gZ ?_); refine gJ ?_; refine gX ?_; refine gV ?_; refine gM ?_; refine gO ?_; refine gR ?_; rotate_left)
  all_goals first
   | exact gx_round (k + 1) ⟨by omega, sizes_snoc hI (sizeC_yes (by omega))⟩ (by omega) kK ⟨rfl, trivial⟩ .nil
   | (refine gb1 (fun _ _ => ?_); rw [sizeB_no (k := k) (by omega) (sizeC_no (by omega))])
   | skip
  refine gb1 (fun _ _ => ?_)
  obtain rfl : k = s.size := by omega
  have h1 : 1 ≤ s.size := by omega
  have h2 : s.size ≤ 8 := by omega
  unfold sizeB'
  rw [hI]
  simp [h1, h2]

def sizedB (s : Sty) : Bool := nameB s.name && !decide (s.sizes.length = 0) && !(s.sizes.any fun x => !sizeB' x) && s.multiples.any (isI 0) && decide (s.multiples.length = s.sizes.length)
def longB (s : Sty) : Bool := decide (s.sizes.length > 12) || decide (s.pieces.length > 12) || decide (s.seams.length > 24) || decide (s.ops.length > 16) || decide (s.uses.length > 12)
theorem whole_eq (s : Sty) : wholeE s = if sizedB s = false then 1 else if dupL s.sizes s.sizes.length = true then 7 else if longB s = true then 5 else if s.multiples.any farM = true then 3 else 0 := by
 unfold wholeE
 cases hn : nameB s.name with
 | false => rw [if_pos (.inl (by simp)), if_pos (by unfold sizedB; rw [hn]; rfl)]
 | true =>
  by_cases h0 : s.sizes.length = 0
  ·rw [if_pos (.inr h0), if_pos (by unfold sizedB; simp [h0])]
  ·rw [if_neg (by simp [h0])]
   cases h1 : s.sizes.any fun x => !sizeB' x with
   | true => rw [if_pos rfl, if_pos (by unfold sizedB; simp [h1])]
   | false =>
    rw [if_neg (by decide)]
    cases h2 : s.multiples.any (isI 0) with
    | false => rw [if_pos (.inr rfl), if_pos (by unfold sizedB; simp [h2])]
    | true =>
     by_cases h3 : s.multiples.length = s.sizes.length
     ·have hsz : sizedB s = true := by unfold sizedB; rw [hn, h1, h2, decide_eq_true h3, decide_eq_false h0]; rfl
      rw [if_neg (show ¬ (¬ s.multiples.length = s.sizes.length ∨ true = false) by simp [h3]), hsz, if_neg (show ¬ true = false by decide)]
      cases h4 : dupL s.sizes s.sizes.length with
      | true => rw [if_pos rfl, if_pos rfl]
      | false =>
       rw [if_neg (show ¬ false = true by decide), if_neg (show ¬ false = true by decide)]
       have hl : longB s = true ↔ (s.sizes.length > 12 ∨ s.pieces.length > 12 ∨ s.uses.length > 12) ∨ (s.seams.length > 24 ∨ s.ops.length > 16) := by
        unfold longB
        simp only [Bool.or_eq_true, decide_eq_true_eq]
        constructor
        ·rintro ((((h | h) | h) | h) | h) <;> simp [h]
        ·rintro ((h | h | h) | (h | h)) <;> simp [h]
       by_cases h5 : s.sizes.length > 12 ∨ s.pieces.length > 12 ∨ s.uses.length > 12
       ·rw [if_pos h5, if_pos (hl.2 (.inl h5))]
       ·rw [if_neg h5]
        by_cases h6 : s.seams.length > 24 ∨ s.ops.length > 16
        ·rw [if_pos h6, if_pos (hl.2 (.inr h6))]
        ·rw [if_neg h6, if_neg (fun h => (hl.1 h).elim h5 h6)]
     ·rw [if_pos (.inl h3), if_pos (by unfold sizedB; simp [h3])]
theorem ba_eq_list (p q : ByteArray) : (p.toList == q.toList) = decide (p = q) := by
 rw [ba_toList, ba_toList]
 by_cases h : p = q
 ·subst h; simp
 ·have h2 : ¬ p.data = q.data := fun hc => h (by
   cases p; cases q
   simp only at hc
   rw [hc])
  simp [h, h2]
theorem any_take_snoc {α : Type} (f : α → Bool) {l : List α} {k : Nat} (hk : k < l.length) : (l.take (k + 1)).any f = ((l.take k).any f || f l[k]) := by
 rw [List.take_succ_eq_append_getElem hk, List.any_append]
 simp
theorem r_sized_ok (w : World) (v : Value) (s : Sty) (hs : StyV w w.heap.size v s) : Ok Tryz.prog 77 [v].toArray w fun r _ => r = .bool (sizedB s) := by
 obtain ⟨As, cs, Am, cm, Ap, cp, Au, cu, Ae, ce, Ao, co, rfl, hnm, h1, h2, h3, h4, h5, h6⟩ := hs
 unfold maxLen at hnm
 obtain ⟨_, _, hv, hsc, hsm, hscell⟩ := h1.str'
 injection hv with e1 e2 e3
 subst e1 e3
 obtain ⟨_, _, hv, hmc, hmm, hmcell⟩ := h2.int
 injection hv with e1 e2 e3
 subst e1 e3
 refine ok_enter Tryz.func77 rfl Tryz.ntmps77 rfl ?_
 focus (refine gV ?_; refine gw_boxd (v := .agg _) rfl rfl (fun _ => ?_); refine gM ?_; refine gO ?_; refine gQ ?_; refine gV ?_; refine gF ?_; refine gW .here ?_; apply gw_d; exact w_call rfl rfl (fun w s => rname_ok w _ (by omega)) rfl; apply gw_d; exact det_not_ rfl rfl rfl; refine gM ?_; refine gw_guard rfl rfl (fun _ => ?_) (fun _ => ?_); (iterate 4 refine gU ?_); refine gPp ?_; refine gO ?_; refine gc_if_true rfl ?_; refine gV ?_; refine gM ?_; refine gO ?_; refine gR ?_; refine gT ?_; rotate_left; refine gF ?_; refine gW .here ?_; refine gL ?_; refine gC ?_; refine gPq ?_; refine gO ?_; refine gc_if_dec rfl (fun _ => ?_) (fun _ => ?_); refine gV ?_; refine gM ?_; refine gO ?_; refine gR ?_; refine gT ?_; rotate_left; refine gK ?_; refine gX ?_; refine gQ ?_; refine gV ?_; refine gM ?_; refine gO ?_; refine gB ?_; rotate_left)
 ·rename_i h
  refine gb1 (fun _ _ => ?_)
  unfold sizedB
  rw [show nameB s.name = false by simpa using h]
  rfl
 ·rename_i h
  refine gb1 (fun _ _ => ?_)
  unfold sizedB
  rw [decide_eq_true (show s.sizes.length = 0 by omega)]
  simp
 rename_i hn h0
 have hn : nameB s.name = true := by simpa using hn
 have h0 : ¬ s.sizes.length = 0 := by omega
 refine gc_loopK (σ := Nat) [16, 17, 18, 19, 20, 23, 24, 25, 26, 27, 28, 29, 2, 21, 22, 3] (fun k => [(3, .int .i64 k)]) (fun k => k ≤ s.sizes.length ∧ ((s.sizes.take k).any fun x => !sizeB' x) = false) (fun k => s.sizes.length - k) 0 ⟨Nat.zero_le _, rfl⟩ ⟨rfl, trivial⟩ ?_
 rintro k base ⟨hk, hI⟩
 (refine gQ ?_; refine gV ?_; refine gM ?_; refine gF ?_; refine gW .here ?_; refine gL ?_; refine gC ?_; refine gO ?_)
 refine gc_if_dec rfl (fun h => ?_) (fun h => ?_)
 ·have hlt : k < s.sizes.length := by omega
  obtain ⟨ad, rfl, hb, hce, hsz⟩ := hscell k hlt
  (refine gK ?_; refine gX ?_; refine gQ ?_; refine gB ?_; refine gV ?_; refine gF ?_; refine gW .here ?_; refine gM ?_; apply gw_d; exact w_index rfl rfl rfl rfl (by with_reducible exact rfl) (by omega); apply gw_d; exact w_load_at rfl rfl rfl (by assumption) (by assumption); apply gw_d; exact w_call rfl rfl (fun w s => r_size_ok w _ hsz) rfl; apply gw_d; exact det_not_ rfl rfl rfl; refine gO ?_)
  refine gc_if rfl (fun h => ?_) (fun h => ?_)
  ·(refine gV ?_; refine gM ?_; refine gO ?_; refine gR ?_; refine gY ?_; (iterate 2 refine gT ?_); refine gY ?_; refine gT ?_)
   refine gb1 (fun _ _ => ?_)
   unfold sizedB
   rw [show (s.sizes.any fun x => !sizeB' x) = true from any_at hlt h]
   simp
  ·(refine gK ?_; refine gH ?_; refine gX ?_; refine gG ?_; refine gM ?_; refine gA ?_; refine gM ?_; refine gw_nil ?_)
   exact gx_round (k + 1) ⟨by omega, take_any_snoc hlt hI h⟩ (by omega) kK ⟨rfl, trivial⟩ (Sub.all _)
 obtain rfl : k = s.sizes.length := by omega
 rw [List.take_length] at hI
 (refine gI ?_; (iterate 2 refine gZ ?_); refine gJ ?_; refine gX ?_; refine gV ?_; refine gM ?_; refine gO ?_; refine gQ ?_; refine gV ?_; refine gM ?_; refine gO ?_; refine gB ?_)
 refine gc_loopK (σ := Nat) [30, 31, 32, 33, 34, 37, 38, 39, 40, 41, 42, 43, 44, 45, 4, 35, 36, 5] (fun k => [(5, .int .i64 k), (4, .bool ((s.multiples.take k).any (isI 0)))]) (fun k => k ≤ s.multiples.length) (fun k => s.multiples.length - k) 0 (Nat.zero_le _) ⟨rfl, rfl, trivial⟩ ?_
 rintro k base2 hk
 (refine gQ ?_; refine gV ?_; refine gM ?_; refine gF ?_; refine gW .here ?_; refine gL ?_; refine gC ?_; refine gO ?_)
 refine gc_if_dec rfl (fun h => ?_) (fun h => ?_)
 ·have hlt : k < s.multiples.length := by omega
  obtain ⟨ad, rfl, hb, hce, _⟩ := hmcell k hlt
  have hsn := any_take_snoc (isI 0) hlt
  generalize (s.multiples.take k).any (isI 0) = b at hsn
  focus (refine gK ?_; refine gX ?_; refine gQ ?_; refine gB ?_; refine gG ?_; (iterate 2 refine gM ?_); refine gw_guard rfl rfl (fun _ => ?_) (fun _ => ?_); (iterate 6 refine gU ?_); refine gPp ?_; refine gM ?_; refine gw_nil ?_; refine gH ?_; refine gX ?_; refine gG ?_; refine gM ?_; refine gA ?_; refine gM ?_; refine gw_nil ?_; rotate_left; refine gF ?_; refine gW .here ?_; refine gM ?_; apply gw_d; exact w_index rfl rfl rfl rfl (by with_reducible exact rfl) (by omega); apply gw_d; exact w_load_at rfl rfl rfl (by assumption) (by assumption); refine gC ?_; refine gPq ?_; refine gM ?_; refine gw_nil ?_; refine gH ?_; refine gX ?_; refine gG ?_; refine gM ?_; refine gA ?_; refine gM ?_; refine gw_nil ?_; rotate_left)
  ·rename_i h9
   exact gx_round (k + 1) hlt (by omega) kK ⟨rfl, by rw [hsn, h9]; rfl, trivial⟩ (Sub.all _)
  ·rename_i h9
   refine gx_round (k + 1) hlt (by omega) kK ⟨rfl, ?_, trivial⟩ (Sub.all _)
   rw [hsn, h9]
   refine congrArg Value.bool ?_
   unfold isI
   simp [eq_comm]
 obtain rfl : k = s.multiples.length := by omega
 rw [List.take_length]
 cases hb : s.multiples.any (isI 0) with
 | false =>
  (refine gI ?_; (iterate 2 refine gZ ?_); refine gJ ?_; refine gX ?_; refine gV ?_; (iterate 2 refine gM ?_); (iterate 7 refine gU ?_); refine gPq ?_; refine gM ?_; refine gO ?_; refine gR ?_)
  refine gb1 (fun _ _ => ?_)
  unfold sizedB
  rw [hb]
  simp
 | true =>
  (refine gI ?_; (iterate 2 refine gZ ?_); refine gJ ?_; refine gX ?_; refine gV ?_; (iterate 2 refine gM ?_); refine gF ?_; refine gW .here ?_; refine gL ?_; refine gF ?_; refine gW .here ?_; refine gL ?_; refine gC ?_; refine gPp ?_; refine gM ?_; refine gO ?_; refine gR ?_)
  refine gb1 (fun _ _ => ?_)
  unfold sizedB
  rw [hb, hn, hI, decide_eq_false h0]
  refine congrArg Value.bool ?_
  simp
  omega
theorem r_twiceS_ok (w : World) (v : Value) (l : List ByteArray) (hl : Sl rStr w w.heap.size v l) : Ok Tryz.prog 78 [v].toArray w fun r _ => r = .bool (dupL l l.length) := by
 obtain ⟨A, c, rfl, hc, hm, hcell⟩ := hl.str'
 refine ok_enter Tryz.func78 rfl Tryz.ntmps78 rfl ?_
 (refine gV ?_; refine gM ?_; refine gO ?_; refine gQ ?_; refine gV ?_; refine gM ?_; refine gO ?_; refine gB ?_)
 refine gc_loop (σ := Nat) [5, 6, 7, 8, 4, 11, 12, 13, 16, 17, 18, 19, 20, 21, 22, 23, 24, 2, 14, 15, 9, 10, 3] (fun k => [(3, .int .i64 k)]) (fun _ => []) (fun k => k ≤ l.length ∧ dupL l k = false) (fun k => l.length - k) 0 ⟨Nat.zero_le _, rfl⟩ ⟨rfl, trivial⟩ .nil ?_
 rintro k base ⟨hk, hI⟩
 (refine gQ ?_; refine gV ?_; (iterate 2 refine gM ?_); refine gL ?_; refine gC ?_; refine gO ?_)
 refine gc_if_dec rfl (fun h => ?_) (fun h => ?_)
 ·have hlt : k < l.length := by omega
  obtain ⟨ad, rfl, hb, hce, hi⟩ := hcell k hlt
  (refine gK ?_; refine gX ?_; refine gQ ?_; refine gB ?_; refine gV ?_; refine gM ?_; refine gO ?_; refine gB ?_)
  refine gc_loop (σ := Nat) [11, 12, 13, 16, 17, 18, 19, 20, 21, 22, 23, 24, 2, 14, 15, 4] (fun j => [(4, .int .i64 j)]) (fun _ => []) (fun j => j ≤ k ∧ hasB ((l.take k).take j) l[k] = false) (fun j => k - j) 0 ⟨Nat.zero_le _, rfl⟩ ⟨rfl, trivial⟩ .nil ?_
  rintro j base2 ⟨hj, hJ⟩
  (refine gQ ?_; refine gV ?_; (iterate 2 refine gM ?_); refine gC ?_; refine gO ?_)
  refine gc_if_dec rfl (fun h2 => ?_) (fun h2 => ?_)
  ·have hjk : j < k := by omega
   obtain ⟨ad2, ha2, hb2, hce2, _⟩ := hcell j (by omega)
   injection ha2 with ha2
   subst ha2
   have hjl : j < (l.take k).length := by rw [List.length_take]; omega
   have hgt : (l.take k)[j] = l[j] := List.getElem_take
   have heq : (l[k].toList == l[j].toList) = decide (l[j] = l[k]) := by
    rw [ba_eq_list]
    exact decide_eq_decide.2 eq_comm
   (refine gK ?_; refine gX ?_; refine gQ ?_; refine gB ?_; refine gQ ?_)
   refine gc_draw 9 (by kernel_rfl) (by kernel_rfl) ?_
   ((iterate 2 refine dM ?_); apply gd_d; exact w_index (m := k) rfl rfl rfl rfl rfl hlt; apply gd_d; exact w_load_at rfl rfl rfl (by assumption) (by assumption); (iterate 2 refine dM ?_); apply gd_d; exact w_index (m := j) rfl rfl rfl rfl rfl (by omega); apply gd_d; exact w_load_at rfl rfl rfl (by assumption) (by assumption); apply gd_d; exact det_seq rfl rfl rfl rfl; refine gd_nil ?_; refine gO ?_)
   refine gc_if rfl (fun h3 => ?_) (fun h3 => ?_)
   ·(refine gV ?_; refine gM ?_; refine gO ?_; refine gR ?_; refine gY ?_; (iterate 2 refine gT ?_); (iterate 2 refine gY ?_); (iterate 2 refine gT ?_); refine gY ?_; refine gT ?_)
    refine gb1 (fun _ _ => ?_)
    rw [heq] at h3
    have h4 : hasB (l.take k) l[k] = true := hasB_iff.2 (by rw [← of_decide_eq_true h3, ← hgt]; exact List.getElem_mem hjl)
    rw [dupL_yes hlt h4]
   ·(refine gK ?_; refine gH ?_; refine gX ?_; refine gG ?_; refine gM ?_; refine gA ?_; refine gM ?_; refine gw_nil ?_)
    rw [heq] at h3
    exact gx_round (j + 1) ⟨hjk, take_any_snoc hjl hJ (by rw [hgt]; exact h3)⟩ (by omega) kK ⟨rfl, trivial⟩ .nil
  ·obtain rfl : j = k := by omega
   have hJ' : hasB (l.take j) l[j] = false := by rw [List.take_of_length_le (by rw [List.length_take]; omega)] at hJ; exact hJ
   (refine gI ?_; (iterate 2 refine gZ ?_); refine gJ ?_; refine gH ?_; refine gX ?_; refine gG ?_; refine gM ?_; refine gA ?_; refine gM ?_; refine gw_nil ?_)
   exact gx_round (j + 1) ⟨hlt, dupL_snoc hlt hI hJ'⟩ (by omega) kK ⟨rfl, trivial⟩ .nil
 ·obtain rfl : k = l.length := by omega
  (refine gI ?_; (iterate 2 refine gZ ?_); refine gJ ?_; refine gX ?_; refine gV ?_; refine gM ?_; refine gO ?_; refine gR ?_)
  refine gb1 (fun _ _ => ?_)
  rw [hI]
theorem r_long_ok (w : World) (v : Value) (s : Sty) (hs : StyV w w.heap.size v s) : Ok Tryz.prog 79 [v].toArray w fun r _ => r = .bool (longB s) := by
 obtain ⟨As, cs, Am, cm, Ap, cp, Au, cu, Ae, ce, Ao, co, rfl, hnm, h1, h2, h3, h4, h5, h6⟩ := hs
 refine ok_enter Tryz.func79 rfl Tryz.ntmps79 rfl ?_
 focus (refine gV ?_; refine gw_boxd (v := .agg _) rfl rfl (fun _ => ?_); refine gM ?_; refine gN ?_; refine gF ?_; refine gW .here ?_; refine gL ?_; refine gC ?_; refine gM ?_; refine gD (fun _ => ?_) (fun _ => ?_); (iterate 4 refine gU ?_); refine gPp ?_; refine gM ?_; (iterate 4 refine gU ?_); refine gPp ?_; refine gM ?_; (iterate 4 refine gU ?_); refine gPp ?_; refine gM ?_; (iterate 4 refine gU ?_); refine gPp ?_; refine gM ?_; refine gO ?_; refine gR ?_; rotate_left; refine gF ?_; refine gW .here ?_; refine gL ?_; refine gC ?_; refine gPq ?_; refine gM ?_; refine gD (fun _ => ?_) (fun _ => ?_); (iterate 4 refine gU ?_); refine gPp ?_; refine gM ?_; (iterate 4 refine gU ?_); refine gPp ?_; refine gM ?_; (iterate 4 refine gU ?_); refine gPp ?_; refine gM ?_; refine gO ?_; refine gR ?_; rotate_left; refine gF ?_; refine gW .here ?_; refine gL ?_; refine gC ?_; refine gPq ?_; refine gM ?_; refine gD (fun _ => ?_) (fun _ => ?_); (iterate 4 refine gU ?_); refine gPp ?_; refine gM ?_; (iterate 4 refine gU ?_); refine gPp ?_; refine gM ?_; refine gO ?_; refine gR ?_; rotate_left; refine gF ?_; refine gW .here ?_; refine gL ?_; refine gC ?_; refine gPq ?_; refine gM ?_; refine gD (fun _ => ?_) (fun _ => ?_); (iterate 4 refine gU ?_); refine gPp ?_; refine gM ?_; refine gO ?_; refine gR ?_; rotate_left; refine gF ?_; refine gW .here ?_; refine gL ?_; refine gC ?_; refine gPq ?_; refine gM ?_; refine gO ?_; refine gR ?_; rotate_left)
 all_goals
  refine gb1 (fun _ _ => ?_)
  refine congrArg Value.bool ?_
  unfold longB
  first
   | (rw [Bool.eq_iff_iff]; simp only [Bool.or_eq_true, decide_eq_true_eq]; omega)
   | (symm; simp only [Bool.or_eq_true, decide_eq_true_eq]; omega)
theorem r_inside_ok (w : World) (v : Value) (s : Sty) (p e : Int) (hs : StyV w w.heap.size v s) : Ok Tryz.prog 98 [v, .int .i64 p, .int .i64 e].toArray w fun r _ => r = .bool (isEdgeB s p e) := by
 obtain ⟨As, cs, Am, cm, Ap, cp, Au, cu, Ae, ce, Ao, co, rfl, hnm, h1, h2, h3, h4, h5, h6⟩ := hs
 obtain ⟨_, _, hv, hpc, hpm⟩ := len_small h3
 injection hv with e1 e2 e3
 subst e1 e3
 by_cases hp : 0 ≤ p ∧ p < (s.pieces.length : Int)
 ·obtain ⟨k, rfl⟩ : ∃ k : Nat, p = k := ⟨p.toNat, by omega⟩
  have hk : k < s.pieces.length := by omega
  obtain ⟨ad, _, hv, _, _, hb, hcell⟩ := h3.at' 7 rfl (by omega)
  injection hv with e1 e2 e3
  subst e1 e3
  obtain ⟨cs, hce, Ae', ce', _, _, _, _, _, _, rfl, _, hed, _⟩ := hcell k hk
  have hce1 := hce 1 _ rfl
  have hg : isEdgeB s k e = (decide (0 ≤ e) && decide (e < s.pieces[k].edges.length)) := by
   unfold isEdgeB
   rw [Int.toNat_natCast, List.getElem?_eq_getElem hk]
   have h1 : (0 : Int) ≤ (k : Int) := by omega
   simp [h1, hp.2]
  rw [hg]
  refine ok_enter Tryz.func98 rfl Tryz.ntmps98 rfl ?_
  focus (refine gV ?_; refine gw_boxd (v := .agg _) rfl rfl (fun _ => ?_); refine gM ?_; refine gN ?_; refine gM ?_; refine gC ?_; (iterate 2 refine gM ?_); refine gF ?_; refine gW .here ?_; refine gL ?_; refine gC ?_; refine gPp ?_; refine gM ?_; refine gD (fun _ => ?_) (fun _ => ?_); refine gM ?_; refine gC ?_; refine gPp ?_; refine gM ?_; refine gD (fun _ => ?_) (fun _ => ?_); refine gM ?_; refine gF ?_; refine gW .here ?_; refine gM ?_; apply gw_d; exact w_index rfl rfl rfl rfl (by with_reducible exact rfl) (by omega); refine gF ?_; apply gw_d; exact w_load_fld rfl rfl rfl (by assumption) (by assumption); refine gL ?_; refine gC ?_; refine gPp ?_; refine gM ?_; refine gO ?_; refine gR ?_; rotate_left; (iterate 9 refine gU ?_); refine gPq ?_; refine gM ?_; refine gO ?_; refine gR ?_; rotate_left; (iterate 2 refine gU ?_); refine gPq ?_; refine gM ?_; (iterate 9 refine gU ?_); refine gPq ?_; refine gM ?_; refine gO ?_; refine gR ?_; rotate_left)
  all_goals first | (exfalso; omega) | (refine gb1 (fun _ _ => ?_); simp [*])
 ·have hg : isEdgeB s p e = false := by
   unfold isEdgeB
   by_cases h1 : 0 ≤ p
   ·have h2 : ¬ p < (s.pieces.length : Int) := fun h => hp ⟨h1, h⟩
    simp [h2]
   ·simp [h1]
  rw [hg]
  refine ok_enter Tryz.func98 rfl Tryz.ntmps98 rfl ?_
  focus (refine gV ?_; refine gw_boxd (v := .agg _) rfl rfl (fun _ => ?_); refine gM ?_; refine gN ?_; refine gM ?_; refine gC ?_; refine gM ?_; refine gD (fun _ => ?_) (fun _ => ?_); refine gM ?_; refine gF ?_; refine gW .here ?_; refine gL ?_; refine gC ?_; refine gPp ?_; refine gM ?_; refine gD (fun _ => ?_) (fun _ => ?_); refine gM ?_; refine gC ?_; refine gPp ?_; refine gM ?_; refine gD (fun _ => ?_) (fun _ => ?_); refine gM ?_; refine gF ?_; refine gW .here ?_; refine gM ?_; rotate_left; (iterate 9 refine gU ?_); refine gPq ?_; refine gM ?_; refine gO ?_; refine gR ?_; rotate_left; (iterate 2 refine gU ?_); refine gPq ?_; refine gM ?_; (iterate 9 refine gU ?_); refine gPq ?_; refine gM ?_; refine gO ?_; refine gR ?_; rotate_left; (iterate 5 refine gU ?_); refine gPq ?_; refine gM ?_; (iterate 2 refine gU ?_); refine gPq ?_; refine gM ?_; (iterate 9 refine gU ?_); refine gPq ?_; refine gM ?_; refine gO ?_; refine gR ?_; rotate_left)
  all_goals first | (exfalso; omega) | (refine gb1 (fun _ _ => ?_); rfl)
def widthsE (p : Pc) : Int := if ¬ p.widths.length = p.edges.length then 1 else if p.widths.any wideB = true then 3 else 0
theorem r_widths_ok (w : World) (p : Pc) (Ae An Ac Aw : Option Addr) (ce cn cc cw nn nc : Nat) (he : p.edges.length ≤ 9223372036854775807) (hws : Sl rInt w w.heap.size (.slice Aw p.widths.length cw) p.widths) :
  Ok Tryz.prog 97 [.agg #[.string p.name, .slice Ae p.edges.length ce, .int .i64 p.grain, .slice An nn cn, .slice Ac nc cc, .slice Aw p.widths.length cw, .bool p.mt]].toArray w
   fun r _ => r = .int .i64 (widthsE p) := by
 obtain ⟨_, _, hv, hwc, hwm, hwcell⟩ := hws.int
 injection hv with e1 e2 e3
 subst e1 e3
 refine ok_enter Tryz.func97 rfl Tryz.ntmps97 rfl ?_
 focus (refine gV ?_; refine gw_boxd (v := .agg _) rfl rfl (fun _ => ?_); refine gM ?_; refine gO ?_; refine gQ ?_; refine gV ?_; refine gF ?_; refine gW .here ?_; refine gL ?_; refine gF ?_; refine gW .here ?_; refine gL ?_; refine gC ?_; refine gO ?_; refine gc_if_dec rfl (fun _ => ?_) (fun _ => ?_); refine gV ?_; refine gM ?_; refine gO ?_; refine gR ?_; refine gT ?_; rotate_left; refine gK ?_; refine gX ?_; refine gQ ?_; refine gV ?_; refine gM ?_; refine gO ?_; refine gB ?_; rotate_left)
 ·refine gi1 (fun _ _ => ?_)
  unfold widthsE
  rw [if_pos (by omega)]
 refine gc_loopK (σ := Nat) [11, 12, 13, 14, 15, 18, 19, 20, 21, 22, 23, 24, 25, 26, 27, 28, 29, 30, 31, 2, 16, 17, 3] (fun k => [(3, .int .i64 k)]) (fun k => k ≤ p.widths.length ∧ (p.widths.take k).any wideB = false) (fun k => p.widths.length - k) 0 ⟨Nat.zero_le _, rfl⟩ ⟨rfl, trivial⟩ ?_
 rintro k base2 ⟨hk, hJ⟩
 (refine gQ ?_; refine gV ?_; refine gM ?_; refine gF ?_; refine gW .here ?_; refine gL ?_; refine gC ?_; refine gO ?_)
 refine gc_if_dec rfl (fun h => ?_) (fun h => ?_)
 ·have hlt : k < p.widths.length := by omega
  obtain ⟨ad, rfl, hb, hce, _⟩ := hwcell k hlt
  focus (refine gK ?_; refine gX ?_; refine gQ ?_; refine gB ?_; refine gV ?_; refine gF ?_; refine gW .here ?_; refine gM ?_; apply gw_d; exact w_index rfl rfl rfl rfl (by with_reducible exact rfl) (by omega); apply gw_d; exact w_load_at rfl rfl rfl (by assumption) (by assumption); refine gC ?_; refine gM ?_; refine gD (fun _ => ?_) (fun _ => ?_); (iterate 6 refine gU ?_); refine gPp ?_; refine gO ?_; refine gc_if_true rfl ?_; refine gV ?_; refine gM ?_; refine gO ?_; refine gR ?_; refine gY ?_; (iterate 2 refine gT ?_); refine gY ?_; refine gT ?_; rotate_left; refine gF ?_; refine gW .here ?_; refine gM ?_; apply gw_d; exact w_index rfl rfl rfl rfl (by with_reducible exact rfl) (by omega); apply gw_d; exact w_load_at rfl rfl rfl (by assumption) (by assumption); refine gC ?_; refine gPq ?_; refine gO ?_; refine gc_if_dec rfl (fun _ => ?_) (fun _ => ?_); refine gV ?_; refine gM ?_; refine gO ?_; refine gR ?_; refine gY ?_; (iterate 2 refine gT ?_); refine gY ?_; refine gT ?_; rotate_left; refine gK ?_; refine gH ?_; refine gX ?_; refine gG ?_; refine gM ?_; refine gA ?_; refine gM ?_; refine gw_nil ?_; rotate_left)
  ·refine gi1 (fun _ _ => ?_)
   unfold widthsE
   rw [if_neg (by omega), if_pos (any_at hlt (by unfold wideB; simp only [Bool.or_eq_true, decide_eq_true_eq]; left; assumption))]
  ·refine gi1 (fun _ _ => ?_)
   unfold widthsE
   rw [if_neg (by omega), if_pos (any_at hlt (by unfold wideB; simp only [Bool.or_eq_true, decide_eq_true_eq]; right; assumption))]
  ·exact gx_round (k + 1) ⟨by omega, take_any_snoc hlt hJ (by unfold wideB; simp only [Bool.or_eq_false_iff, decide_eq_false_iff_not]; constructor <;> assumption)⟩ (by omega) kK ⟨rfl, trivial⟩ (Sub.all _)
 obtain rfl : k = p.widths.length := by omega
 rw [List.take_length] at hJ
 (refine gI ?_; (iterate 2 refine gZ ?_); refine gJ ?_; refine gX ?_; refine gV ?_; refine gM ?_; refine gO ?_; refine gR ?_)
 refine gi1 (fun _ _ => ?_)
 unfold widthsE
 rw [if_neg (by omega), if_neg (by rw [hJ]; decide)]

theorem piece_eq (e : List Pc) (p : Pc) (x : Int) : pieceE e p x = if ¬ (nameB p.name = true ∧ ¬ (¬ p.grain = 1 ∧ ¬ p.grain = 2 ∧ ¬ p.grain = 4)) then 1 else if (e.any fun y => eqS y.name p.name) = true then 7 else if ¬ gradedE p.edges p.corners = 0 then gradedE p.edges p.corners else if ¬ x = 0 then x else widthsE p := by
 unfold pieceE widthsE
 by_cases h1 : nameB p.name = true
 ·rw [if_pos h1]
  by_cases h2 : ¬ p.grain = 1 ∧ ¬ p.grain = 2 ∧ ¬ p.grain = 4
  ·rw [if_pos h2, if_pos (fun h => h.2 h2)]
  ·rw [if_neg h2, if_neg (show ¬ ¬ (nameB p.name = true ∧ ¬ (¬ p.grain = 1 ∧ ¬ p.grain = 2 ∧ ¬ p.grain = 4)) from fun h => h ⟨h1, h2⟩)]
 ·rw [if_neg h1, if_pos (fun h => h1 h.1)]
theorem r_piece_ok (w : World) (ve : Value) (e : List Pc) (p : Pc) (Ae An Ac Aw : Option Addr) (ce cn cc cw : Nat) (he : Sl rPiece w w.heap.size ve e)
  (hl : Sl rEdge w w.heap.size (.slice Ae p.edges.length ce) p.edges) (hcs : Sl rSpot w w.heap.size (.slice Ac p.corners.length cc) p.corners) (hns : Sl rSpot w w.heap.size (.slice An p.notches.length cn) p.notches) (hws : Sl rInt w w.heap.size (.slice Aw p.widths.length cw) p.widths) (hnm : p.name.size ≤ 9223372036854775807) :
  Ok Tryz.prog 80 [ve, .agg #[.string p.name, .slice Ae p.edges.length ce, .int .i64 p.grain, .slice An p.notches.length cn, .slice Ac p.corners.length cc, .slice Aw p.widths.length cw, .bool p.mt]].toArray w
   fun r _ => r = .int .i64 (pieceE e p (placedE p.edges p.corners p.notches)) := by
 obtain ⟨A, c, rfl, hec, hem⟩ := len_small he
 obtain ⟨_, _, hv, hlc, hlm⟩ := len_small hl
 injection hv with e1 e2 e3
 subst e1 e3
 rw [piece_eq]
 have hN : ∀ (L : List Res) (w' : World), St w L w' → Ok Tryz.prog 82 [.string p.name].toArray w' fun r _ => r = .bool (nameB p.name) := fun L w' _ => rname_ok w' _ hnm
 by_cases hg : ¬ (nameB p.name = true ∧ ¬ (¬ p.grain = 1 ∧ ¬ p.grain = 2 ∧ ¬ p.grain = 4))
 ·rw [if_pos hg]
  cases hb : nameB p.name with
  | false =>
   rw [hb] at hN
   refine ok_enter Tryz.func80 rfl Tryz.ntmps80 rfl ?_
   (refine gV ?_; refine gw_boxd (v := .agg _) rfl rfl (fun _ => ?_); refine gM ?_; refine gO ?_; refine gQ ?_; refine gV ?_; refine gF ?_; refine gW .here ?_; apply gw_d; exact w_call rfl rfl (hN _) rfl; apply gw_d; exact det_not_ rfl rfl rfl; refine gM ?_; (iterate 13 refine gU ?_); refine gPp ?_; refine gO ?_; refine gc_if_true rfl ?_; refine gV ?_; refine gM ?_; refine gO ?_; refine gR ?_; refine gT ?_)
   refine gi1 (fun _ _ => ?_)
   rfl
  | true =>
   have hgr : ¬ p.grain = 1 ∧ ¬ p.grain = 2 ∧ ¬ p.grain = 4 := Classical.not_not.1 fun h => hg ⟨hb, h⟩
   rw [hb] at hN
   refine ok_enter Tryz.func80 rfl Tryz.ntmps80 rfl ?_
   focus (refine gV ?_; refine gw_boxd (v := .agg _) rfl rfl (fun _ => ?_); refine gM ?_; refine gO ?_; refine gQ ?_; refine gV ?_; refine gF ?_; refine gW .here ?_; apply gw_d; exact w_call rfl rfl (hN _) rfl; apply gw_d; exact det_not_ rfl rfl rfl; refine gM ?_; refine gF ?_; refine gW .here ?_; refine gC ?_; refine gM ?_; refine gD (fun _ => ?_) (fun _ => ?_); refine gF ?_; refine gW .here ?_; refine gC ?_; refine gPp ?_; refine gM ?_; refine gD (fun _ => ?_) (fun _ => ?_); refine gF ?_; refine gW .here ?_; refine gC ?_; refine gPp ?_; refine gPq ?_; refine gO ?_; refine gc_if_dec rfl (fun _ => ?_) (fun _ => ?_); refine gV ?_; refine gM ?_; refine gO ?_; refine gR ?_; refine gT ?_; rotate_left; refine gK ?_; refine gX ?_; refine gQ ?_; refine gV ?_; refine gM ?_; refine gO ?_; refine gB ?_; rotate_left; (iterate 3 refine gU ?_); (iterate 2 refine gPq ?_); refine gO ?_; refine gc_if_false rfl ?_; refine gK ?_; refine gX ?_; refine gQ ?_; refine gV ?_; refine gM ?_; refine gO ?_; refine gB ?_; rotate_left; (iterate 3 refine gU ?_); refine gPq ?_; refine gM ?_; (iterate 3 refine gU ?_); (iterate 2 refine gPq ?_); refine gO ?_; refine gc_if_false rfl ?_; refine gK ?_; refine gX ?_; refine gQ ?_; refine gV ?_; refine gM ?_; refine gO ?_; refine gB ?_; rotate_left)
   all_goals first | (exfalso; omega) | skip
   refine gi1 (fun _ _ => ?_)
   rfl
 have hg' := Classical.not_not.1 hg
 obtain ⟨hb, hgr⟩ := hg'
 rw [if_neg hg]
 rw [hb] at hN
 refine ok_enter Tryz.func80 rfl Tryz.ntmps80 rfl ?_
 refine gc_seq ?_
 refine gc_region ?_
 refine gw_boxd (v := .agg _) rfl rfl (fun bp => ?_)
 apply gw_d
 ·exact det_m rfl rfl (by conv => (lhs; whnf))
 refine gw_nil ?_
 refine gx_next ?_
 refine gc_sum [10, 11, 12, 13, 14, 15, 16, 17, 18, 19, 20, 21, 22, 23, 24, 25, 26, 27, 28] [] (K := [Box bp 113 #[.string p.name, .slice Ae p.edges.length ce, .int .i64 p.grain, .slice An p.notches.length cn, .slice Ac p.corners.length cc, .slice Aw p.widths.length cw, .bool p.mt]]) ?_ (fun base => ?_)
 ·focus (refine gV ?_; refine gF ?_; refine gW .here ?_; apply gw_d; exact w_call rfl rfl (hN _) rfl; apply gw_d; exact det_not_ rfl rfl rfl; refine gM ?_; refine gF ?_; refine gW .here ?_; refine gC ?_; refine gM ?_; refine gD (fun _ => ?_) (fun _ => ?_); refine gF ?_; refine gW .here ?_; refine gC ?_; refine gPp ?_; refine gM ?_; refine gD (fun _ => ?_) (fun _ => ?_); refine gF ?_; refine gW .here ?_; refine gC ?_; refine gPp ?_; refine gPq ?_; refine gO ?_; refine gc_if_dec rfl (fun _ => ?_) (fun _ => ?_); refine gV ?_; refine gM ?_; refine gO ?_; refine gR ?_; refine gT ?_; rotate_left; refine gK ?_; rotate_left; (iterate 3 refine gU ?_); (iterate 2 refine gPq ?_); refine gO ?_; refine gc_if_false rfl ?_; refine gK ?_; rotate_left; (iterate 3 refine gU ?_); refine gPq ?_; refine gM ?_; (iterate 3 refine gU ?_); (iterate 2 refine gPq ?_); refine gO ?_; refine gc_if_false rfl ?_; refine gK ?_; rotate_left)
  all_goals first | (exfalso; omega) | skip
  all_goals exact gx_left kK trivial (Sub.all _)
 (refine gQ ?_; refine gV ?_; refine gM ?_; refine gO ?_; refine gB ?_)
 refine gc_loopK (σ := Nat) [29, 30, 31, 32, 35, 36, 37, 38, 39, 40, 41, 42, 4, 33, 34, 5] (fun k => [(5, .int .i64 k)]) (fun k => k ≤ e.length ∧ ((e.take k).any fun x => eqS x.name p.name) = false) (fun k => e.length - k) 0 ⟨Nat.zero_le _, rfl⟩ ⟨rfl, trivial⟩ ?_
 rintro k base ⟨hk, hI⟩
 (refine gQ ?_; refine gV ?_; (iterate 2 refine gM ?_); refine gL ?_; refine gC ?_; refine gO ?_)
 refine gc_if_dec rfl (fun h => ?_) (fun h => ?_)
 ·have hlt : k < e.length := by omega
  obtain ⟨ad, _, hv, _, _, hb, hcell⟩ := he.at' 7 rfl (by omega)
  injection hv with e1 e2 e3
  subst e1 e3
  obtain ⟨cs, hce, _, _, _, _, _, _, _, _, rfl, _⟩ := hcell k hlt
  have hce0 := hce 0 _ rfl
  (refine gK ?_; refine gX ?_; refine gQ ?_; refine gB ?_; refine gQ ?_)
  refine gc_draw 8 (by kernel_rfl) (by kernel_rfl) ?_
  ((iterate 2 refine dM ?_); apply gd_d; exact w_index rfl rfl rfl rfl (by with_reducible exact rfl) (by omega); apply gd_d; exact w_field rfl rfl rfl; apply gd_d; exact w_load_fld rfl rfl rfl (by assumption) (by assumption); apply gd_d; exact w_field rfl rfl rfl; apply gd_d; exact w_load_box rfl rfl rfl .here rfl; apply gd_d; exact det_seq rfl rfl rfl rfl; refine gd_nil ?_; refine gO ?_)
  refine gc_if rfl (fun h => ?_) (fun h => ?_)
  ·(refine gV ?_; refine gM ?_; refine gO ?_; refine gR ?_; refine gY ?_; (iterate 2 refine gT ?_); refine gY ?_; refine gT ?_)
   refine gi1 (fun _ _ => ?_)
   rw [if_pos (any_at hlt h)]
  ·(refine gK ?_; refine gH ?_; refine gX ?_; refine gG ?_; refine gM ?_; refine gA ?_; refine gM ?_; refine gw_nil ?_)
   exact gx_round (k + 1) ⟨by omega, take_any_snoc hlt hI h⟩ (by omega) kK ⟨rfl, trivial⟩ (Sub.all _)
 obtain rfl : k = e.length := by omega
 rw [List.take_length] at hI
 rw [if_neg (show ¬ (e.any fun y => eqS y.name p.name) = true by rw [hI]; decide)]
 (refine gI ?_; (iterate 2 refine gZ ?_); refine gJ ?_; refine gX ?_; refine gQ ?_; refine gV ?_; apply gw_d; exact w_load_boxN rfl rfl rfl .here rfl)
 refine gw_callm rfl (fun w s => r_graded_ok w _ _ _ _ _ _ _ _ _ _ _ _ _ _ _ (hl.later s) (hcs.later s)) rfl (fun x => ?_)
 (refine gM ?_; apply gw_d; exact det_extract rfl rfl rfl (by conv => (lhs; whnf)); apply gw_d; exact det_extract rfl rfl rfl (by conv => (lhs; whnf)); (iterate 2 refine gM ?_); refine gN ?_; refine gM ?_; refine gC ?_; refine gO ?_)
 refine gc_if_dec rfl (fun h => ?_) (fun h => ?_)
 ·(refine gV ?_; (iterate 2 refine gM ?_); refine gO ?_; refine gR ?_; refine gT ?_)
  refine gi1 (fun _ _ => ?_)
  rw [if_pos h]
 have h0 : gradedE p.edges p.corners = 0 := by simpa using h
 rw [if_neg h]
 rw [if_pos h0]
 refine gc_ent (K := [Box _ _ _]) (Sub.ent (.cons (.there .here) .nil)) ?_
 (refine gK ?_; refine gX ?_; refine gQ ?_; refine gV ?_; apply gw_d; exact w_load_boxN rfl rfl rfl .here rfl)
 refine gw_callm rfl (fun w s => r_placed_ok w _ _ _ _ _ _ _ _ _ _ _ _ _ _ _ (hl.later s) (hns.later s) (hcs.later s)) rfl (fun y => ?_)
 (refine gM ?_; apply gw_d; exact det_extract rfl rfl rfl (by conv => (lhs; whnf)); apply gw_d; exact det_extract rfl rfl rfl (by conv => (lhs; whnf)); (iterate 2 refine gM ?_); refine gN ?_; refine gM ?_; refine gC ?_; refine gO ?_)
 refine gc_if_dec rfl (fun h => ?_) (fun h => ?_)
 ·(refine gV ?_; (iterate 2 refine gM ?_); refine gO ?_; refine gR ?_; refine gT ?_)
  refine gi1 (fun _ _ => ?_)
  rw [if_pos h]
 rw [if_neg h]
 (refine gK ?_; refine gX ?_; refine gV ?_; apply gw_d; exact w_load_boxN rfl rfl rfl .here rfl; apply gw_d; exact w_call rfl rfl (fun w s => r_widths_ok w p _ _ _ _ _ _ _ _ _ _ (by omega) (hws.later s)) rfl; refine gM ?_; refine gO ?_; refine gR ?_)
 refine gi1 (fun _ _ => ?_)
 rfl

def joinedE (s : Sty) : Int := if ¬ firstE (useE s) s.uses.length = 0 then firstE (useE s) s.uses.length else firstE (seamE s) s.seams.length
theorem r_joined_ok (w : World) (v : Value) (s : Sty) (hs : StyV w w.heap.size v s) : Ok Tryz.prog 81 [v].toArray w fun r _ => r = .int .i64 (joinedE s) := by
 have hs' := hs
 obtain ⟨As, cs, Am, cm, Ap, cp, Au, cu, Ae, ce, Ao, co, rfl, hnm, h1, h2, h3, h4, h5, h6⟩ := hs
 obtain ⟨_, _, hv, hpc, hpm⟩ := len_small h3
 injection hv with e1 e2 e3
 subst e1 e3
 obtain ⟨_, _, hv, huc, hum⟩ := len_small h4
 injection hv with e1 e2 e3
 subst e1 e3
 obtain ⟨_, _, hv, hec, hem⟩ := len_small h5
 injection hv with e1 e2 e3
 subst e1 e3
 refine ok_enter Tryz.func81 rfl Tryz.ntmps81 rfl ?_
 (refine gV ?_; refine gw_boxd (v := .agg _) rfl rfl (fun _ => ?_); refine gM ?_; refine gO ?_; refine gQ ?_; refine gV ?_; refine gM ?_; refine gO ?_; refine gB ?_)
 refine gc_loopK (σ := Nat) [7, 8, 9, 10, 11, 14, 15, 16, 17, 18, 4, 19, 20, 21, 22, 23, 24, 25, 26, 27, 28, 29, 30, 31, 32, 33, 34, 35, 36, 37, 38, 39, 2, 12, 13, 3] (fun k => [(3, .int .i64 k)]) (fun k => k ≤ s.uses.length ∧ firstE (useE s) k = 0) (fun k => s.uses.length - k) 0 ⟨Nat.zero_le _, rfl⟩ ⟨rfl, trivial⟩ ?_
 rintro k base2 ⟨hk2, hJ⟩
 (refine gQ ?_; refine gV ?_; refine gM ?_; refine gF ?_; refine gW .here ?_; refine gL ?_; refine gC ?_; refine gO ?_)
 refine gc_if_dec rfl (fun h8 => ?_) (fun h8 => ?_)
 ·have hlt : k < s.uses.length := by omega
  obtain ⟨ad, _, hv, _, _, hb, hcell⟩ := h4.at' 3 rfl (by omega)
  injection hv with e1 e2 e3
  subst e1 e3
  obtain ⟨cs', hce, rfl, _⟩ := hcell k hlt
  have hat : useE s k = if s.uses[k].1 < 0 ∨ s.uses[k].1 ≥ s.pieces.length ∨ s.uses[k].2.1 < 1 ∨ s.uses[k].2.1 > 4 then 3 else 0 := by unfold useE; rw [List.getElem?_eq_getElem hlt]
  have hbad : (s.uses[k].1 < 0 ∨ s.uses[k].1 ≥ s.pieces.length ∨ s.uses[k].2.1 < 1 ∨ s.uses[k].2.1 > 4) → joinedE s = 3 := fun h => by
   rw [if_pos h] at hat
   unfold joinedE
   rw [firstE_stop hJ (by rw [hat]; decide) hlt, hat]
   exact if_pos (by decide)
  generalize s.uses[k] = u at hce hat hbad
  focus (refine gK ?_; refine gX ?_; refine gQ ?_; refine gB ?_; refine gV ?_; refine gF ?_; refine gW .here ?_; refine gM ?_; apply gw_d; exact w_index rfl rfl rfl rfl (by with_reducible exact rfl) (by omega); apply gw_d; exact w_load_elem rfl rfl rfl (by assumption) (by assumption) (by rfl); refine w_alloc rfl (fun _ => ?_); refine w_store_all rfl rfl rfl rfl rfl .here rfl ?_; refine gN ?_; refine gF ?_; refine gW .here ?_; refine gC ?_; refine gM ?_; refine gD (fun _ => ?_) (fun _ => ?_); (iterate 6 refine gU ?_); refine gPp ?_; refine gM ?_; (iterate 3 refine gU ?_); refine gPp ?_; refine gM ?_; (iterate 3 refine gU ?_); refine gPp ?_; refine gO ?_; refine gc_if_true rfl ?_; refine gV ?_; refine gM ?_; refine gO ?_; refine gR ?_; refine gY ?_; (iterate 2 refine gT ?_); refine gY ?_; refine gT ?_; rotate_left; refine gF ?_; refine gW .here ?_; refine gF ?_; refine gW (.there .here) ?_; refine gL ?_; refine gC ?_; refine gPq ?_; refine gM ?_; refine gD (fun _ => ?_) (fun _ => ?_); (iterate 3 refine gU ?_); refine gPp ?_; refine gM ?_; (iterate 3 refine gU ?_); refine gPp ?_; refine gO ?_; refine gc_if_true rfl ?_; refine gV ?_; refine gM ?_; refine gO ?_; refine gR ?_; refine gY ?_; (iterate 2 refine gT ?_); refine gY ?_; refine gT ?_; rotate_left; refine gF ?_; refine gW .here ?_; refine gC ?_; refine gPq ?_; refine gM ?_; refine gD (fun _ => ?_) (fun _ => ?_); (iterate 3 refine gU ?_); refine gPp ?_; refine gO ?_; refine gc_if_true rfl ?_; refine gV ?_; refine gM ?_; refine gO ?_; refine gR ?_; refine gY ?_; (iterate 2 refine gT ?_); refine gY ?_; refine gT ?_; rotate_left; refine gF ?_; refine gW .here ?_; refine gC ?_; refine gPq ?_; refine gO ?_; refine gc_if_dec rfl (fun _ => ?_) (fun _ => ?_); refine gV ?_; refine gM ?_; refine gO ?_; refine gR ?_; refine gY ?_; (iterate 2 refine gT ?_); refine gY ?_; refine gT ?_; rotate_left; refine gK ?_; refine gH ?_; refine gX ?_; refine gG ?_; refine gM ?_; refine gA ?_; refine gM ?_; refine gw_nil ?_; rotate_left)
  ·refine gi1 (fun _ _ => ?_)
   rw [hbad (by omega)]
  ·refine gi1 (fun _ _ => ?_)
   rw [hbad (by omega)]
  ·refine gi1 (fun _ _ => ?_)
   rw [hbad (by omega)]
  ·refine gi1 (fun _ _ => ?_)
   rw [hbad (by omega)]
  ·exact gx_round (k + 1) ⟨by omega, firstE_snoc hJ (by rw [hat, if_neg (by omega)])⟩ (by omega) kK ⟨rfl, trivial⟩ Sub.tail
 obtain rfl : k = s.uses.length := by omega
 (refine gI ?_; (iterate 2 refine gZ ?_); refine gJ ?_; refine gX ?_; refine gQ ?_; refine gV ?_; refine gM ?_; refine gO ?_; refine gB ?_)
 refine gc_loopK (σ := Nat) [40, 41, 42, 43, 44, 47, 48, 49, 50, 51, 6, 52, 53, 54, 55, 56, 57, 58, 59, 60, 61, 62, 63, 64, 65, 66, 67, 2, 68, 69, 70, 45, 46, 5] (fun k => [(5, .int .i64 k)]) (fun k => k ≤ s.seams.length ∧ firstE (seamE s) k = 0) (fun k => s.seams.length - k) 0 ⟨Nat.zero_le _, rfl⟩ ⟨rfl, trivial⟩ ?_
 rintro k base3 ⟨hk3, hK⟩
 (refine gQ ?_; refine gV ?_; refine gM ?_; refine gF ?_; refine gW .here ?_; refine gL ?_; refine gC ?_; refine gO ?_)
 refine gc_if_dec rfl (fun h7 => ?_) (fun h7 => ?_)
 ·have hlt : k < s.seams.length := by omega
  obtain ⟨ad, _, hv, _, _, hb, hcell⟩ := h5.at' 6 rfl (by omega)
  injection hv with e1 e2 e3
  subst e1 e3
  obtain ⟨cs', hce, rfl⟩ := hcell k hlt
  have hat : seamE s k = if isEdgeB s s.seams[k].1 s.seams[k].2.1 = true ∧ isEdgeB s s.seams[k].2.2.1 s.seams[k].2.2.2.1 = true then if s.seams[k].2.2.2.2.2 < 0 then 1 else 0 else 3 := by unfold seamE; rw [List.getElem?_eq_getElem hlt]
  have hstop : ∀ x : Int, seamE s k = x → ¬ x = 0 → joinedE s = x := fun x hx h => by
   unfold joinedE
   rw [if_neg (by rw [hJ]; decide), firstE_stop hK (by rw [hx]; exact h) hlt, hx]
  generalize s.seams[k] = u at hce hat hstop
  (refine gK ?_; refine gX ?_; refine gQ ?_; refine gB ?_; refine gV ?_; refine gF ?_; refine gW .here ?_; refine gM ?_; apply gw_d; exact w_index rfl rfl rfl rfl (by with_reducible exact rfl) (by omega); apply gw_d; exact w_load_elem rfl rfl rfl (by assumption) (by assumption) (by rfl); refine w_alloc rfl (fun _ => ?_); refine w_store_all rfl rfl rfl rfl rfl .here rfl ?_; refine gO ?_; refine gQ ?_; refine gV ?_; apply gw_d; exact w_load_boxN rfl rfl rfl (.there .here) rfl; refine gF ?_; refine gW .here ?_; refine gF ?_; refine gW .here ?_)
  focus (apply gw_d; exact w_call rfl rfl (fun w s => r_inside_ok w _ _ _ _ (hs'.later s)) rfl; apply gw_d; exact det_not_ rfl rfl rfl; refine gM ?_; refine gw_guard rfl rfl (fun _ => ?_) (fun _ => ?_); (iterate 7 refine gU ?_); refine gPp ?_; refine gO ?_; refine gc_if_true rfl ?_; refine gV ?_; refine gM ?_; refine gO ?_; refine gR ?_; refine gT ?_; refine gY ?_; (iterate 2 refine gT ?_); refine gY ?_; refine gT ?_; rotate_left; apply gw_d; exact w_load_boxN rfl rfl rfl (.there .here) rfl; refine gF ?_; refine gW .here ?_; refine gF ?_; refine gW .here ?_; apply gw_d; exact w_call rfl rfl (fun w s => r_inside_ok w _ _ _ _ (hs'.later s)) rfl; apply gw_d; exact det_not_ rfl rfl rfl; refine gPq ?_; refine gO ?_; refine gc_if rfl (fun _ => ?_) (fun _ => ?_); refine gV ?_; refine gM ?_; refine gO ?_; refine gR ?_; refine gT ?_; refine gY ?_; (iterate 2 refine gT ?_); refine gY ?_; refine gT ?_; rotate_left; refine gK ?_; refine gX ?_; refine gV ?_; refine gF ?_; refine gW .here ?_; refine gC ?_; refine gO ?_; refine gc_if_dec rfl (fun _ => ?_) (fun _ => ?_); refine gV ?_; refine gM ?_; refine gO ?_; refine gR ?_; refine gY ?_; (iterate 2 refine gT ?_); refine gY ?_; refine gT ?_; rotate_left; refine gK ?_; refine gH ?_; refine gX ?_; refine gG ?_; refine gM ?_; refine gA ?_; refine gM ?_; refine gw_nil ?_; rotate_left)
  ·refine gi1 (fun _ _ => ?_)
   rename_i h _ _
   rw [hstop 3 (by rw [hat, if_neg (by simp at h; simp [h])]) (by decide)]
  ·refine gi1 (fun _ _ => ?_)
   rename_i h _ _
   rw [hstop 3 (by rw [hat, if_neg (by simp at h; simp [h])]) (by decide)]
  ·refine gi1 (fun _ _ => ?_)
   rw [hstop 1 (by rw [hat, if_pos (by simp_all), if_pos (by assumption)]) (by decide)]
  ·exact gx_round (k + 1) ⟨by omega, firstE_snoc hK (by rw [hat, if_pos (by simp_all), if_neg (by assumption)])⟩ (by omega) kK ⟨rfl, trivial⟩ Sub.tail
 obtain rfl : k = s.seams.length := by omega
 (refine gI ?_; (iterate 2 refine gZ ?_); refine gJ ?_; refine gX ?_; refine gV ?_; refine gM ?_; refine gO ?_; refine gR ?_)
 refine gi1 (fun _ _ => ?_)
 unfold joinedE
 rw [if_neg (by rw [hJ]; decide), hK]
theorem arr_tail (l : List Opn) : ∀ (f : Nat) (o : List Int), arr l (f + 1) o = match nextOf l (arr l f o) with | some i => arr l f o ++ [(i : Int)] | none => arr l f o
 | 0, o => rfl
 | f + 1, o => by
  cases hn : nextOf l o with
  | none =>
   rw [arr_end (f := f + 1 + 1) hn, arr_end (f := f + 1) hn, hn]
  | some i =>
   rw [arr_step (f := f + 1) hn, arr_step (f := f) hn]
   exact arr_tail l f (o ++ [(i : Int)])
theorem arr_len (l : List Opn) : ∀ f, (arr l f []).length ≤ f
 | 0 => Nat.le_refl _
 | f + 1 => by
  rw [arr_tail]
  have := arr_len l f
  split
  ·rw [List.length_append, List.length_singleton]; omega
  ·omega

theorem rsorted_ok (w : World) (v : Value) (l : List Opn) (hl : Sl rOp w w.heap.size v l) (h16 : l.length ≤ 1000) :
  OkM Tryz.prog 68 [v].toArray w (fun x : Option Addr × Nat => .slice x.1 (sortedL l).length x.2) (fun x => [Own x.1 (sortedL l).length x.2 3 1 ((sortedL l).map (Value.int .i64))]) := by
 obtain ⟨A0, c0, rfl, hc, hm⟩ := len_small hl
 unfold OkM
 refine ok_enter Tryz.func68 rfl Tryz.ntmps68 rfl ?_
 (refine gV ?_; refine gM ?_; refine gN ?_; refine gM ?_; refine gO ?_; refine gQ ?_; refine gV ?_; refine gM ?_; refine gL ?_; refine gM ?_; refine gO ?_; refine gB ?_)
 refine gc_own0 3 1 ?_
 refine gc_loop (σ := Nat × Option Addr × Nat) [10, 4, 11, 12, 13, 14, 17, 18, 19, 20, 5, 6, 21, 22, 23, 24, 25, 26, 27, 28, 31, 32, 33, 34, 35, 36, 37, 38, 39, 40, 41, 42, 43, 29, 30, 44, 45, 46, 47, 48, 3, 15, 16, 49, 9] (fun s => [(3, .slice s.2.1 (arr l s.1 []).length s.2.2), (9, .int .i64 s.1)]) (fun s => [Own s.2.1 (arr l s.1 []).length s.2.2 3 1 ((arr l s.1 []).map (Value.int .i64))]) (fun s => s.1 ≤ l.length) (fun s => l.length - s.1) (0, none, 0) (Nat.zero_le _) ⟨rfl, rfl, trivial⟩ (.cons .here .nil) ?_
 rintro ⟨r, A, c⟩ base hr
 dsimp only at hr ⊢
 have htail := arr_tail l r []
 have hol := arr_len l r
 have hin : ∀ x ∈ arr l r [], inI64 x := fun x hx => by
  have := arr_mem (l := l) r [] (fun x hx => by cases hx) x hx
  unfold inI64
  omega
 have hlast : r = l.length → arr l r [] = sortedL l := fun h => by rw [h]; rfl
 generalize arr l r [] = o at htail hol hin hlast ⊢
 (refine gV ?_; refine gC ?_; refine gO ?_; refine gQ ?_)
 refine gc_if_dec rfl (fun h => ?_) (fun h => ?_)
 ·have hHas : ∀ (x : Int) (L : List Res) (w' : World), St w (Own A o.length c 3 1 (o.map (Value.int .i64)) :: L) w' → Ok Tryz.prog 69 [.slice A o.length c, .int .i64 x].toArray w' fun r _ => r = .bool (hasB o x) := fun x L w' s => has_ok w' _ _ x (Sl.ownI s .here rfl hin)
  (refine gK ?_; refine gX ?_; refine gQ ?_; refine gB ?_; refine gV ?_; refine gM ?_; refine gO ?_; refine gB ?_)
  refine gc_loopK (σ := Nat) [11, 12, 13, 14, 17, 18, 19, 20, 5, 6, 21, 22, 23, 24, 25, 26, 27, 28, 31, 32, 33, 34, 35, 36, 37, 38, 39, 40, 41, 42, 43, 29, 30, 44, 45, 46, 47, 48, 3, 15, 16, 4] (fun m => [(4, .int .i64 m), (3, .slice A o.length c)]) (fun m => m ≤ l.length ∧ ∀ i, i < m → readyB l o i = false) (fun m => l.length - m) 0 ⟨Nat.zero_le _, fun i hi => by omega⟩ ⟨rfl, rfl, trivial⟩ ?_
  rintro m base2 ⟨hmi, hM⟩
  (refine gQ ?_; refine gV ?_; (iterate 2 refine gM ?_); refine gL ?_; refine gC ?_; refine gO ?_)
  refine gc_if_dec rfl (fun h2 => ?_) (fun h2 => ?_)
  ·have hml : m < l.length := by omega
   obtain ⟨ad, _, hv, _, _, hb, hcell⟩ := hl.at' 5 rfl (by omega)
   injection hv with e1 e2 e3
   subst e1 e3
   obtain ⟨cs, hce, Aa, ca, Au, cu, rfl, _, q1, q2⟩ := hcell m hml
   have hce3 := hce 3 _ rfl
   have ha : Sl rInt w w.heap.size (.slice Aa l[m].after.length ca) l[m].after := q1
   obtain ⟨_, _, hv, hac, ham, hacell⟩ := ha.int
   injection hv with e1 e2 e3
   subst e1 e3
   have hready : readyB l o m = (!hasB o (m : Int) && l[m].after.all (hasB o)) := by unfold readyB; rw [afterOf_get hml]
   (refine gK ?_; refine gX ?_; refine gQ ?_; refine gB ?_; refine gV ?_; (iterate 2 refine gM ?_); apply gw_d; exact w_call rfl rfl (hHas _ _) rfl; apply gw_d; exact det_not_ rfl rfl rfl; refine gM ?_; refine gO ?_; refine gQ ?_; refine gV ?_; refine gM ?_; refine gO ?_; refine gB ?_)
   refine gc_loopK (σ := Nat) [21, 22, 23, 24, 25, 26, 27, 28, 31, 32, 33, 34, 35, 36, 37, 38, 39, 40, 41, 42, 43, 5, 29, 30, 6] (fun j => [(6, .int .i64 j), (5, .bool (!hasB o (m : Int) && (l[m].after.take j).all (hasB o)))]) (fun j => j ≤ l[m].after.length) (fun j => l[m].after.length - j) 0 (Nat.zero_le _) ⟨rfl, by simp only [List.take_zero, List.all_nil, Bool.and_true]; rfl, trivial⟩ ?_
   rintro j base3 hj
   (refine gQ ?_; refine gV ?_; (iterate 3 refine gM ?_); apply gw_d; exact w_index rfl rfl rfl rfl (by with_reducible exact rfl) (by omega); refine gF ?_; apply gw_d; exact w_load_fld rfl rfl rfl (by assumption) (by assumption); refine gL ?_; refine gC ?_; refine gO ?_)
   refine gc_if_dec rfl (fun h3 => ?_) (fun h3 => ?_)
   ·have hjl : j < l[m].after.length := by omega
    obtain ⟨ad2, rfl, hb2, hce2, _⟩ := hacell j hjl
    have hsn : (l[m].after.take (j + 1)).all (hasB o) = ((l[m].after.take j).all (hasB o) && hasB o l[m].after[j]) := by rw [List.take_succ_eq_append_getElem hjl, List.all_append]; simp
    focus (refine gK ?_; refine gX ?_; refine gQ ?_; refine gB ?_; refine gG ?_; (iterate 2 refine gM ?_); refine gw_guard rfl rfl (fun _ => ?_) (fun _ => ?_); (iterate 3 refine gM ?_); apply gw_d; exact w_index rfl rfl rfl rfl (by with_reducible exact rfl) (by omega); refine gF ?_; apply gw_d; exact w_load_fld rfl rfl rfl (by assumption) (by assumption); refine gM ?_; apply gw_d; exact w_index rfl rfl rfl rfl (by with_reducible exact rfl) (by omega); apply gw_d; exact w_load_at rfl rfl rfl (by assumption) (by assumption); apply gw_d; exact w_call rfl rfl (hHas _ _) rfl; refine gPp ?_; refine gM ?_; refine gw_nil ?_; refine gH ?_; refine gX ?_; refine gG ?_; refine gM ?_; refine gA ?_; refine gM ?_; refine gw_nil ?_; rotate_left; (iterate 10 refine gU ?_); refine gPq ?_; refine gM ?_; refine gw_nil ?_; refine gH ?_; refine gX ?_; refine gG ?_; refine gM ?_; refine gA ?_; refine gM ?_; refine gw_nil ?_; rotate_left)
    ·rename_i hx
     exact gx_round (j + 1) hjl (by omega) kK ⟨rfl, by rw [hsn, ← Bool.and_assoc, hx, Bool.true_and]; rfl, trivial⟩ (Sub.all _)
    ·rename_i hx
     exact gx_round (j + 1) hjl (by omega) kK ⟨rfl, by rw [hsn, ← Bool.and_assoc, hx, Bool.false_and]; rfl, trivial⟩ (Sub.all _)
   ·obtain rfl : j = l[m].after.length := by omega
    rw [List.take_length, ← hready]
    (refine gI ?_; (iterate 2 refine gZ ?_); refine gJ ?_; refine gX ?_; refine gV ?_; refine gM ?_; refine gO ?_)
    refine gc_if rfl (fun h4 => ?_) (fun h4 => ?_)
    ·have hnext : nextOf l o = some m := find_range hml h4 hM
     rw [hnext] at htail
     (refine gV ?_; (iterate 2 refine gM ?_))
     refine gw_bslice1 (v := .int .i64 (m : Int)) rfl rfl rfl rfl rfl (fun bb => ?_)
     refine gw_append (news := [.int .i64 (m : Int)]) rfl rfl rfl (.there .here) rfl (fun w' s _ => ?_) (fun u hu => ?_) (by unfold maxLen; omega) (by omega) (by decide) rfl (fun A2 c3 => ?_)
     ·refine ⟨⟨bb, 0, none⟩, rfl, fun i u hu => ?_⟩
      rw [add_zero]
      refine (Box.cell s.head i).trans ?_
      change (#[Value.int .i64 (m : Int)] : Array Value)[i]? = some u
      rw [List.getElem?_toArray]
      exact hu
     ·rw [List.mem_singleton] at hu
      subst hu
      rfl
     ·(refine gM ?_; refine gO ?_; refine gI ?_; refine gx_block_other rfl ?_; (iterate 2 refine gZ ?_); refine gJ ?_; refine gH ?_; refine gX ?_; refine gG ?_; refine gA ?_; refine gM ?_; refine gw_nil ?_)
      refine gx_round (r + 1, A2, c3) (by dsimp only; omega) (by dsimp only; omega) kK ⟨by rw [htail, List.length_append]; rfl, rfl, trivial⟩ ?_
      dsimp only
      rw [htail, List.length_append, List.map_append]
      exact .cons .here .nil
    ·(refine gK ?_; refine gH ?_; refine gX ?_; refine gG ?_; refine gM ?_; refine gA ?_; refine gM ?_; refine gw_nil ?_)
     refine gx_round (m + 1) ⟨by omega, fun i hi => ?_⟩ (by omega) kK ⟨rfl, rfl, trivial⟩ (Sub.all _)
     by_cases hij : i = m
     ·rw [hij]; exact h4
     ·exact hM i (by omega)
  ·have hnone : nextOf l o = none := List.find?_eq_none.2 fun i hi => by rw [hM i (by have := List.mem_range.1 hi; omega)]; decide
   rw [hnone] at htail
   (refine gI ?_; (iterate 2 refine gZ ?_); refine gJ ?_; refine gH ?_; refine gX ?_; refine gG ?_; refine gA ?_; refine gM ?_; refine gw_nil ?_)
   refine gx_round (r + 1, A, c) (by dsimp only; omega) (by dsimp only; omega) kK ⟨by rw [htail]; rfl, rfl, trivial⟩ ?_
   dsimp only
   rw [htail]
   exact Sub.all _
 ·rw [hlast (by omega)]
  (refine gI ?_; (iterate 2 refine gZ ?_); refine gJ ?_; refine gX ?_; refine gV ?_; (iterate 2 refine gM ?_); refine gO ?_; refine gR ?_)
  exact gx_ret1 rfl rfl fun w s => ⟨(A, c), rfl, s.sep⟩

theorem sorted_len (l : List Opn) : (sortedL l).length ≤ l.length := arr_len l l.length
theorem list_eq (l : List Opn) (u : Int) : listE l u = if ¬ singleE l u = 0 then singleE l u else if (sortedL l).length < l.length then 9 else 0 := by
 have hs := sorted_len l
 unfold listE singleE
 by_cases h16 : 16 < l.length
 ·rw [if_pos h16, if_pos h16, if_pos (by decide)]
 ·rw [if_neg h16, if_neg h16]
  by_cases h1 : firstE (opE l u) l.length = 0
  ·have hc : ¬ ¬ firstE (opE l u) l.length = 0 := fun h => h h1
   rw [if_neg hc, if_neg hc]
   unfold fullB
   by_cases h2 : (sortedL l).length = l.length
   ·rw [if_pos (decide_eq_true h2), if_neg (by omega)]
   ·rw [if_neg (by simpa using h2), if_pos (by omega)]
  ·rw [if_pos h1, if_pos h1]
theorem single_16 {l : List Opn} {u : Int} (h : singleE l u = 0) : l.length ≤ 16 := by
 unfold singleE at h
 split at h
 ·cases h
 ·omega
theorem rStyle_ok (w : World) (v : Value) (s : Sty) (hs : StyV w w.heap.size v s) : Ok Tryz.prog 66 [v].toArray w fun r _ => r = .int .i64 (styleE s plE) := by
 have hs' := hs
 obtain ⟨As, cs, Am, cm, Ap, cp, Au, cu, Ae, ce, Ao, co, rfl, hnm, h1, h2, h3, h4, h5, h6⟩ := hs
 obtain ⟨_, _, hv, hmc, hmm, hmcell⟩ := h2.int
 injection hv with e1 e2 e3
 subst e1 e3
 obtain ⟨_, _, hv, hpc, hpm⟩ := len_small h3
 injection hv with e1 e2 e3
 subst e1 e3
 have hw : ∀ x : Int, wholeE s = x → ¬ x = 0 → styleE s plE = x := fun x hx h => by
  unfold styleE
  rw [hx, if_pos h]
 have hwe := whole_eq s
 refine ok_enter Tryz.func66 rfl Tryz.ntmps66 rfl ?_
 (refine gV ?_; refine gw_boxd (v := .agg _) rfl rfl (fun _ => ?_); refine gM ?_; refine gO ?_; refine gQ ?_; refine gV ?_; apply gw_d; exact w_load_boxN rfl rfl rfl .here rfl)
 (apply gw_d; exact w_call rfl rfl (fun w s' => r_sized_ok w _ s (hs'.later s')) rfl; apply gw_d; exact det_not_ rfl rfl rfl; refine gO ?_)
 refine gc_if rfl (fun h => ?_) (fun h => ?_)
 ·(refine gV ?_; refine gM ?_; refine gO ?_; refine gR ?_; refine gT ?_)
  refine gi1 (fun _ _ => ?_)
  rw [hw 1 (by rw [hwe, if_pos (by simpa using h)]) (by decide)]
 rw [if_neg (by simpa using h)] at hwe
 (refine gK ?_; refine gX ?_; refine gQ ?_; refine gV ?_; refine gF ?_; refine gW .here ?_; apply gw_d; exact w_call rfl rfl (fun w s' => r_twiceS_ok w _ s.sizes (h1.later s')) rfl; refine gO ?_)
 refine gc_if rfl (fun h => ?_) (fun h => ?_)
 ·(refine gV ?_; refine gM ?_; refine gO ?_; refine gR ?_; refine gT ?_)
  refine gi1 (fun _ _ => ?_)
  rw [hw 7 (by rw [hwe, if_pos h]) (by decide)]
 rw [if_neg (by rw [h]; decide)] at hwe
 (refine gK ?_; refine gX ?_; refine gQ ?_; refine gV ?_; apply gw_d; exact w_load_boxN rfl rfl rfl .here rfl; apply gw_d; exact w_call rfl rfl (fun w s' => r_long_ok w _ s (hs'.later s')) rfl; refine gO ?_)
 refine gc_if rfl (fun h => ?_) (fun h => ?_)
 ·(refine gV ?_; refine gM ?_; refine gO ?_; refine gR ?_; refine gT ?_)
  refine gi1 (fun _ _ => ?_)
  rw [hw 5 (by rw [hwe, if_pos h]) (by decide)]
 rw [if_neg (by rw [h]; decide)] at hwe
 (refine gK ?_; refine gX ?_; refine gQ ?_; refine gV ?_; refine gM ?_; refine gO ?_; refine gB ?_)
 refine gc_loopK (σ := Nat) [14, 15, 16, 17, 18, 21, 22, 23, 24, 25, 26, 27, 28, 29, 30, 31, 32, 33, 34, 2, 19, 20, 3] (fun k => [(3, .int .i64 k)]) (fun k => k ≤ s.multiples.length ∧ (s.multiples.take k).any farM = false) (fun k => s.multiples.length - k) 0 ⟨Nat.zero_le _, rfl⟩ ⟨rfl, trivial⟩ ?_
 rintro k base3 ⟨hk3, hF⟩
 (refine gQ ?_; refine gV ?_; refine gM ?_; refine gF ?_; refine gW .here ?_; refine gL ?_; refine gC ?_; refine gO ?_)
 refine gc_if_dec rfl (fun h => ?_) (fun h => ?_)
 ·have hlt : k < s.multiples.length := by omega
  obtain ⟨ad, rfl, hb, hce, _⟩ := hmcell k hlt
  focus (refine gK ?_; refine gX ?_; refine gQ ?_; refine gB ?_; refine gV ?_; refine gF ?_; refine gW .here ?_; refine gM ?_; apply gw_d; exact w_index rfl rfl rfl rfl (by with_reducible exact rfl) (by omega); apply gw_d; exact w_load_at rfl rfl rfl (by assumption) (by assumption); refine gC ?_; refine gM ?_; refine gD (fun _ => ?_) (fun _ => ?_); (iterate 6 refine gU ?_); refine gPp ?_; refine gO ?_; refine gc_if_true rfl ?_; refine gV ?_; refine gM ?_; refine gO ?_; refine gR ?_; refine gY ?_; (iterate 2 refine gT ?_); refine gY ?_; refine gT ?_; rotate_left; refine gF ?_; refine gW .here ?_; refine gM ?_; apply gw_d; exact w_index rfl rfl rfl rfl (by with_reducible exact rfl) (by omega); apply gw_d; exact w_load_at rfl rfl rfl (by assumption) (by assumption); refine gC ?_; refine gPq ?_; refine gO ?_; refine gc_if_dec rfl (fun _ => ?_) (fun _ => ?_); refine gV ?_; refine gM ?_; refine gO ?_; refine gR ?_; refine gY ?_; (iterate 2 refine gT ?_); refine gY ?_; refine gT ?_; rotate_left; refine gK ?_; refine gH ?_; refine gX ?_; refine gG ?_; refine gM ?_; refine gA ?_; refine gM ?_; refine gw_nil ?_; rotate_left)
  ·refine gi1 (fun _ _ => ?_)
   rw [hw 3 (by rw [hwe, if_pos (any_at hlt (by unfold farM; simp only [Bool.or_eq_true, decide_eq_true_eq]; right; assumption))]) (by decide)]
  ·refine gi1 (fun _ _ => ?_)
   rw [hw 3 (by rw [hwe, if_pos (any_at hlt (by unfold farM; simp only [Bool.or_eq_true, decide_eq_true_eq]; left; assumption))]) (by decide)]
  ·exact gx_round (k + 1) ⟨by omega, take_any_snoc hlt hF (by unfold farM; simp only [Bool.or_eq_false_iff, decide_eq_false_iff_not]; constructor <;> assumption)⟩ (by omega) kK ⟨rfl, trivial⟩ (Sub.all _)
 obtain rfl : k = s.multiples.length := by omega
 rw [List.take_length] at hF
 rw [if_neg (by rw [hF]; decide)] at hwe
 have hsty : styleE s plE = if ¬ firstE (pieceAt s plE) s.pieces.length = 0 then firstE (pieceAt s plE) s.pieces.length else joinedE s := by
  unfold styleE joinedE
  rw [if_neg (show ¬ ¬ wholeE s = 0 from fun hc => hc hwe)]
 rw [hsty]
 (refine gI ?_; (iterate 2 refine gZ ?_); refine gJ ?_; refine gX ?_; refine gQ ?_; refine gV ?_; refine gM ?_; refine gO ?_; refine gB ?_)
 refine gc_loopK (σ := Nat) [35, 36, 37, 38, 39, 42, 43, 44, 45, 46, 47, 48, 49, 50, 51, 5, 52, 53, 54, 2, 40, 41, 4] (fun k => [(4, .int .i64 k)]) (fun k => k ≤ s.pieces.length ∧ firstE (pieceAt s plE) k = 0) (fun k => s.pieces.length - k) 0 ⟨Nat.zero_le _, rfl⟩ ⟨rfl, trivial⟩ ?_
 rintro k base ⟨hk, hI⟩
 (refine gQ ?_; refine gV ?_; refine gM ?_; refine gF ?_; refine gW .here ?_; refine gL ?_; refine gC ?_; refine gO ?_)
 refine gc_if_dec rfl (fun h9 => ?_) (fun h9 => ?_)
 ·have hlt : k < s.pieces.length := by omega
  obtain ⟨ad, _, hv, _, _, hb, hcell⟩ := h3.at' 7 rfl (by omega)
  injection hv with e1 e2 e3
  subst e1 e3
  obtain ⟨cs', hce, Ae', ce', An', cn', Ac', cc', Aw', cw', rfl, ⟨q1, _⟩, q2, q3, q4, q5⟩ := hcell k hlt
  unfold maxLen at q1
  have q2' : Sl rEdge w w.heap.size (.slice Ae' s.pieces[k].edges.length ce') s.pieces[k].edges := q2
  have q3' : Sl rSpot w w.heap.size (.slice An' s.pieces[k].notches.length cn') s.pieces[k].notches := q3
  have q4' : Sl rSpot w w.heap.size (.slice Ac' s.pieces[k].corners.length cc') s.pieces[k].corners := q4
  have q5' : Sl rInt w w.heap.size (.slice Aw' s.pieces[k].widths.length cw') s.pieces[k].widths := q5
  have q6' := h3.take (m := k) (by omega)
  have hC : ∀ (L : List Res) (w' : World), St w L w' → Ok Tryz.prog 80 [.slice (some ad) k cp, .agg #[.string s.pieces[k].name, .slice Ae' s.pieces[k].edges.length ce', .int .i64 s.pieces[k].grain, .slice An' s.pieces[k].notches.length cn', .slice Ac' s.pieces[k].corners.length cc', .slice Aw' s.pieces[k].widths.length cw', .bool s.pieces[k].mt]].toArray w' fun r _ => r = .int .i64 (pieceE (s.pieces.take k) s.pieces[k] (plE s.pieces[k])) := fun L w s' => r_piece_ok w (.slice (some ad) k cp) (s.pieces.take k) s.pieces[k] Ae' An' Ac' Aw' ce' cn' cc' cw' (q6'.later s') (q2'.later s') (q4'.later s') (q3'.later s') (q5'.later s') (by omega)
  (refine gK ?_; refine gX ?_; refine gQ ?_; refine gB ?_; refine gQ ?_)
  refine gc_draw 10 (by kernel_rfl) (by kernel_rfl) ?_
  (apply gd_d; exact w_field rfl rfl rfl; apply gd_d; exact w_load_box rfl rfl rfl .here rfl; refine dM ?_; apply gd_d; exact w_cut_hi rfl rfl rfl rfl (by with_reducible exact rfl) (by omega); apply gd_d; exact w_field rfl rfl rfl; apply gd_d; exact w_load_box rfl rfl rfl .here rfl; refine dM ?_; apply gd_d; exact w_index rfl rfl rfl rfl (by with_reducible exact rfl) (by omega); apply gd_d; exact w_load_elem rfl rfl rfl (by assumption) (by assumption) (by rfl); apply gd_d; exact w_call rfl rfl (hC _) rfl; refine gd_nil ?_; refine gM ?_; refine gN ?_; refine gM ?_; refine gC ?_; refine gO ?_)
  have hat : pieceAt s plE k = pieceE (s.pieces.take k) s.pieces[k] (plE s.pieces[k]) := by unfold pieceAt; rw [List.getElem?_eq_getElem hlt]
  refine gc_if_dec rfl (fun h => ?_) (fun h => ?_)
  ·(refine gV ?_; (iterate 2 refine gM ?_); refine gO ?_; refine gR ?_; refine gY ?_; (iterate 2 refine gT ?_); refine gY ?_; refine gT ?_)
   refine gi1 (fun _ _ => ?_)
   rw [← hat] at h ⊢
   rw [firstE_stop hI h hlt, if_pos h]
  ·(refine gK ?_; refine gH ?_; refine gX ?_; refine gG ?_; refine gM ?_; refine gA ?_; refine gM ?_; refine gw_nil ?_)
   exact gx_round (k + 1) ⟨by omega, firstE_snoc hI (by rw [hat]; simpa using h)⟩ (by omega) kK ⟨rfl, trivial⟩ (Sub.all _)
 obtain rfl : k = s.pieces.length := by omega
 rw [if_neg (show ¬ ¬ firstE (pieceAt s plE) s.pieces.length = 0 from fun hc => hc hI)]
 (refine gI ?_; (iterate 2 refine gZ ?_); refine gJ ?_; refine gX ?_; refine gV ?_; apply gw_d; exact w_load_boxN rfl rfl rfl .here rfl; apply gw_d; exact w_call rfl rfl (fun w s' => r_joined_ok w _ s (hs'.later s')) rfl; refine gM ?_; refine gO ?_; refine gR ?_)
 refine gi1 (fun _ _ => ?_)
 rfl

theorem markIn_at {u : Nat} : ∀ (us : List Int) (bs : List Bool), u < bs.length → (∀ x ∈ us, 0 ≤ x ∧ x < (bs.length : Int)) → (markIn bs us).getD u false = (bs.getD u false || hasB us (u : Int))
 | [], bs, _, _ => by simp [markIn, hasB]
 | x :: us, bs, hu, hr => by
  have h1 := hr x List.mem_cons_self
  show (markIn (bs.set x.toNat true) us).getD u false = _
  rw [markIn_at us (bs.set x.toNat true) (by simpa using hu) (fun y hy => by have := hr y (List.mem_cons_of_mem _ hy); simpa using this)]
  have hh : hasB (x :: us) (u : Int) = (decide (x = (u : Int)) || hasB us (u : Int)) := rfl
  rw [hh]
  by_cases hx : x.toNat = u
  ·have : x = (u : Int) := by omega
   subst hx
   rw [List.getD_eq_getElem?_getD, List.getElem?_set_self hu, decide_eq_true this]
   simp
  ·have : ¬ x = (u : Int) := by omega
   rw [List.getD_eq_getElem?_getD, List.getElem?_set_ne hx, decide_eq_false this]
   simp [List.getD_eq_getElem?_getD]
def takenB (l : List Opn) (u : Nat) : Bool := l.any fun o => hasB o.uses (u : Int)
theorem marks_at {n u : Nat} {l : List Opn} (hu : u < n) (hr : ∀ k (hk : k < l.length), ∀ x ∈ l[k].uses, 0 ≤ x ∧ x < (n : Int)) : ∀ k, k ≤ l.length → (marks n (l.take k)).getD u false = takenB (l.take k) u
 | 0, _ => by simp [marks, takenB, List.getD_eq_getElem?_getD, hu]
 | k + 1, hk => by
  have hk' : k < l.length := hk
  have ih := marks_at (l := l) hu hr k (by omega)
  rw [marks_snoc hk', markIn_at _ _ (by rw [marks_len]; exact hu) (fun x hx => by rw [marks_len]; exact hr k hk' x hx), ih]
  unfold takenB
  rw [any_take_snoc _ hk']
theorem marks_all {n : Nat} {l : List Opn} (hr : ∀ k (hk : k < l.length), ∀ x ∈ l[k].uses, 0 ≤ x ∧ x < (n : Int)) : (marks n l).all id = (List.range n).all (takenB l) := by
 have h := fun u (hu : u < n) => marks_at hu hr l.length (Nat.le_refl _)
 rw [List.take_length] at h
 have hl := marks_len n l
 rw [Bool.eq_iff_iff, List.all_eq_true, List.all_eq_true]
 constructor
 ·intro h1 u hu
  have hu := List.mem_range.1 hu
  rw [← h u hu, List.getD_eq_getElem?_getD, List.getElem?_eq_getElem (by omega)]
  exact h1 _ (List.getElem_mem _)
 ·intro h1 b hb
  obtain ⟨u, hu, rfl⟩ := List.getElem_of_mem hb
  have h2 := h1 u (List.mem_range.2 (by omega))
  rw [← h u (by omega), List.getD_eq_getElem?_getD, List.getElem?_eq_getElem hu] at h2
  exact h2

theorem rOpCheck_ok (w : World) (v : Value) (s : Sty) (hs : StyV w w.heap.size v s) : Ok Tryz.prog 55 [v].toArray w fun r _ => r = .int .i64 (opCheckE s plE) := by
 have hs' := hs
 obtain ⟨As, cs, Am, cm, Ap, cp, Au, cu, Ae, ce, Ao, co, rfl, hnm, h1, h2, h3, h4, h5, h6⟩ := hs
 obtain ⟨_, _, hv, huc, hum⟩ := len_small h4
 injection hv with e1 e2 e3
 subst e1 e3
 obtain ⟨_, _, hv, hoc, hom⟩ := len_small h6
 injection hv with e1 e2 e3
 subst e1 e3
 have hle := list_eq s.ops s.uses.length
 refine ok_enter Tryz.func55 rfl Tryz.ntmps55 rfl ?_
 (refine gV ?_; refine gw_boxd (v := .agg _) rfl rfl (fun _ => ?_); refine gM ?_; refine gO ?_; refine gQ ?_; refine gV ?_; apply gw_d; exact w_load_boxN rfl rfl rfl .here rfl)
 (apply gw_d; exact w_call rfl rfl (fun w s' => rStyle_ok w _ s (hs'.later s')) rfl; refine gM ?_; refine gN ?_; refine gM ?_; refine gC ?_; refine gO ?_)
 refine gc_if_dec rfl (fun h => ?_) (fun h => ?_)
 ·(refine gV ?_; (iterate 2 refine gM ?_); refine gO ?_; refine gR ?_; refine gT ?_)
  refine gi1 (fun _ _ => ?_)
  unfold opCheckE
  rw [if_pos h]
 have hS0 : ¬ ¬ styleE s plE = 0 := h
 have hu12 := style_uses (Classical.not_not.1 hS0)
 (refine gK ?_; refine gX ?_; refine gQ ?_; refine gV ?_; refine gF ?_; refine gW .here ?_; refine gF ?_; refine gW .here ?_; refine gL ?_; apply gw_d; exact w_call rfl rfl (fun w s' => single_ok w _ s.ops s.uses.length (h6.later s')) rfl; refine gM ?_; refine gN ?_; refine gM ?_; refine gC ?_; refine gO ?_)
 refine gc_if_dec rfl (fun h => ?_) (fun h => ?_)
 ·rw [if_pos h] at hle
  (refine gV ?_; (iterate 2 refine gM ?_); refine gO ?_; refine gR ?_; refine gT ?_)
  refine gi1 (fun _ _ => ?_)
  unfold opCheckE
  rw [if_neg hS0, hle, if_pos h]
 rw [if_neg h] at hle
 have h16 := single_16 (Classical.not_not.1 h)
 have hso : ∀ (L : List Res) (w' : World), St w L w' → OkM Tryz.prog 68 [.slice Ao s.ops.length co].toArray w' (fun x : Option Addr × Nat => .slice x.1 (sortedL s.ops).length x.2) (fun x => [Own x.1 (sortedL s.ops).length x.2 3 1 ((sortedL s.ops).map (Value.int .i64))]) := fun L w' s' => rsorted_ok w' _ s.ops (h6.later s') (by omega)
 (refine gK ?_; refine gX ?_; refine gQ ?_; refine gQ ?_)
 refine gc_block_draw (Option Addr × Nat) 8 (fun i => ([[], [0], [0, 1], [0, 1, 2], [], [4], [4, 5], [0, 1, 2, 3, 4, 5, 6]] : List (List Nat)).getD i []) rfl (by kernel_rfl) ?_
 (apply gb_d; (intro γ; exact w_field rfl rfl rfl); (intros; rfl); (intros; rfl); apply gb_d; (intro γ; exact w_load_box rfl rfl rfl .here rfl); (intros; rfl); (intros; rfl))
 refine gb_call (l := fun _ => [.slice Ao s.ops.length co]) (fun _ (x : Option Addr × Nat) => .slice x.1 (sortedL s.ops).length x.2) (fun _ (x : Option Addr × Nat) => [Own x.1 (sortedL s.ops).length x.2 3 1 ((sortedL s.ops).map (Value.int .i64))]) (fun _ => rfl) (fun _ w s => hso _ w s) (fun _ => rfl) (fun _ _ => ⟨rfl, rfl⟩) (fun _ => ⟨rfl, rfl⟩) ?_
 (apply gb_d; (intro γ; exact w_len rfl rfl rfl); (intros; rfl); (intros; rfl); apply gb_d; (intro γ; exact w_field rfl rfl rfl); (intros; rfl); (intros; rfl); apply gb_d; (intro γ; exact w_load_box rfl rfl rfl .here rfl); (intros; rfl); (intros; rfl); apply gb_d; (intro γ; exact w_len rfl rfl rfl); (intros; rfl); (intros; rfl); apply gb_d; (intro γ; exact det_cmp rfl rfl rfl rfl rfl); (intros; rfl); (intros; rfl))
 refine GB.nil (fun δ => ?_)
 refine gw_ent (K := [Box _ _ _]) (Sub.ent (.cons (.there .here) .nil)) ?_
 (refine gO ?_)
 refine gc_if_dec rfl (fun h => ?_) (fun h => ?_)
 ·rw [if_pos (by omega)] at hle
  (refine gV ?_; refine gM ?_; refine gO ?_; refine gR ?_; refine gT ?_)
  refine gi1 (fun _ _ => ?_)
  unfold opCheckE
  rw [if_neg hS0, hle, if_pos (by decide)]
 rw [if_neg (by omega)] at hle
 have hus := fun k (hk : k < s.ops.length) => list_uses hle hk
 have hE : opCheckE s plE = if (List.range s.uses.length).all (takenB s.ops) = true then 0 else 20 := by
  unfold opCheckE
  rw [if_neg hS0, if_neg (by rw [hle]; decide), marks_all hus]
 rw [hE]
 (refine gK ?_; refine gX ?_; refine gQ ?_; refine gV ?_; refine gM ?_; refine gO ?_; refine gB ?_)
 refine gc_loopK (σ := Nat) [30, 31, 32, 33, 34, 6, 7, 37, 38, 39, 40, 41, 44, 45, 46, 47, 48, 49, 50, 51, 52, 53, 54, 42, 43, 55, 56, 2, 35, 36, 5] (fun u => [(5, .int .i64 u)]) (fun u => u ≤ s.uses.length ∧ (List.range u).all (takenB s.ops) = true) (fun u => s.uses.length - u) 0 ⟨Nat.zero_le _, rfl⟩ ⟨rfl, trivial⟩ ?_
 rintro u base ⟨hu, hU⟩
 (refine gQ ?_; refine gV ?_; refine gM ?_; refine gF ?_; refine gW .here ?_; refine gL ?_; refine gC ?_; refine gO ?_)
 refine gc_if_dec rfl (fun h => ?_) (fun h => ?_)
 ·have hul : u < s.uses.length := by omega
  (refine gK ?_; refine gX ?_; refine gQ ?_; refine gB ?_; refine gV ?_; refine gM ?_; refine gO ?_; refine gQ ?_; refine gV ?_; refine gM ?_; refine gO ?_; refine gB ?_)
  refine gc_loopK (σ := Nat) [37, 38, 39, 40, 41, 44, 45, 46, 47, 48, 49, 50, 51, 52, 53, 54, 6, 42, 43, 7] (fun k => [(7, .int .i64 k), (6, .bool (takenB (s.ops.take k) u))]) (fun k => k ≤ s.ops.length) (fun k => s.ops.length - k) 0 (Nat.zero_le _) ⟨rfl, rfl, trivial⟩ ?_
  rintro k base2 hk
  (refine gQ ?_; refine gV ?_; refine gM ?_; refine gF ?_; refine gW .here ?_; refine gL ?_; refine gC ?_; refine gO ?_)
  refine gc_if_dec rfl (fun h2 => ?_) (fun h2 => ?_)
  ·have hkl : k < s.ops.length := by omega
   obtain ⟨ad, _, hv, _, _, hb, hcell⟩ := h6.at' 5 rfl (by omega)
   injection hv with e1 e2 e3
   subst e1 e3
   obtain ⟨cs', hce, Aa, ca, Au', cu', rfl, _, q1, q2⟩ := hcell k hkl
   have ha : Sl rInt w w.heap.size (.slice Au' s.ops[k].uses.length cu') s.ops[k].uses := q2
   have hce4 := hce 4 _ rfl
   have hH : ∀ (L : List Res) (w' : World), St w L w' → Ok Tryz.prog 69 [.slice Au' s.ops[k].uses.length cu', .int .i64 (u : Int)].toArray w' fun r _ => r = .bool (hasB s.ops[k].uses (u : Int)) := fun L w' s' => has_ok w' _ _ _ (ha.later s')
   have hsn : takenB (s.ops.take (k + 1)) u = (takenB (s.ops.take k) u || hasB s.ops[k].uses (u : Int)) := any_take_snoc _ hkl
   generalize takenB (s.ops.take k) u = b at hsn
   focus (refine gK ?_; refine gX ?_; refine gQ ?_; refine gB ?_; refine gG ?_; (iterate 2 refine gM ?_); refine gw_guard rfl rfl (fun _ => ?_) (fun _ => ?_); (iterate 8 refine gU ?_); refine gPp ?_; refine gM ?_; refine gw_nil ?_; refine gH ?_; refine gX ?_; refine gG ?_; refine gM ?_; refine gA ?_; refine gM ?_; refine gw_nil ?_; rotate_left; refine gF ?_; refine gW .here ?_; refine gM ?_; apply gw_d; exact w_index rfl rfl rfl rfl (by with_reducible exact rfl) (by omega); refine gF ?_; apply gw_d; exact w_load_fld rfl rfl rfl (by assumption) (by assumption); refine gM ?_; apply gw_d; exact w_call rfl rfl (hH _) rfl; refine gPq ?_; refine gM ?_; refine gw_nil ?_; refine gH ?_; refine gX ?_; refine gG ?_; refine gM ?_; refine gA ?_; refine gM ?_; refine gw_nil ?_; rotate_left)
   ·rename_i h9
    exact gx_round (k + 1) hkl (by omega) kK ⟨rfl, by rw [hsn, h9]; rfl, trivial⟩ (Sub.all _)
   ·rename_i h9
    exact gx_round (k + 1) hkl (by omega) kK ⟨rfl, by rw [hsn, h9]; rfl, trivial⟩ (Sub.all _)
  ·obtain rfl : k = s.ops.length := by omega
   rw [List.take_length]
   cases hb : takenB s.ops u with
   | false =>
    (refine gI ?_; (iterate 2 refine gZ ?_); refine gJ ?_; refine gX ?_; refine gV ?_; refine gM ?_; apply gw_d; exact det_not_ rfl rfl rfl; refine gO ?_; refine gc_if_true rfl ?_; refine gV ?_; refine gM ?_; refine gO ?_; refine gR ?_; refine gY ?_; (iterate 2 refine gT ?_); refine gY ?_; refine gT ?_)
    refine gi1 (fun _ _ => ?_)
    rw [if_neg]
    intro hc
    have := List.all_eq_true.1 hc u (List.mem_range.2 hul)
    rw [hb] at this
    cases this
   | true =>
    (refine gI ?_; (iterate 2 refine gZ ?_); refine gJ ?_; refine gX ?_; refine gV ?_; refine gM ?_; apply gw_d; exact det_not_ rfl rfl rfl; refine gO ?_; refine gc_if_false rfl ?_; refine gK ?_; refine gH ?_; refine gX ?_; refine gG ?_; refine gM ?_; refine gA ?_; refine gM ?_; refine gw_nil ?_)
    exact gx_round (u + 1) ⟨hul, by rw [List.range_succ, List.all_append, hU]; simp [hb]⟩ (by omega) kK ⟨rfl, trivial⟩ (Sub.all _)
 ·obtain rfl : u = s.uses.length := by omega
  (refine gI ?_; (iterate 2 refine gZ ?_); refine gJ ?_; refine gX ?_; refine gV ?_; refine gM ?_; refine gO ?_; refine gR ?_)
  refine gi1 (fun _ _ => ?_)
  rw [if_pos hU]
theorem rk_in (w : World) (v : Value) (l : List Int) (x : Int) (hl : Sl rInt w w.heap.size v l) : Ok Tryz.prog 71 [v, .int .i64 x].toArray w fun r _ => r = .bool (hasB l x) := by
 obtain ⟨A, c, rfl, hc, hm, hcell⟩ := hl.int
 refine ok_enter Tryz.func71 rfl Tryz.ntmps71 rfl ?_
 (refine gV ?_; refine gM ?_; refine gO ?_; refine gQ ?_; refine gV ?_; refine gM ?_; refine gO ?_; refine gB ?_)
 refine gc_loop (σ := Nat) [6, 7, 8, 9, 12, 13, 14, 15, 16, 17, 4, 10, 11, 5] (fun k => [(5, .int .i64 k)]) (fun _ => []) (fun k => k ≤ l.length ∧ hasB (l.take k) x = false) (fun k => l.length - k) 0 ⟨Nat.zero_le _, rfl⟩ ⟨rfl, trivial⟩ .nil ?_
 rintro k base ⟨hk, hI⟩
 (refine gQ ?_; refine gV ?_; (iterate 2 refine gM ?_); refine gL ?_; refine gC ?_; refine gO ?_)
 refine gc_if_dec rfl (fun h => ?_) (fun h => ?_)
 ·have hlt : k < l.length := by omega
  obtain ⟨ad, rfl, hb, hce, _⟩ := hcell k hlt
  (refine gK ?_; refine gX ?_; refine gQ ?_; refine gB ?_; refine gV ?_; (iterate 2 refine gM ?_); apply gw_d; exact w_index rfl rfl rfl rfl (by with_reducible exact rfl) (by omega); apply gw_d; exact w_load_at rfl rfl rfl (by assumption) (by assumption); refine gM ?_; refine gC ?_; refine gO ?_)
  refine gc_if_dec rfl (fun h2 => ?_) (fun h2 => ?_)
  ·(refine gV ?_; refine gM ?_; refine gO ?_; refine gR ?_; refine gY ?_; (iterate 2 refine gT ?_); refine gY ?_; refine gT ?_)
   refine gb1 (fun _ _ => ?_)
   rw [show hasB l x = true from any_at hlt (decide_eq_true h2)]
  ·(refine gK ?_; refine gH ?_; refine gX ?_; refine gG ?_; refine gM ?_; refine gA ?_; refine gM ?_; refine gw_nil ?_)
   exact gx_round (k + 1) ⟨hlt, take_any_snoc hlt hI (decide_eq_false h2)⟩ (by omega) kK ⟨rfl, trivial⟩ .nil
 ·obtain rfl : k = l.length := by omega
  rw [List.take_length] at hI
  (refine gI ?_; (iterate 2 refine gZ ?_); refine gJ ?_; refine gX ?_; refine gV ?_; refine gM ?_; refine gO ?_; refine gR ?_)
  refine gb1 (fun _ _ => ?_)
  rw [hI]
theorem rk_machine (w : World) (m : Int) : Ok Tryz.prog 86 [.int .i64 m].toArray w fun x _ => x = .bool (decide (0 ≤ m ∧ m < 8)) := by
 refine ok_enter Tryz.func86 rfl Tryz.ntmps86 rfl ?_
 focus (refine gV ?_; refine gM ?_; refine gN ?_; refine gM ?_; refine gC ?_; refine gM ?_; refine gD (fun _ => ?_) (fun _ => ?_); refine gM ?_; refine gC ?_; refine gPp ?_; refine gM ?_; refine gO ?_; refine gR ?_; rotate_left; (iterate 2 refine gU ?_); refine gPq ?_; refine gM ?_; refine gO ?_; refine gR ?_; rotate_left)
 ·refine gb1 (fun _ _ => ?_)
  rename_i h _ _
  congr 1
  simp only [show 0 ≤ m from h, true_and]
 ·refine gb1 (fun _ _ => ?_)
  rename_i h _ _
  congr 1
  rw [decide_eq_false (fun h2 => h h2.1)]
def oneW (e : List Wrk) (x : Wrk) : Int := if nameB x.name = false then 1 else if (e.any fun y => eqS y.name x.name) = true then 7 else machE x.machines
theorem rk_one (w : World) (ve : Value) (e : List Wrk) (x : Wrk) (Am : Option Addr) (cm : Nat) (he : Sl rWrk w w.heap.size ve e) (hm : Sl rInt w w.heap.size (.slice Am x.machines.length cm) x.machines) (hn : x.name.size ≤ 9223372036854775807) :
  Ok Tryz.prog 70 [ve, .agg #[.string x.name, .slice Am x.machines.length cm]].toArray w fun r _ => r = .int .i64 (oneW e x) := by
 obtain ⟨A, c, rfl, hc, hm9, hcell⟩ := he.wrk
 obtain ⟨_, _, hv, hmc, hmm, hmcell⟩ := hm.int
 injection hv with e1 e2 e3
 subst e1 e3
 refine ok_enter Tryz.func70 rfl Tryz.ntmps70 rfl ?_
 (refine gV ?_; refine gw_boxd (v := .agg _) rfl rfl (fun _ => ?_); refine gM ?_; refine gO ?_; refine gQ ?_; refine gV ?_; refine gF ?_; refine gW .here ?_; apply gw_d; exact w_call rfl rfl (fun w _ => rf_name w _ hn) rfl; apply gw_d; exact det_not_ rfl rfl rfl; refine gO ?_)
 refine gc_if rfl (fun h => ?_) (fun h => ?_)
 ·(refine gV ?_; refine gM ?_; refine gO ?_; refine gR ?_; refine gT ?_)
  refine gi1 (fun _ _ => ?_)
  unfold oneW
  rw [if_pos (by simpa using h)]
 have h1 : ¬ nameB x.name = false := by simpa using h
 (refine gK ?_; refine gX ?_; refine gQ ?_; refine gV ?_; refine gM ?_; refine gO ?_; refine gB ?_)
 refine gc_loopK (σ := Nat) [11, 12, 13, 14, 17, 18, 19, 20, 21, 22, 23, 24, 4, 15, 16, 5] (fun k => [(5, .int .i64 k)]) (fun k => k ≤ e.length ∧ ((e.take k).any fun y => eqS y.name x.name) = false) (fun k => e.length - k) 0 ⟨Nat.zero_le _, rfl⟩ ⟨rfl, trivial⟩ ?_
 rintro k base ⟨hk, hI⟩
 (refine gQ ?_; refine gV ?_; (iterate 2 refine gM ?_); refine gL ?_; refine gC ?_; refine gO ?_)
 refine gc_if_dec rfl (fun h => ?_) (fun h => ?_)
 ·have hlt : k < e.length := by omega
  obtain ⟨ad, Am2, cm2, rfl, hb, hce, _, _⟩ := hcell k hlt
  have hce0 := hce 0 _ rfl
  (refine gK ?_; refine gX ?_; refine gQ ?_; refine gB ?_; refine gQ ?_)
  refine gc_draw 8 (by kernel_rfl) (by kernel_rfl) ?_
  ((iterate 2 refine dM ?_); apply gd_d; exact w_index rfl rfl rfl rfl (by with_reducible exact rfl) (by omega); apply gd_d; exact w_field rfl rfl rfl; apply gd_d; exact w_load_fld rfl rfl rfl (by assumption) (by assumption); apply gd_d; exact w_field rfl rfl rfl; apply gd_d; exact w_load_box rfl rfl rfl .here rfl; apply gd_d; exact det_seq rfl rfl rfl rfl; refine gd_nil ?_; refine gO ?_)
  refine gc_if rfl (fun h => ?_) (fun h => ?_)
  ·(refine gV ?_; refine gM ?_; refine gO ?_; refine gR ?_; refine gY ?_; (iterate 2 refine gT ?_); refine gY ?_; refine gT ?_)
   refine gi1 (fun _ _ => ?_)
   unfold oneW
   rw [if_neg h1, if_pos (any_at hlt h)]
  ·(refine gK ?_; refine gH ?_; refine gX ?_; refine gG ?_; refine gM ?_; refine gA ?_; refine gM ?_; refine gw_nil ?_)
   exact gx_round (k + 1) ⟨by omega, take_any_snoc hlt hI h⟩ (by omega) kK ⟨rfl, trivial⟩ (Sub.all _)
 obtain rfl : k = e.length := by omega
 rw [List.take_length] at hI
 have hE : oneW e x = machE x.machines := by unfold oneW; rw [if_neg h1, if_neg (by rw [hI]; decide)]
 rw [hE]
 (refine gI ?_; (iterate 2 refine gZ ?_); refine gJ ?_; refine gX ?_; refine gQ ?_; refine gV ?_; refine gM ?_; refine gO ?_; refine gB ?_)
 refine gc_loopK (σ := Nat) [25, 26, 27, 28, 29, 32, 33, 34, 35, 36, 37, 38, 4, 39, 40, 41, 42, 43, 44, 45, 46, 47, 48, 30, 31, 6] (fun k => [(6, .int .i64 k)]) (fun k => k ≤ x.machines.length ∧ firstE (machF x.machines) k = 0) (fun k => x.machines.length - k) 0 ⟨Nat.zero_le _, rfl⟩ ⟨rfl, trivial⟩ ?_
 rintro k base2 ⟨hk, hJ⟩
 (refine gQ ?_; refine gV ?_; refine gM ?_; refine gF ?_; refine gW .here ?_; refine gL ?_; refine gC ?_; refine gO ?_)
 refine gc_if_dec rfl (fun h => ?_) (fun h => ?_)
 ·have hlt : k < x.machines.length := by omega
  obtain ⟨ad, rfl, hb, hce, _⟩ := hmcell k hlt
  have hat : machF x.machines k = if ¬ (0 ≤ x.machines[k] ∧ x.machines[k] < 8) then 3 else if hasB (x.machines.take k) x.machines[k] = true then 7 else 0 := by unfold machF; rw [List.getElem?_eq_getElem hlt]
  have htk := hm.take (m := k) (by omega)
  have hH : ∀ (L : List Res) (w' : World), St w L w' → Ok Tryz.prog 71 [.slice (some ad) k cm, .int .i64 x.machines[k]].toArray w' fun r _ => r = .bool (hasB (x.machines.take k) x.machines[k]) := fun L w' s' => rk_in w' _ _ _ (htk.later s')
  (refine gK ?_; refine gX ?_; refine gQ ?_; refine gB ?_; refine gQ ?_; refine gV ?_; refine gF ?_; refine gW .here ?_; refine gM ?_; apply gw_d; exact w_index rfl rfl rfl rfl (by with_reducible exact rfl) (by omega); apply gw_d; exact w_load_at rfl rfl rfl (by assumption) (by assumption); apply gw_d; exact w_call rfl rfl (fun w _ => rk_machine w _) rfl; apply gw_d; exact det_not_dec rfl rfl rfl; refine gO ?_)
  refine gc_if rfl (fun h2 => ?_) (fun h2 => ?_)
  ·rw [if_pos (of_decide_eq_true h2)] at hat
   (refine gV ?_; refine gM ?_; refine gO ?_; refine gR ?_; refine gT ?_; refine gY ?_; (iterate 2 refine gT ?_); refine gY ?_; refine gT ?_)
   refine gi1 (fun _ _ => ?_)
   unfold machE
   rw [firstE_stop hJ (by rw [hat]; decide) hlt, hat]
  ·rw [if_neg (of_decide_eq_false h2)] at hat
   (refine gK ?_; refine gX ?_; refine gQ ?_)
   refine gc_draw 10 (by kernel_rfl) (by kernel_rfl) ?_
   (apply gd_d; exact w_field rfl rfl rfl; apply gd_d; exact w_load_box rfl rfl rfl .here rfl; refine dM ?_; apply gd_d; exact w_cut_hi rfl rfl rfl rfl (by with_reducible exact rfl) (by omega); apply gd_d; exact w_field rfl rfl rfl; apply gd_d; exact w_load_box rfl rfl rfl .here rfl; refine dM ?_; apply gd_d; exact w_index rfl rfl rfl rfl (by with_reducible exact rfl) (by omega); apply gd_d; exact w_load_at rfl rfl rfl (by assumption) (by assumption); apply gd_d; exact w_call rfl rfl (hH _) rfl; refine gd_nil ?_; refine gO ?_)
   refine gc_if rfl (fun h3 => ?_) (fun h3 => ?_)
   ·rw [if_pos h3] at hat
    (refine gV ?_; refine gM ?_; refine gO ?_; refine gR ?_; refine gY ?_; (iterate 2 refine gT ?_); refine gY ?_; refine gT ?_)
    refine gi1 (fun _ _ => ?_)
    unfold machE
    rw [firstE_stop hJ (by rw [hat]; decide) hlt, hat]
   ·rw [if_neg (by rw [h3]; decide)] at hat
    (refine gK ?_; refine gH ?_; refine gX ?_; refine gG ?_; refine gM ?_; refine gA ?_; refine gM ?_; refine gw_nil ?_)
    exact gx_round (k + 1) ⟨hlt, firstE_snoc hJ hat⟩ (by omega) kK ⟨rfl, trivial⟩ (Sub.all _)
 ·obtain rfl : k = x.machines.length := by omega
  (refine gI ?_; (iterate 2 refine gZ ?_); refine gJ ?_; refine gX ?_; refine gV ?_; refine gM ?_; refine gO ?_; refine gR ?_)
  refine gi1 (fun _ _ => ?_)
  unfold machE
  rw [hJ]
theorem rk_check (w : World) (v : Value) (l : List Wrk) (hl : Sl rWrk w w.heap.size v l) : Ok Tryz.prog 57 [v].toArray w fun x _ => x = .int .i64 (skillE l) := by
 obtain ⟨A, c, rfl, hc, hm, hcell⟩ := hl.wrk
 refine ok_enter Tryz.func57 rfl Tryz.ntmps57 rfl ?_
 (refine gV ?_; refine gM ?_; refine gO ?_; refine gQ ?_; refine gV ?_; refine gM ?_; refine gL ?_; refine gC ?_; refine gO ?_)
 refine gc_if_dec rfl (fun h => ?_) (fun h => ?_)
 ·(refine gV ?_; refine gM ?_; refine gO ?_; refine gR ?_; refine gT ?_)
  refine gi1 (fun _ _ => ?_)
  unfold skillE
  rw [if_pos (by omega)]
 have hE : skillE l = firstE (wrkE l) l.length := by unfold skillE; rw [if_neg (by omega)]
 rw [hE]
 (refine gK ?_; refine gX ?_; refine gQ ?_; refine gV ?_; refine gM ?_; refine gO ?_; refine gB ?_)
 refine gc_loop (σ := Nat) [8, 9, 10, 11, 14, 15, 16, 17, 18, 19, 20, 21, 4, 22, 23, 24, 2, 12, 13, 3] (fun k => [(3, .int .i64 k)]) (fun _ => []) (fun k => k ≤ l.length ∧ firstE (wrkE l) k = 0) (fun k => l.length - k) 0 ⟨Nat.zero_le _, rfl⟩ ⟨rfl, trivial⟩ .nil ?_
 rintro k base ⟨hk, hI⟩
 (refine gQ ?_; refine gV ?_; (iterate 2 refine gM ?_); refine gL ?_; refine gC ?_; refine gO ?_)
 refine gc_if_dec rfl (fun h => ?_) (fun h => ?_)
 ·have hlt : k < l.length := by omega
  obtain ⟨ad, Am, cm, rfl, hb, hce, hsz, hms⟩ := hcell k hlt
  have htk := hl.take (m := k) (by omega)
  have hat : wrkE l k = oneW (l.take k) l[k] := by unfold wrkE oneW; rw [List.getElem?_eq_getElem hlt]
  have hO : ∀ (L : List Res) (w' : World), St w L w' → Ok Tryz.prog 70 [.slice (some ad) k c, .agg #[.string l[k].name, .slice Am l[k].machines.length cm]].toArray w' fun r _ => r = .int .i64 (oneW (l.take k) l[k]) := fun L w' s' => rk_one w' _ _ _ _ _ (htk.later s') (hms.later s') hsz
  (refine gK ?_; refine gX ?_; refine gQ ?_; refine gB ?_; refine gQ ?_)
  refine gc_draw 8 (by kernel_rfl) (by kernel_rfl) ?_
  ((iterate 2 refine dM ?_); apply gd_d; exact w_cut_hi rfl rfl rfl rfl (by with_reducible exact rfl) (by omega); (iterate 2 refine dM ?_); apply gd_d; exact w_index rfl rfl rfl rfl (by with_reducible exact rfl) (by omega); apply gd_d; exact w_load_elem rfl rfl rfl (by assumption) (by assumption) (by rfl); apply gd_d; exact w_call rfl rfl (hO _) rfl; refine gd_nil ?_; refine gM ?_; refine gN ?_; refine gM ?_; refine gC ?_; refine gO ?_)
  refine gc_if_dec rfl (fun h2 => ?_) (fun h2 => ?_)
  ·(refine gV ?_; (iterate 2 refine gM ?_); refine gO ?_; refine gR ?_; refine gY ?_; (iterate 2 refine gT ?_); refine gY ?_; refine gT ?_)
   refine gi1 (fun _ _ => ?_)
   rw [← hat] at h2 ⊢
   rw [firstE_stop hI h2 hlt]
  ·(refine gK ?_; refine gH ?_; refine gX ?_; refine gG ?_; refine gM ?_; refine gA ?_; refine gM ?_; refine gw_nil ?_)
   exact gx_round (k + 1) ⟨hlt, firstE_snoc hI (by rw [hat]; exact Classical.not_not.1 h2)⟩ (by omega) kK ⟨rfl, trivial⟩ .nil
 ·obtain rfl : k = l.length := by omega
  (refine gI ?_; (iterate 2 refine gZ ?_); refine gJ ?_; refine gX ?_; refine gV ?_; refine gM ?_; refine gO ?_; refine gR ?_)
  refine gi1 (fun _ _ => ?_)
  rw [hI]
theorem rk_can (w : World) (nm : ByteArray) (A : Option Addr) (m : Int) (k : Nat) (ms : List Int) (hl : Sl rInt w w.heap.size (.slice A ms.length k) ms) : Ok Tryz.prog 58 [.agg #[.string nm, .slice A ms.length k], .int .i64 m].toArray w fun x _ => x = .bool (hasB ms m) := by
 refine ok_enter Tryz.func58 rfl Tryz.ntmps58 rfl ?_
 (refine gV ?_; refine gw_boxd (v := .agg _) rfl rfl (fun _ => ?_); refine gM ?_; refine gN ?_; refine gF ?_; refine gW .here ?_; refine gM ?_; apply gw_d; exact w_call rfl rfl (fun w' s => rk_in w' _ ms m (hl.later s)) rfl; refine gM ?_; refine gO ?_; refine gR ?_)
 refine gb1 (fun _ _ => ?_)
 rfl

theorem rs_bundle (w : World) (v : Value) (l : List Bun) (n : Nat) (t : Int) (hl : Sl rBun w w.heap.size v l) (hn : n ≤ l.length) : Ok Tryz.prog 56 [v, .int .i64 (n : Int), .int .i64 t].toArray w fun r _ => r = .bool ((l.take n).any fun y => decide (y.tick = t)) := by
 obtain ⟨A, c, rfl, hc, hm, hcell⟩ := hl.bun
 refine ok_enter Tryz.func56 rfl Tryz.ntmps56 rfl ?_
 (refine gV ?_; refine gM ?_; refine gO ?_; refine gQ ?_; refine gV ?_; refine gM ?_; refine gO ?_; refine gB ?_)
 refine gc_loop (σ := Nat) [8, 9, 10, 13, 14, 15, 16, 17, 18, 19, 6, 11, 12, 7] (fun k => [(7, .int .i64 k)]) (fun _ => []) (fun k => k ≤ n ∧ ((l.take k).any fun y => decide (y.tick = t)) = false) (fun k => n - k) 0 ⟨Nat.zero_le _, rfl⟩ ⟨rfl, trivial⟩ .nil ?_
 rintro k base ⟨hk, hI⟩
 (refine gQ ?_; refine gV ?_; (iterate 2 refine gM ?_); refine gC ?_; refine gO ?_)
 refine gc_if_dec rfl (fun h => ?_) (fun h => ?_)
 ·have hkn : k < n := by omega
  have hlt : k < l.length := by omega
  obtain ⟨ad, rfl, hb, hce, _⟩ := hcell k hlt
  have hce0 := hce 0 _ rfl
  (refine gK ?_; refine gX ?_; refine gQ ?_; refine gB ?_; refine gV ?_; (iterate 2 refine gM ?_); apply gw_d; exact w_index rfl rfl rfl rfl (by with_reducible exact rfl) (by omega); refine gF ?_; apply gw_d; exact w_load_fld rfl rfl rfl (by assumption) (by assumption); refine gM ?_; refine gC ?_; refine gO ?_)
  refine gc_if_dec rfl (fun h2 => ?_) (fun h2 => ?_)
  ·have hy : ((l.take n).any fun y => decide (y.tick = t)) = true := List.any_eq_true.2 ⟨l[k], List.mem_take_iff_getElem.2 ⟨k, by omega, rfl⟩, decide_eq_true h2⟩
   (refine gV ?_; refine gM ?_; refine gO ?_; refine gR ?_; refine gY ?_; (iterate 2 refine gT ?_); refine gY ?_; refine gT ?_)
   refine gb1 (fun _ _ => ?_)
   rw [hy]
  ·(refine gK ?_; refine gH ?_; refine gX ?_; refine gG ?_; refine gM ?_; refine gA ?_; refine gM ?_; refine gw_nil ?_)
   exact gx_round (k + 1) ⟨hkn, take_any_snoc hlt hI (decide_eq_false h2)⟩ (by omega) kK ⟨rfl, trivial⟩ .nil
 ·obtain rfl : k = n := by omega
  (refine gI ?_; (iterate 2 refine gZ ?_); refine gJ ?_; refine gX ?_; refine gV ?_; refine gM ?_; refine gO ?_; refine gR ?_)
  refine gb1 (fun _ _ => ?_)
  rw [hI]
theorem rs_check (w : World) (v vb vw : Value) (s : Sty) (bs : List Bun) (ws : List Wrk) (hs : StyV w w.heap.size v s) (hb : Sl rBun w w.heap.size vb bs) (hw : Sl rWrk w w.heap.size vw ws) :
  Ok Tryz.prog 45 [v, vb, vw].toArray w fun x _ => x = .int .i64 (scanE (opCheckE s plE) bs ws) := by
 have hO := fun (L : List Res) (w' : World) (s' : St w L w') => rOpCheck_ok w' v s (hs.later s')
 obtain ⟨As, cs, Am, cm, Ap, cp, Au, cu, Ae, ce, Ao, co, rfl, _⟩ := hs
 generalize opCheckE s plE = e at hO
 obtain ⟨A, c, rfl, hc, hm, hcell⟩ := hb.bun
 refine ok_enter Tryz.func45 rfl Tryz.ntmps45 rfl ?_
 (refine gV ?_; refine gw_boxd (v := .agg _) rfl rfl (fun _ => ?_); refine gM ?_; refine gO ?_; refine gQ ?_; refine gV ?_; apply gw_d; exact w_load_boxN rfl rfl rfl .here rfl)
 (apply gw_d; exact w_call rfl rfl (hO _) rfl; refine gM ?_; refine gN ?_; refine gM ?_; refine gC ?_; refine gO ?_)
 refine gc_if_dec rfl (fun h => ?_) (fun h => ?_)
 ·(refine gV ?_; (iterate 2 refine gM ?_); refine gO ?_; refine gR ?_; refine gT ?_)
  refine gi1 (fun _ _ => ?_)
  unfold scanE
  rw [if_pos h]
 have he : e = 0 := by simpa using h
 (refine gK ?_; refine gX ?_; refine gQ ?_; refine gV ?_; refine gM ?_; refine gL ?_; refine gC ?_; refine gO ?_)
 refine gc_if_dec rfl (fun h => ?_) (fun h60 => ?_)
 ·(refine gV ?_; refine gM ?_; refine gO ?_; refine gR ?_; refine gT ?_)
  refine gi1 (fun _ _ => ?_)
  unfold scanE
  rw [if_neg (by rw [he]; decide), if_pos (by omega)]
 have hE : scanE e bs ws = if ¬ firstE (bunE bs) bs.length = 0 then firstE (bunE bs) bs.length else skillE ws := by
  unfold scanE
  rw [if_neg (by rw [he]; decide), if_neg (by omega)]
 rw [hE]
 (refine gK ?_; refine gX ?_; refine gQ ?_; refine gV ?_; refine gM ?_; refine gO ?_; refine gB ?_)
 refine gc_loopK (σ := Nat) [18, 19, 20, 21, 24, 25, 26, 27, 9, 28, 29, 30, 31, 32, 33, 34, 35, 36, 37, 38, 39, 40, 41, 42, 6, 43, 44, 45, 46, 47, 22, 23, 8] (fun k => [(8, .int .i64 k)]) (fun k => k ≤ bs.length ∧ firstE (bunE bs) k = 0) (fun k => bs.length - k) 0 ⟨Nat.zero_le _, rfl⟩ ⟨rfl, trivial⟩ ?_
 rintro k base ⟨hk, hI⟩
 (refine gQ ?_; refine gV ?_; (iterate 2 refine gM ?_); refine gL ?_; refine gC ?_; refine gO ?_)
 refine gc_if_dec rfl (fun h => ?_) (fun h => ?_)
 ·have hlt : k < bs.length := by omega
  obtain ⟨ad, rfl, hbk, hce, h1, h2, h3⟩ := hcell k hlt
  unfold inI64 at h1 h2 h3
  have hW : bunE bs k = if bs[k].fr ≥ bs[k].upto ∨ bs[k].upto - bs[k].fr > 40 then 3 else if ((bs.take k).any fun y => decide (y.tick = bs[k].tick)) = true then 7 else 0 := by
   unfold bunE
   rw [List.getElem?_eq_getElem hlt]
  have hstop : ∀ x : Int, bunE bs k = x → ¬ x = 0 → (if ¬ firstE (bunE bs) bs.length = 0 then firstE (bunE bs) bs.length else skillE ws) = x := fun x hx hx0 => by
   have := firstE_stop hI (by rw [hx]; exact hx0) hlt
   rw [this, hx, if_pos hx0]
  have hBu : ∀ (L : List Res) (w' : World), St w L w' → Ok Tryz.prog 56 [.slice (some ad) bs.length c, .int .i64 (k : Int), .int .i64 bs[k].tick].toArray w' fun r _ => r = .bool ((bs.take k).any fun y => decide (y.tick = bs[k].tick)) := fun L w' s' => rs_bundle w' _ bs k _ (hb.later s') (by omega)
  (refine gK ?_; refine gX ?_; refine gQ ?_; refine gB ?_; refine gV ?_; (iterate 2 refine gM ?_); apply gw_d; exact w_index rfl rfl rfl rfl (by with_reducible exact rfl) (by omega); apply gw_d; exact w_load_elem rfl rfl rfl (by assumption) (by assumption) (by rfl); refine w_alloc rfl (fun _ => ?_); refine w_store_all rfl rfl rfl rfl rfl .here rfl ?_; refine gO ?_; refine gQ ?_; refine gV ?_; refine gF ?_; refine gW .here ?_; refine gF ?_; refine gW .here ?_; refine gC ?_; refine gM ?_)
  by_cases h4 : bs[k].fr ≥ bs[k].upto
  ·rw [if_pos (.inl h4)] at hW
   focus (refine gD (fun _ => ?_) (fun _ => ?_); (iterate 8 refine gU ?_); refine gPp ?_; refine gO ?_; refine gc_if_true rfl ?_; refine gV ?_; refine gM ?_; refine gO ?_; refine gR ?_; refine gT ?_; refine gY ?_; (iterate 2 refine gT ?_); refine gY ?_; refine gT ?_; rotate_left; refine gF ?_; refine gW .here ?_; rotate_left)
   all_goals first | (exfalso; omega) | skip
   refine gi1 (fun _ _ => ?_)
   rw [hstop 3 hW (by decide)]
  have hu : (bs[k].upto % 18446744073709551616 - bs[k].fr % 18446744073709551616) % 18446744073709551616 = bs[k].upto - bs[k].fr := by omega
  by_cases h5 : bs[k].upto - bs[k].fr > 40
  ·rw [if_pos (.inr h5)] at hW
   focus (refine gD (fun _ => ?_) (fun _ => ?_); (iterate 8 refine gU ?_); refine gPp ?_; refine gO ?_; refine gc_if_true rfl ?_; refine gV ?_; refine gM ?_; refine gO ?_; refine gR ?_; refine gT ?_; refine gY ?_; (iterate 2 refine gT ?_); refine gY ?_; refine gT ?_; rotate_left; refine gF ?_; refine gW .here ?_; apply gw_d; exact det_conv (r := bs[k].upto % 18446744073709551616) rfl rfl rfl (wrap_u64 _); refine gF ?_; refine gW .here ?_; apply gw_d; exact det_conv (r := bs[k].fr % 18446744073709551616) rfl rfl rfl (wrap_u64 _); apply gw_d; exact det_eq (c' := .int .u64 (bs[k].upto - bs[k].fr)) (det_ar_wrap rfl rfl rfl rfl rfl) (by rw [wrap_u64, hu]); refine gC ?_; refine gPq ?_; refine gO ?_; refine gc_if_dec rfl (fun _ => ?_) (fun _ => ?_); refine gV ?_; refine gM ?_; refine gO ?_; refine gR ?_; refine gT ?_; refine gY ?_; (iterate 2 refine gT ?_); refine gY ?_; refine gT ?_; rotate_left; refine gK ?_; refine gX ?_; refine gV ?_; (iterate 2 refine gM ?_); refine gF ?_; refine gW .here ?_; rotate_left)
   all_goals first | (exfalso; omega) | skip
   refine gi1 (fun _ _ => ?_)
   rw [hstop 3 hW (by decide)]
  rw [if_neg (by omega)] at hW
  focus (refine gD (fun _ => ?_) (fun _ => ?_); (iterate 8 refine gU ?_); refine gPp ?_; refine gO ?_; refine gc_if_true rfl ?_; refine gV ?_; refine gM ?_; refine gO ?_; refine gR ?_; refine gT ?_; refine gY ?_; (iterate 2 refine gT ?_); refine gY ?_; refine gT ?_; rotate_left; refine gF ?_; refine gW .here ?_; apply gw_d; exact det_conv (r := bs[k].upto % 18446744073709551616) rfl rfl rfl (wrap_u64 _); refine gF ?_; refine gW .here ?_; apply gw_d; exact det_conv (r := bs[k].fr % 18446744073709551616) rfl rfl rfl (wrap_u64 _); apply gw_d; exact det_eq (c' := .int .u64 (bs[k].upto - bs[k].fr)) (det_ar_wrap rfl rfl rfl rfl rfl) (by rw [wrap_u64, hu]); refine gC ?_; refine gPq ?_; refine gO ?_; refine gc_if_dec rfl (fun _ => ?_) (fun _ => ?_); refine gV ?_; refine gM ?_; refine gO ?_; refine gR ?_; refine gT ?_; refine gY ?_; (iterate 2 refine gT ?_); refine gY ?_; refine gT ?_; rotate_left; refine gK ?_; refine gX ?_; refine gV ?_; (iterate 2 refine gM ?_); refine gF ?_; refine gW .here ?_; apply gw_d; exact w_call rfl rfl (hBu _) rfl; refine gO ?_; refine gc_if rfl (fun _ => ?_) (fun _ => ?_); refine gV ?_; refine gM ?_; refine gO ?_; refine gR ?_; refine gY ?_; (iterate 2 refine gT ?_); refine gY ?_; refine gT ?_; rotate_left; refine gK ?_; refine gH ?_; refine gX ?_; refine gG ?_; refine gM ?_; refine gA ?_; refine gM ?_; refine gw_nil ?_; rotate_left)
  all_goals first | (exfalso; omega) | skip
  ·rename_i h6
   rw [if_pos h6] at hW
   refine gi1 (fun _ _ => ?_)
   rw [hstop 7 hW (by decide)]
  ·rename_i h6
   rw [if_neg (by rw [h6]; decide)] at hW
   exact gx_round (k + 1) ⟨hlt, firstE_snoc hI hW⟩ (by omega) kK ⟨rfl, trivial⟩ Sub.tail
 ·obtain rfl : k = bs.length := by omega
  rw [if_neg (by rw [hI]; decide)]
  (refine gI ?_; (iterate 2 refine gZ ?_); refine gJ ?_; refine gX ?_; refine gV ?_; refine gM ?_; apply gw_d; exact w_call rfl rfl (fun w' s' => rk_check w' _ ws (hw.later s')) rfl; refine gM ?_; refine gO ?_; refine gR ?_)
  refine gi1 (fun _ _ => ?_)
  rfl
theorem paid_take {ps : List Scn} {k : Nat} (hk : k < ps.length) (t o : Int) : paidB (ps.take (k + 1)) t o = (paidB (ps.take k) t o || (decide (ps[k].tick = t) && decide (ps[k].op = o))) := by
 rw [List.take_succ_eq_append_getElem hk, paidB_snoc]
theorem rs_done (w : World) (v : Value) (ps : List Scn) (t o : Int) (hl : Sl rScn w w.heap.size v ps) : Ok Tryz.prog 59 [v, .int .i64 t, .int .i64 o].toArray w fun r _ => r = .bool (paidB ps t o) := by
 obtain ⟨A, c, rfl, hc, hm, hcell⟩ := hl.scn
 refine ok_enter Tryz.func59 rfl Tryz.ntmps59 rfl ?_
 (refine gV ?_; refine gM ?_; refine gO ?_; refine gQ ?_; refine gV ?_; refine gM ?_; refine gO ?_; refine gB ?_)
 refine gc_loop (σ := Nat) [8, 9, 10, 11, 14, 15, 16, 17, 18, 19, 20, 21, 22, 23, 24, 25, 26, 27, 28, 29, 6, 12, 13, 7] (fun k => [(7, .int .i64 k)]) (fun _ => []) (fun k => k ≤ ps.length ∧ paidB (ps.take k) t o = false) (fun k => ps.length - k) 0 ⟨Nat.zero_le _, rfl⟩ ⟨rfl, trivial⟩ .nil ?_
 rintro k base ⟨hk, hI⟩
 (refine gQ ?_; refine gV ?_; (iterate 2 refine gM ?_); refine gL ?_; refine gC ?_; refine gO ?_)
 refine gc_if_dec rfl (fun h => ?_) (fun h => ?_)
 ·have hlt : k < ps.length := by omega
  obtain ⟨ad, rfl, hb, hce, _⟩ := hcell k hlt
  have hce0 := hce 0 _ rfl
  have hce1 := hce 1 _ rfl
  have hsn := paid_take hlt t o
  rw [hI, Bool.false_or] at hsn
  focus (refine gK ?_; refine gX ?_; refine gQ ?_; refine gB ?_; refine gV ?_; (iterate 2 refine gM ?_); apply gw_d; exact w_index rfl rfl rfl rfl (by with_reducible exact rfl) (by omega); refine gF ?_; apply gw_d; exact w_load_fld rfl rfl rfl (by assumption) (by assumption); refine gM ?_; refine gC ?_; refine gM ?_; refine gD (fun _ => ?_) (fun _ => ?_); (iterate 2 refine gM ?_); apply gw_d; exact w_index rfl rfl rfl rfl (by with_reducible exact rfl) (by omega); refine gF ?_; apply gw_d; exact w_load_fld rfl rfl rfl (by assumption) (by assumption); refine gM ?_; refine gC ?_; refine gPp ?_; refine gO ?_; refine gc_if_dec rfl (fun _ => ?_) (fun _ => ?_); refine gV ?_; refine gM ?_; refine gO ?_; refine gR ?_; refine gY ?_; (iterate 2 refine gT ?_); refine gY ?_; refine gT ?_; rotate_left; refine gK ?_; refine gH ?_; refine gX ?_; refine gG ?_; refine gM ?_; refine gA ?_; refine gM ?_; refine gw_nil ?_; rotate_left; (iterate 7 refine gU ?_); refine gPq ?_; refine gO ?_; refine gc_if_false rfl ?_; refine gK ?_; refine gH ?_; refine gX ?_; refine gG ?_; refine gM ?_; refine gA ?_; refine gM ?_; refine gw_nil ?_; rotate_left)
  ·rename_i h1 h2
   refine gb1 (fun _ _ => ?_)
   have : paidB ps t o = true := List.any_eq_true.2 ⟨ps[k], List.getElem_mem hlt, by rw [decide_eq_true h1, decide_eq_true h2]; rfl⟩
   rw [this]
  ·rename_i h1 h2
   exact gx_round (k + 1) ⟨hlt, by rw [hsn, decide_eq_false h2]; simp⟩ (by omega) kK ⟨rfl, trivial⟩ .nil
  ·rename_i h1
   exact gx_round (k + 1) ⟨hlt, by rw [hsn, decide_eq_false h1]; simp⟩ (by omega) kK ⟨rfl, trivial⟩ .nil
 ·obtain rfl : k = ps.length := by omega
  rw [List.take_length] at hI
  (refine gI ?_; (iterate 2 refine gZ ?_); refine gJ ?_; refine gX ?_; refine gV ?_; refine gM ?_; refine gO ?_; refine gR ?_)
  refine gb1 (fun _ _ => ?_)
  rw [hI]
theorem rs_last (w : World) (v : Value) (ps : List Scn) (t : Int) (hl : Sl rScn w w.heap.size v ps) : Ok Tryz.prog 61 [v, .int .i64 t].toArray w fun r _ => r = .int .i64 (lastT ps t) := by
 obtain ⟨A, c, rfl, hc, hm, hcell⟩ := hl.scn
 refine ok_enter Tryz.func61 rfl Tryz.ntmps61 rfl ?_
 (refine gV ?_; refine gM ?_; refine gN ?_; refine gM ?_; refine gO ?_; refine gQ ?_; refine gV ?_; refine gM ?_; refine gO ?_; refine gB ?_)
 refine gc_loop (σ := Nat) [7, 8, 9, 10, 13, 14, 15, 16, 17, 18, 19, 20, 21, 22, 23, 24, 5, 11, 12, 6] (fun k => [(6, .int .i64 k), (5, .int .i64 (lastT (ps.take k) t))]) (fun _ => []) (fun k => k ≤ ps.length) (fun k => ps.length - k) 0 (Nat.zero_le _) ⟨rfl, rfl, trivial⟩ .nil ?_
 rintro k base hk
 (refine gQ ?_; refine gV ?_; (iterate 2 refine gM ?_); refine gL ?_; refine gC ?_; refine gO ?_)
 refine gc_if_dec rfl (fun h => ?_) (fun h => ?_)
 ·have hlt : k < ps.length := by omega
  obtain ⟨ad, rfl, hb, hce, _⟩ := hcell k hlt
  have hce0 := hce 0 _ rfl
  have hce3 := hce 3 _ rfl
  have hsn : lastT (ps.take (k + 1)) t = if ps[k].tick = t then ps[k].time else lastT (ps.take k) t := by rw [List.take_succ_eq_append_getElem hlt, lastT_snoc]
  focus (refine gK ?_; refine gX ?_; refine gQ ?_; refine gB ?_; refine gV ?_; (iterate 2 refine gM ?_); apply gw_d; exact w_index rfl rfl rfl rfl (by with_reducible exact rfl) (by omega); refine gF ?_; apply gw_d; exact w_load_fld rfl rfl rfl (by assumption) (by assumption); refine gM ?_; refine gC ?_; refine gO ?_; refine gc_if_dec rfl (fun _ => ?_) (fun _ => ?_); refine gG ?_; (iterate 2 refine gM ?_); apply gw_d; exact w_index rfl rfl rfl rfl (by with_reducible exact rfl) (by omega); refine gF ?_; apply gw_d; exact w_load_fld rfl rfl rfl (by assumption) (by assumption); refine gM ?_; refine gw_nil ?_; refine gH ?_; refine gX ?_; refine gG ?_; refine gM ?_; refine gA ?_; refine gM ?_; refine gw_nil ?_; rotate_left; refine gK ?_; refine gH ?_; refine gX ?_; refine gG ?_; refine gM ?_; refine gA ?_; refine gM ?_; refine gw_nil ?_; rotate_left)
  ·rename_i h1
   rw [if_pos h1] at hsn
   exact gx_round (k + 1) hlt (by omega) kK ⟨rfl, by rw [hsn]; rfl, trivial⟩ .nil
  ·rename_i h1
   rw [if_neg h1] at hsn
   exact gx_round (k + 1) hlt (by omega) kK ⟨rfl, by rw [hsn]; rfl, trivial⟩ .nil
 ·obtain rfl : k = ps.length := by omega
  rw [List.take_length]
  (refine gI ?_; (iterate 2 refine gZ ?_); refine gJ ?_; refine gX ?_; refine gV ?_; (iterate 2 refine gM ?_); refine gO ?_; refine gR ?_)
  refine gi1 (fun _ _ => ?_)
  rfl
theorem rs_early (w : World) (v0 v1 v2 v3 v4 v5 v6 vp : Value) (l : List Opn) (ps : List Scn) (x : Scn) (hl : Sl rOp w w.heap.size v6 l) (hp : Sl rScn w w.heap.size vp ps) (ho : 0 ≤ x.op ∧ x.op < l.length) :
  Ok Tryz.prog 60 [.agg #[v0, v1, v2, v3, v4, v5, v6], vp, .agg #[.int .i64 x.tick, .int .i64 x.op, .int .i64 x.who, .int .i64 x.time]].toArray w fun r _ => r = .bool (!((afterAt l x.op).all fun a => paidB ps x.tick a)) := by
 obtain ⟨o, hoo⟩ : ∃ o : Nat, x.op = (o : Int) := ⟨x.op.toNat, by omega⟩
 have hol : o < l.length := by omega
 obtain ⟨ad, co, rfl, _, hlm, hb, hocell⟩ := hl.at' 5 rfl (by omega)
 obtain ⟨cs, hce, Aa, ca, Au, cu, rfl, hnm, q1, q2⟩ := hocell o hol
 have ha : Sl rInt w w.heap.size (.slice Aa l[o].after.length ca) l[o].after := q1
 obtain ⟨_, _, hv, hac, ham, hacell⟩ := ha.int
 injection hv with e1 e2 e3
 subst e1 e3
 have hce3 := hce 3 _ rfl
 have haft : afterAt l x.op = l[o].after := by
  unfold afterAt
  rw [hoo, Int.toNat_natCast, List.getElem?_eq_getElem hol]
  rfl
 rw [haft]
 obtain ⟨Ap, cp, rfl, _, _, _⟩ := hp.scn
 refine ok_enter Tryz.func60 rfl Tryz.ntmps60 rfl ?_
 (refine gV ?_; refine gw_boxd (v := .agg _) rfl rfl (fun _ => ?_); refine gw_boxd (v := .agg _) rfl rfl (fun _ => ?_); refine gM ?_; refine gO ?_; refine gQ ?_; refine gV ?_; refine gM ?_; refine gO ?_; refine gB ?_)
 refine gc_loopK (σ := Nat) [8, 9, 10, 11, 12, 13, 14, 15, 16, 17, 20, 21, 22, 23, 24, 25, 26, 27, 28, 29, 30, 31, 32, 33, 34, 6, 18, 19, 7] (fun k => [(7, .int .i64 k)]) (fun k => k ≤ l[o].after.length ∧ ((l[o].after.take k).all fun a => paidB ps x.tick a) = true) (fun k => l[o].after.length - k) 0 ⟨Nat.zero_le _, rfl⟩ ⟨rfl, trivial⟩ ?_
 rintro k base ⟨hk, hI⟩
 (refine gQ ?_; refine gV ?_; refine gM ?_; refine gF ?_; refine gW (.there .here) ?_; refine gF ?_; refine gW .here ?_; apply gw_d; exact w_index (m := o) rfl rfl rfl rfl hoo hol; refine gF ?_; apply gw_d; exact w_load_fld rfl rfl rfl (by assumption) (by assumption); refine gL ?_; refine gC ?_; refine gO ?_)
 refine gc_if_dec rfl (fun h => ?_) (fun h => ?_)
 ·have hlt : k < l[o].after.length := by omega
  obtain ⟨ada, rfl, hba, hcea, _⟩ := hacell k hlt
  have hD : ∀ (L : List Res) (w' : World), St w L w' → Ok Tryz.prog 59 [.slice Ap ps.length cp, .int .i64 x.tick, .int .i64 l[o].after[k]].toArray w' fun r _ => r = .bool (paidB ps x.tick l[o].after[k]) := fun L w' s' => rs_done w' _ ps _ _ (hp.later s')
  (refine gK ?_; refine gX ?_; refine gQ ?_; refine gB ?_; refine gQ ?_)
  refine gc_draw 15 (by kernel_rfl) (by kernel_rfl) ?_
  (refine dM ?_; apply gd_d; exact w_field rfl rfl rfl; apply gd_d; exact w_load_box rfl rfl rfl .here rfl; apply gd_d; exact w_field rfl rfl rfl; apply gd_d; exact w_load_box rfl rfl rfl (.there .here) rfl; apply gd_d; exact w_field rfl rfl rfl; apply gd_d; exact w_load_box rfl rfl rfl .here rfl; apply gd_d; exact w_index (m := o) rfl rfl rfl rfl hoo hol; apply gd_d; exact w_field rfl rfl rfl; apply gd_d; exact w_load_fld rfl rfl rfl (by assumption) (by assumption); refine dM ?_; apply gd_d; exact w_index rfl rfl rfl rfl (by with_reducible exact rfl) (by omega); apply gd_d; exact w_load_at rfl rfl rfl (by assumption) (by assumption); apply gd_d; exact w_call rfl rfl (hD _) rfl; apply gd_d; exact det_not_ rfl rfl rfl; refine gd_nil ?_; refine gO ?_)
  refine gc_if rfl (fun h2 => ?_) (fun h2 => ?_)
  ·have hf : (l[o].after.all fun a => paidB ps x.tick a) = false := List.all_eq_false.2 ⟨l[o].after[k], List.getElem_mem hlt, by simpa using h2⟩
   (refine gV ?_; refine gM ?_; refine gO ?_; refine gR ?_; refine gY ?_; (iterate 2 refine gT ?_); refine gY ?_; refine gT ?_)
   refine gb1 (fun _ _ => ?_)
   rw [hf]
   rfl
  ·(refine gK ?_; refine gH ?_; refine gX ?_; refine gG ?_; refine gM ?_; refine gA ?_; refine gM ?_; refine gw_nil ?_)
   exact gx_round (k + 1) ⟨hlt, by rw [List.take_succ_eq_append_getElem hlt, List.all_append, hI]; simpa using h2⟩ (by omega) kK ⟨rfl, trivial⟩ (Sub.all _)
 ·obtain rfl : k = l[o].after.length := by omega
  rw [List.take_length] at hI
  (refine gI ?_; (iterate 2 refine gZ ?_); refine gJ ?_; refine gX ?_; refine gV ?_; refine gM ?_; refine gO ?_; refine gR ?_)
  refine gb1 (fun _ _ => ?_)
  rw [hI]
  rfl
theorem rs_outcome (w : World) (v0 v1 v2 v3 v4 v5 v6 vb vw vp : Value) (l : List Opn) (bs : List Bun) (ws : List Wrk) (ps : List Scn) (x : Scn) (hl : Sl rOp w w.heap.size v6 l) (hb : Sl rBun w w.heap.size vb bs) (hw : Sl rWrk w w.heap.size vw ws) (hp : Sl rScn w w.heap.size vp ps) :
  Ok Tryz.prog 46 [.agg #[v0, v1, v2, v3, v4, v5, v6], vb, vw, vp, .agg #[.int .i64 x.tick, .int .i64 x.op, .int .i64 x.who, .int .i64 x.time]].toArray w fun r _ => r = .int .i64 (outE l ws (ticks bs) ps x) := by
 have hbt : ((bs.take bs.length).any fun y => decide (y.tick = x.tick)) = hasB (ticks bs) x.tick := by
  rw [List.take_length]
  unfold hasB ticks
  rw [List.any_map]
  rfl
 have hl' := hl
 have hw' := hw
 obtain ⟨A, c, rfl, hc, hm⟩ := len_small hl
 obtain ⟨Ab, cb, rfl, hbc, hbm⟩ := len_small hb
 obtain ⟨Aw, cw, rfl, hwc, hwm, hwcell⟩ := hw.wrk
 have hBu : ∀ (L : List Res) (w' : World), St w L w' → Ok Tryz.prog 56 [.slice Ab bs.length cb, .int .i64 (bs.length : Int), .int .i64 x.tick].toArray w' fun r _ => r = .bool (hasB (ticks bs) x.tick) := fun L w' s' => by
  have := rs_bundle w' _ bs bs.length x.tick (hb.later s') (Nat.le_refl _)
  rw [hbt] at this
  exact this
 by_cases hK : hasB (ticks bs) x.tick = true ∧ (0 ≤ x.op ∧ x.op < l.length ∧ 0 ≤ x.who ∧ x.who < ws.length ∧ 0 ≤ x.time ∧ x.time ≤ 1073741824)
 ·obtain ⟨hT, hK⟩ := hK
  have hE : outE l ws (ticks bs) ps x = if canAt ws x.who (machAt l x.op) = false then 4 else if paidB ps x.tick x.op = true then 2 else if (afterAt l x.op).all (fun a => paidB ps x.tick a) = false then 5 else if x.time < lastT ps x.tick then 6 else 1 := by
   unfold outE judgeE knownB
   rw [if_neg (by rw [hT]; decide), if_neg (by rw [decide_eq_true hK]; decide)]
  rw [hE]
  rw [hT] at hBu
  obtain ⟨o, ho⟩ : ∃ o : Nat, x.op = (o : Int) := ⟨x.op.toNat, by omega⟩
  obtain ⟨m, hmw⟩ : ∃ m : Nat, x.who = (m : Int) := ⟨x.who.toNat, by omega⟩
  have hol : o < l.length := by omega
  have hml : m < ws.length := by omega
  obtain ⟨ad, _, hv, _, _, hbl, hocell⟩ := hl.at' 5 rfl (by omega)
  injection hv with e1 e2 e3
  subst e1 e3
  obtain ⟨cs, hce, Aa, ca, Au, cu, rfl, hnm, q1, q2⟩ := hocell o hol
  have hce1 := hce 1 _ rfl
  obtain ⟨ad2, Am, cm, rfl, hb2, hce2, hnm2, hms⟩ := hwcell m hml
  have hcan : canAt ws x.who (machAt l x.op) = hasB ws[m].machines l[o].machine := by
   unfold canAt machAt
   rw [ho, hmw, Int.toNat_natCast, Int.toNat_natCast, List.getElem?_eq_getElem hol, List.getElem?_eq_getElem hml]
   rfl
  rw [hcan]
  have hCan : ∀ (L : List Res) (w' : World), St w L w' → Ok Tryz.prog 58 [.agg #[.string ws[m].name, .slice Am ws[m].machines.length cm], .int .i64 l[o].machine].toArray w' fun x _ => x = .bool (hasB ws[m].machines l[o].machine) := fun L w' s => rk_can w' ws[m].name Am l[o].machine cm ws[m].machines (hms.later s)
  have hDn : ∀ (L : List Res) (w' : World), St w L w' → Ok Tryz.prog 59 [vp, .int .i64 x.tick, .int .i64 x.op].toArray w' fun r _ => r = .bool (paidB ps x.tick x.op) := fun L w' s' => rs_done w' _ ps _ _ (hp.later s')
  have hEa : ∀ (L : List Res) (w' : World), St w L w' → Ok Tryz.prog 60 [.agg #[v0, v1, v2, v3, v4, v5, .slice (some ad) l.length c], vp, .agg #[.int .i64 x.tick, .int .i64 x.op, .int .i64 x.who, .int .i64 x.time]].toArray w' fun r _ => r = .bool (!((afterAt l x.op).all fun a => paidB ps x.tick a)) := fun L w' s' => rs_early w' v0 v1 v2 v3 v4 v5 _ vp l ps x (hl'.later s') (hp.later s') ⟨hK.1, hK.2.1⟩
  have hLa : ∀ (L : List Res) (w' : World), St w L w' → Ok Tryz.prog 61 [vp, .int .i64 x.tick].toArray w' fun r _ => r = .int .i64 (lastT ps x.tick) := fun L w' s' => rs_last w' _ ps _ (hp.later s')
  refine ok_enter Tryz.func46 rfl Tryz.ntmps46 rfl ?_
  (refine gV ?_; refine gw_boxd (v := .agg _) rfl rfl (fun _ => ?_); refine gw_boxd (v := .agg _) rfl rfl (fun _ => ?_); refine gM ?_; refine gO ?_; refine gQ ?_; refine gV ?_; (iterate 2 refine gM ?_); refine gL ?_; refine gF ?_; refine gW .here ?_)
  focus (apply gw_d; exact w_call rfl rfl (hBu _) rfl; apply gw_d; exact det_not_ rfl rfl rfl; refine gM ?_; refine gF ?_; refine gW .here ?_; refine gC ?_; refine gPq ?_; refine gM ?_; refine gD (fun _ => ?_) (fun _ => ?_); (iterate 6 refine gU ?_); refine gPp ?_; refine gM ?_; (iterate 3 refine gU ?_); refine gPp ?_; refine gM ?_; (iterate 5 refine gU ?_); refine gPp ?_; refine gM ?_; (iterate 3 refine gU ?_); refine gPp ?_; refine gM ?_; (iterate 3 refine gU ?_); refine gPp ?_; refine gO ?_; refine gc_if_true rfl ?_; refine gV ?_; refine gM ?_; refine gO ?_; refine gR ?_; refine gT ?_; rotate_left; refine gF ?_; refine gW .here ?_; refine gF ?_; refine gW (.there .here) ?_; refine gL ?_; refine gC ?_; refine gPq ?_; refine gM ?_; refine gD (fun _ => ?_) (fun _ => ?_); (iterate 3 refine gU ?_); refine gPp ?_; refine gM ?_; (iterate 5 refine gU ?_); refine gPp ?_; refine gM ?_; (iterate 3 refine gU ?_); refine gPp ?_; refine gM ?_; (iterate 3 refine gU ?_); refine gPp ?_; refine gO ?_; refine gc_if_true rfl ?_; refine gV ?_; refine gM ?_; refine gO ?_; refine gR ?_; refine gT ?_; rotate_left; refine gF ?_; refine gW .here ?_; refine gC ?_; refine gPq ?_; refine gM ?_; refine gD (fun _ => ?_) (fun _ => ?_); (iterate 5 refine gU ?_); refine gPp ?_; refine gM ?_; (iterate 3 refine gU ?_); refine gPp ?_; refine gM ?_; (iterate 3 refine gU ?_); refine gPp ?_; refine gO ?_; refine gc_if_true rfl ?_; refine gV ?_; refine gM ?_; refine gO ?_; refine gR ?_; refine gT ?_; rotate_left; refine gF ?_; refine gW .here ?_; refine gM ?_; refine gL ?_; refine gC ?_; refine gPq ?_; refine gM ?_; refine gD (fun _ => ?_) (fun _ => ?_); (iterate 3 refine gU ?_); refine gPp ?_; refine gM ?_; (iterate 3 refine gU ?_); refine gPp ?_; refine gO ?_; refine gc_if_true rfl ?_; refine gV ?_; refine gM ?_; refine gO ?_; refine gR ?_; refine gT ?_; rotate_left; refine gF ?_; refine gW .here ?_; refine gC ?_; refine gPq ?_; refine gM ?_; refine gD (fun _ => ?_) (fun _ => ?_); (iterate 3 refine gU ?_); refine gPp ?_; refine gO ?_; refine gc_if_true rfl ?_; refine gV ?_; refine gM ?_; refine gO ?_; refine gR ?_; refine gT ?_; rotate_left; refine gF ?_; refine gW .here ?_; refine gC ?_; refine gPq ?_; refine gO ?_; refine gc_if_dec rfl (fun _ => ?_) (fun _ => ?_); refine gV ?_; refine gM ?_; refine gO ?_; refine gR ?_; refine gT ?_; rotate_left; refine gK ?_; refine gX ?_; refine gQ ?_; refine gQ ?_; rotate_left)
  all_goals first | (exfalso; omega) | skip
  refine gc_draw 14 (by kernel_rfl) (by kernel_rfl) ?_
  (refine dM ?_; apply gd_d; exact w_field rfl rfl rfl; apply gd_d; exact w_load_box rfl rfl rfl .here rfl; apply gd_d; exact w_index (m := m) rfl rfl rfl rfl hmw hml; apply gd_d; exact w_load_elem rfl rfl rfl (by assumption) (by assumption) (by rfl); apply gd_d; exact w_field rfl rfl rfl; apply gd_d; exact w_load_box rfl rfl rfl (.there .here) rfl; apply gd_d; exact w_field rfl rfl rfl; apply gd_d; exact w_load_box rfl rfl rfl .here rfl; apply gd_d; exact w_index (m := o) rfl rfl rfl rfl ho hol; apply gd_d; exact w_field rfl rfl rfl; apply gd_d; exact w_load_fld rfl rfl rfl (by assumption) (by assumption); apply gd_d; exact w_call rfl rfl (hCan _) rfl; apply gd_d; exact det_not_ rfl rfl rfl; refine gd_nil ?_; refine gO ?_)
  cases h1 : hasB ws[m].machines l[o].machine with
  | false =>
   refine gc_if_true rfl ?_
   (refine gV ?_; refine gM ?_; refine gO ?_; refine gR ?_; refine gT ?_)
   refine gi1 (fun _ _ => ?_)
   rfl
  | true =>
   refine gc_if_false rfl ?_
   rw [if_neg (by decide)]
   (refine gK ?_; refine gX ?_; refine gQ ?_; refine gV ?_; refine gM ?_; refine gF ?_; refine gW .here ?_; refine gF ?_; refine gW .here ?_; apply gw_d; exact w_call rfl rfl (hDn _) rfl; refine gO ?_)
   cases h2 : paidB ps x.tick x.op with
   | true =>
    refine gc_if_true rfl ?_
    (refine gV ?_; refine gM ?_; refine gO ?_; refine gR ?_; refine gT ?_)
    refine gi1 (fun _ _ => ?_)
    rfl
   | false =>
    refine gc_if_false rfl ?_
    rw [if_neg (by decide)]
    (refine gK ?_; refine gX ?_; refine gQ ?_; refine gV ?_; apply gw_d; exact w_load_boxN rfl rfl rfl (.there .here) rfl; refine gM ?_; apply gw_d; exact w_load_boxN rfl rfl rfl .here rfl; apply gw_d; exact w_call rfl rfl (hEa _) rfl; refine gO ?_)
    cases h3 : (afterAt l x.op).all fun a => paidB ps x.tick a with
    | false =>
     refine gc_if_true rfl ?_
     (refine gV ?_; refine gM ?_; refine gO ?_; refine gR ?_; refine gT ?_)
     refine gi1 (fun _ _ => ?_)
     rfl
    | true =>
     refine gc_if_false rfl ?_
     rw [if_neg (by decide)]
     (refine gK ?_; refine gX ?_; refine gQ ?_; refine gQ ?_)
     refine gc_draw 7 (by kernel_rfl) (by kernel_rfl) ?_
     (apply gd_d; exact w_field rfl rfl rfl; apply gd_d; exact w_load_box rfl rfl rfl .here rfl; refine dM ?_; apply gd_d; exact w_field rfl rfl rfl; apply gd_d; exact w_load_box rfl rfl rfl .here rfl; apply gd_d; exact w_call rfl rfl (hLa _) rfl; apply gd_d; exact det_cmp rfl rfl rfl rfl rfl; refine gd_nil ?_; refine gO ?_)
     refine gc_if_dec rfl (fun h4 => ?_) (fun h4 => ?_)
     ·(refine gV ?_; refine gM ?_; refine gO ?_; refine gR ?_; refine gT ?_)
      refine gi1 (fun _ _ => ?_)
      rw [if_pos h4]
     ·(refine gK ?_; refine gX ?_; refine gV ?_; refine gM ?_; refine gO ?_; refine gR ?_)
      refine gi1 (fun _ _ => ?_)
      rw [if_neg h4]
 ·have hE : outE l ws (ticks bs) ps x = 3 := by
   unfold outE
   cases hT : hasB (ticks bs) x.tick with
   | false => exact if_pos rfl
   | true =>
    rw [if_neg (by decide)]
    unfold judgeE
    rw [if_pos]
    unfold knownB
    exact decide_eq_false fun h => hK ⟨hT, h⟩
  rw [hE]
  cases hT : hasB (ticks bs) x.tick with
  | false =>
   rw [hT] at hBu
   refine ok_enter Tryz.func46 rfl Tryz.ntmps46 rfl ?_
   (refine gV ?_; refine gw_boxd (v := .agg _) rfl rfl (fun _ => ?_); refine gw_boxd (v := .agg _) rfl rfl (fun _ => ?_); refine gM ?_; refine gO ?_; refine gQ ?_; refine gV ?_; (iterate 2 refine gM ?_); refine gL ?_; refine gF ?_; refine gW .here ?_)
   (apply gw_d; exact w_call rfl rfl (hBu _) rfl; apply gw_d; exact det_not_ rfl rfl rfl; refine gM ?_; (iterate 3 refine gU ?_); refine gPp ?_; refine gM ?_; (iterate 6 refine gU ?_); refine gPp ?_; refine gM ?_; (iterate 3 refine gU ?_); refine gPp ?_; refine gM ?_; (iterate 5 refine gU ?_); refine gPp ?_; refine gM ?_; (iterate 3 refine gU ?_); refine gPp ?_; refine gM ?_; (iterate 3 refine gU ?_); refine gPp ?_; refine gO ?_; refine gc_if_true rfl ?_; refine gV ?_; refine gM ?_; refine gO ?_; refine gR ?_; refine gT ?_)
   refine gi1 (fun _ _ => ?_)
   rfl
  | true =>
   rw [hT] at hBu
   have hK' : ¬ (0 ≤ x.op ∧ x.op < l.length ∧ 0 ≤ x.who ∧ x.who < ws.length ∧ 0 ≤ x.time ∧ x.time ≤ 1073741824) := fun h => hK ⟨hT, h⟩
   refine ok_enter Tryz.func46 rfl Tryz.ntmps46 rfl ?_
   (refine gV ?_; refine gw_boxd (v := .agg _) rfl rfl (fun _ => ?_); refine gw_boxd (v := .agg _) rfl rfl (fun _ => ?_); refine gM ?_; refine gO ?_; refine gQ ?_; refine gV ?_; (iterate 2 refine gM ?_); refine gL ?_; refine gF ?_; refine gW .here ?_)
   focus (apply gw_d; exact w_call rfl rfl (hBu _) rfl; apply gw_d; exact det_not_ rfl rfl rfl; refine gM ?_; refine gF ?_; refine gW .here ?_; refine gC ?_; refine gPq ?_; refine gM ?_; refine gD (fun _ => ?_) (fun _ => ?_); (iterate 6 refine gU ?_); refine gPp ?_; refine gM ?_; (iterate 3 refine gU ?_); refine gPp ?_; refine gM ?_; (iterate 5 refine gU ?_); refine gPp ?_; refine gM ?_; (iterate 3 refine gU ?_); refine gPp ?_; refine gM ?_; (iterate 3 refine gU ?_); refine gPp ?_; refine gO ?_; refine gc_if_true rfl ?_; refine gV ?_; refine gM ?_; refine gO ?_; refine gR ?_; refine gT ?_; rotate_left; refine gF ?_; refine gW .here ?_; refine gF ?_; refine gW (.there .here) ?_; refine gL ?_; refine gC ?_; refine gPq ?_; refine gM ?_; refine gD (fun _ => ?_) (fun _ => ?_); (iterate 3 refine gU ?_); refine gPp ?_; refine gM ?_; (iterate 5 refine gU ?_); refine gPp ?_; refine gM ?_; (iterate 3 refine gU ?_); refine gPp ?_; refine gM ?_; (iterate 3 refine gU ?_); refine gPp ?_; refine gO ?_; refine gc_if_true rfl ?_; refine gV ?_; refine gM ?_; refine gO ?_; refine gR ?_; refine gT ?_; rotate_left; refine gF ?_; refine gW .here ?_; refine gC ?_; refine gPq ?_; refine gM ?_; refine gD (fun _ => ?_) (fun _ => ?_); (iterate 5 refine gU ?_); refine gPp ?_; refine gM ?_; (iterate 3 refine gU ?_); refine gPp ?_; refine gM ?_; (iterate 3 refine gU ?_); refine gPp ?_; refine gO ?_; refine gc_if_true rfl ?_; refine gV ?_; refine gM ?_; refine gO ?_; refine gR ?_; refine gT ?_; rotate_left; refine gF ?_; refine gW .here ?_; refine gM ?_; refine gL ?_; refine gC ?_; refine gPq ?_; refine gM ?_; refine gD (fun _ => ?_) (fun _ => ?_); (iterate 3 refine gU ?_); refine gPp ?_; refine gM ?_; (iterate 3 refine gU ?_); refine gPp ?_; refine gO ?_; refine gc_if_true rfl ?_; refine gV ?_; refine gM ?_; refine gO ?_; refine gR ?_; refine gT ?_; rotate_left; refine gF ?_; refine gW .here ?_; refine gC ?_; refine gPq ?_; refine gM ?_; refine gD (fun _ => ?_) (fun _ => ?_); (iterate 3 refine gU ?_); refine gPp ?_; refine gO ?_; refine gc_if_true rfl ?_; refine gV ?_; refine gM ?_; refine gO ?_; refine gR ?_; refine gT ?_; rotate_left; refine gF ?_; refine gW .here ?_; refine gC ?_; refine gPq ?_; refine gO ?_; refine gc_if_dec rfl (fun _ => ?_) (fun _ => ?_); refine gV ?_; refine gM ?_; refine gO ?_; refine gR ?_; refine gT ?_; rotate_left; refine gK ?_; refine gX ?_; refine gQ ?_; refine gQ ?_; rotate_left)
   all_goals first | (exfalso; omega) | skip
   all_goals (refine gi1 (fun _ _ => ?_); rfl)
end Go.Proofs.YtckhibfbdnoigaaGreatDoor
