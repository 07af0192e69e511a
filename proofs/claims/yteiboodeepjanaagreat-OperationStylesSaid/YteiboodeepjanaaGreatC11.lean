/- Contracts: grading by a multiple of 0. -/
import Derived.Test.YteiboodeepjanaaGreatC10
namespace Go.Proofs.YteiboodeepjanaaGreat
open Go.RowKit
set_option maxRecDepth 100000
set_option maxHeartbeats 4000000

theorem within_ok (w : World) (n b : Int) (hb : 0 ≤ b ∧ b ≤ 100000) : Ok Tryz.prog 69 [.int .i64 n, .int .i64 b].toArray w fun r _ => r = .bool (decide (-b ≤ n ∧ n ≤ b)) := by
  refine ok_enter Tryz.func69 rfl Tryz.ntmps69 rfl ?_
  focus (refine gc_seq ?_; refine gc_region ?_; apply gw_d; exact det_m rfl rfl (by conv => (lhs; whnf)); refine gw_nil ?_; refine gx_next ?_; refine gc_seq ?_; refine gc_region ?_; apply gw_d; exact det_m rfl rfl (by conv => (lhs; whnf)); apply gw_d; exact det_neg rfl rfl rfl (wrap_in (by omega)); apply gw_d; exact det_m rfl rfl (by conv => (lhs; whnf)); apply gw_d; exact det_cmp rfl rfl rfl rfl rfl; apply gw_d; exact det_m rfl rfl (by conv => (lhs; whnf)); refine gw_guard_dec rfl rfl (fun _ => ?_) (fun _ => ?_); apply gw_d; exact det_m rfl rfl (by conv => (lhs; whnf)); apply gw_d; exact det_m rfl rfl (by conv => (lhs; whnf)); apply gw_d; exact det_cmp rfl rfl rfl rfl rfl; apply gw_d; exact det_pick_t (v := .bool _) rfl rfl rfl rfl; apply gw_d; exact det_m rfl rfl (by conv => (lhs; whnf)); refine gw_nil ?_; refine gx_next ?_; refine gc_ret ?_; rotate_left; apply gw_d; exact det_not rfl; apply gw_d; exact det_not rfl; apply gw_d; exact det_not rfl; apply gw_d; exact det_pick_f (v := .bool _) rfl rfl rfl rfl; apply gw_d; exact det_m rfl rfl (by conv => (lhs; whnf)); refine gw_nil ?_; refine gx_next ?_; refine gc_ret ?_; rotate_left)
  all_goals (refine gx_ret1 (v := .bool _) rfl rfl (fun _ _ => ?_); congr 1; symm; first | (apply decide_eq_true; omega) | (apply decide_eq_false; omega) | (congr 1; apply propext; constructor <;> omega))
theorem rounded0_ok (w : World) (a b : Int) (ha : a = 0) (hb : 1 ≤ b ∧ b ≤ 1000) : Ok Tryz.prog 90 [.int .i64 a, .int .i64 b].toArray w fun r _ => r = .int .i64 0 := by
  subst ha
  refine ok_enter Tryz.func90 rfl Tryz.ntmps90 rfl ?_
  focus (refine gc_seq ?_; refine gc_region ?_; apply gw_d; exact det_m rfl rfl (by conv => (lhs; whnf)); refine gw_nil ?_; refine gx_next ?_; refine gc_seq ?_; refine gc_seq ?_; refine gc_region ?_; apply gw_d; exact det_m rfl rfl (by conv => (lhs; whnf)); apply gw_d; exact det_cmp rfl rfl rfl rfl rfl; refine gw_nil ?_; refine gx_next ?_)
  refine gc_if_dec rfl (fun h => absurd h (by decide)) (fun _ => ?_)
  focus (refine gc_skip ?_; refine gx_next ?_; refine gc_seq ?_; refine gc_region ?_; apply gw_d; exact det_m rfl rfl (by conv => (lhs; whnf)); apply gw_d; exact det_ar rfl rfl rfl rfl rfl (by omega); apply gw_d; exact det_m rfl rfl (by conv => (lhs; whnf)); apply gw_d; exact det_ar rfl rfl rfl rfl rfl (by omega); apply gw_d; exact det_m rfl rfl (by conv => (lhs; whnf)); apply gw_d; exact det_ar rfl rfl rfl rfl rfl (by omega); apply gw_d; exact det_quo rfl rfl rfl rfl (by omega) (by omega) (by omega); apply gw_d; exact det_m rfl rfl (by conv => (lhs; whnf)); refine gw_nil ?_; refine gx_next ?_; refine gc_ret ?_)
  refine gx_ret1 (v := .int _ _) rfl rfl (fun _ _ => ?_)
  rw [Int.ediv_eq_zero_of_lt (by omega) (by omega)]
theorem corner0_ok (w : World) (A : Option Addr) (c : Nat) (l : List (Int × Int)) (i : Int) (hl : Sl rSpot w w.heap.size (.slice A l.length c) l) (h0 : 0 < l.length) (hi : 0 ≤ i ∧ i ≤ 1000) :
    Ok Tryz.prog 71 [.agg #[.slice A l.length c, .int .i64 0], .int .i64 i].toArray w fun r _ => r = .agg #[.int .i64 0, .int .i64 0] := by
  obtain ⟨ad, c', hv, hc, hm, hb, hcell⟩ := hl.spot' h0
  injection hv with e1 e2 e3
  subst e1 e3
  obtain ⟨i, rfl⟩ : ∃ j : Nat, i = j := ⟨i.toNat, by omega⟩
  have hp : i % l.length < l.length := Nat.mod_lt _ h0
  have hce := hcell _ hp
  refine ok_enter Tryz.func71 rfl Tryz.ntmps71 rfl ?_
  focus (refine gc_seq ?_; refine gc_region ?_; refine gw_boxd (v := .agg _) rfl rfl (fun _ => ?_); refine w_alloc rfl (fun _ => ?_); refine gw_nil ?_; refine gx_next ?_; refine gc_seq ?_)
  refine gc_block_draw Nat 10 (fun i => ([[], [0], [], [], [3], [3, 4], [2, 3, 4, 5], [0, 1, 2, 3, 4, 5, 6], [0, 1, 2, 3, 4, 5, 6, 7], []] : List (List Nat)).getD i []) rfl (by kernel_rfl) ?_
  focus (apply gb_d; (intro γ; exact w_field rfl rfl rfl); (intros; rfl); (intros; rfl); apply gb_d; (intro γ; exact w_load_box rfl rfl rfl (.there .here) rfl); (intros; rfl); (intros; rfl); apply gb_d; (intro γ; exact det_m rfl rfl (by conv => (lhs; whnf))); (intros; rfl); (intros; rfl); apply gb_d; (intro γ; exact w_field rfl rfl rfl); (intros; rfl); (intros; rfl); apply gb_d; (intro γ; exact w_load_box rfl rfl rfl (.there .here) rfl); (intros; rfl); (intros; rfl); apply gb_d; (intro γ; exact w_len rfl rfl rfl); (intros; rfl); (intros; rfl); apply gb_d; (intro γ; exact det_rem rfl rfl rfl rfl (by omega) (by omega)); (intros; rfl); (intros; rfl); apply gb_d; (intro γ; exact w_index rfl rfl rfl rfl (by with_reducible exact castR _ _) (by omega)); (intros; rfl); (intros; rfl); apply gb_d; (intro γ; exact w_load_elem rfl rfl rfl (by assumption) (by assumption) (by rfl)); (intros; rfl); (intros; rfl))
  refine gb_alloc id id (fun _ => rfl) (fun _ => rfl) ?_
  refine GB.nil (fun β => ?_)
  focus (refine w_store_all rfl rfl rfl rfl rfl .here rfl ?_; refine gw_nil ?_; refine gx_next ?_; refine gc_seq ?_; refine gc_region ?_; apply gw_d; exact w_field rfl rfl rfl; apply gw_d; exact w_load_box rfl rfl rfl (.there (.there .here)) rfl; apply gw_d; exact w_field rfl rfl rfl; apply gw_d; exact w_load_box rfl rfl rfl .here rfl; apply gw_d; exact det_ar rfl rfl rfl rfl rfl (by omega); apply gw_d; exact w_field rfl rfl rfl; apply gw_d; exact w_load_box rfl rfl rfl (.there (.there .here)) rfl; apply gw_d; exact w_field rfl rfl rfl; apply gw_d; exact w_load_box rfl rfl rfl .here rfl; apply gw_d; exact det_ar rfl rfl rfl rfl rfl (by omega); apply gw_d; exact w_build (cells := #[.int .i64 (0 * (gS l (i % l.length)).1), .int .i64 (0 * (gS l (i % l.length)).2)]) rfl rfl (by rfl); refine w_store_all rfl rfl rfl rfl rfl (.there .here) rfl ?_; refine gw_nil ?_; refine gx_next ?_; refine gc_ret ?_)
  refine gx_retc rfl rfl .here rfl fun w s => ?_
  simp

/-! ### A polyline that is moved by nothing -/
def rowS (l : List (Int × Int)) (k : Nat) : Array Value := ((l.take k).flatMap encS ++ List.replicate ((l.length - k) * 2) (Value.int .i64 0)).toArray
theorem rowS_zero (l : List (Int × Int)) : madeCells (Value.agg #[Value.int .i64 0, Value.int .i64 0]).cells (l.length * 2) = rowS l 0 := by
  unfold madeCells rowS
  apply Array.ext'
  simp only [List.take_zero, List.flatMap_nil, List.nil_append, Nat.sub_zero]
  apply List.ext_getElem
  · simp
  · intro i h1 h2
    simp only [Array.toList_map, Array.toList_range, List.getElem_map, List.getElem_range, List.getElem_replicate]
    show (#[Value.int .i64 0, Value.int .i64 0])[i % 2]! = _
    have : i % 2 = 0 ∨ i % 2 = 1 := by omega
    rcases this with h | h <;> rw [h] <;> rfl
theorem rowS_size (l : List (Int × Int)) {k : Nat} (hk : k ≤ l.length) : (rowS l k).size = l.length * 2 := by
  unfold rowS
  simp only [List.size_toArray, List.length_append, encS_len, List.length_take, List.length_replicate]
  omega
theorem rowS_set {l : List (Int × Int)} {k : Nat} (hk : k < l.length) {x y : Int} (hx : x = (gS l k).1) (hy : y = (gS l k).2) :
    ((rowS l k).toList.take (k * 2) ++ [Value.int .i64 x, Value.int .i64 y] ++ (rowS l k).toList.drop (k * 2 + 2)).toArray = rowS l (k + 1) := by
  subst hx hy
  have hF : ((l.take k).flatMap encS).length = k * 2 := by rw [encS_len, List.length_take]; omega
  unfold rowS
  simp only
  rw [List.take_left' hF, List.drop_append, hF, List.drop_eq_nil_of_le (by rw [hF]; omega), List.nil_append, List.drop_replicate, List.take_succ_eq_append_getElem hk, List.flatMap_append]
  congr 1
  rw [gS_get hk]
  have : (l.length - k) * 2 - (k * 2 + 2 - k * 2) = (l.length - (k + 1)) * 2 := by omega
  rw [this]
  simp [encS]
theorem rowS_all (l : List (Int × Int)) : rowS l l.length = (l.flatMap encS).toArray := by
  unfold rowS
  simp

theorem moved0_ok (w : World) (A : Option Addr) (c : Nat) (l : List (Int × Int)) (hl : Sl rSpot w w.heap.size (.slice A l.length c) l) (h2 : 2 ≤ l.length) (h40 : l.length ≤ 40) :
    OkM Tryz.prog 72 [.slice A l.length c, .agg #[.int .i64 0, .int .i64 0], .agg #[.int .i64 0, .int .i64 0]].toArray w (fun b => .slice (some ⟨b, 0, none⟩) l.length l.length) (fun b => [Box b 69 (l.flatMap encS).toArray]) := by
  obtain ⟨ad, c', hv, hc, hm, hb, hcell⟩ := hl.spot' (by omega)
  injection hv with e1 e2 e3
  subst e1 e3
  unfold OkM
  refine ok_enter Tryz.func72 rfl Tryz.ntmps72 rfl ?_
  focus (refine gc_seq ?_; refine gc_region ?_; refine gw_boxd (v := .agg _) rfl rfl (fun _ => ?_); refine gw_boxd (v := .agg _) rfl rfl (fun _ => ?_); apply gw_d; exact det_m rfl rfl (by conv => (lhs; whnf)); refine gw_nil ?_; refine gx_next ?_; refine gc_seq ?_; refine gc_region ?_; apply gw_d; exact det_m rfl rfl (by conv => (lhs; whnf)); apply gw_d; exact w_len rfl rfl rfl; apply gw_d; exact det_ar rfl rfl rfl rfl rfl (by omega); apply gw_d; exact det_m rfl rfl (by conv => (lhs; whnf)); refine gw_nil ?_; refine gx_next ?_; refine gc_seq ?_; refine gc_region ?_; apply gw_d; exact det_m rfl rfl (by conv => (lhs; whnf)); apply gw_d; exact w_len rfl rfl rfl)
  rename_i ba bb
  refine gw_makeN (n := l.length) rfl rfl rfl rfl rfl (by omega) (by omega) (fun b => ?_)
  rw [rowS_zero]
  focus (apply gw_d; exact det_m rfl rfl (by conv => (lhs; whnf)); refine gw_nil ?_; refine gx_next ?_; refine gc_seq ?_; refine gc_seq ?_; refine gc_region ?_; apply gw_d; exact det_m rfl rfl (by conv => (lhs; whnf)); apply gw_d; exact w_len rfl rfl rfl; apply gw_d; exact det_m rfl rfl (by conv => (lhs; whnf)); refine gw_nil ?_; refine gx_next ?_; refine gc_block ?_)
  refine gc_loop (σ := Nat) [20, 21, 22, 23, 10, 9, 24, 25, 26, 27, 28, 29, 30, 31, 32, 33, 34, 35, 36, 37, 38, 39, 40, 41, 42, 43, 44, 45, 46, 47, 48, 49, 50, 51, 52, 53, 54, 55, 56, 57, 58, 59, 60, 19] (fun k => [(19, .int .i64 k)]) (fun k => [Box b 69 (rowS l k), Box bb 69 #[.int .i64 0, .int .i64 0], Box ba 69 #[.int .i64 0, .int .i64 0]]) (fun k => k ≤ l.length) (fun k => l.length - k) 0 (Nat.zero_le _) ⟨rfl, trivial⟩ (.cons .here (.cons .here (.cons .here .nil))) ?_
  rintro k base hk
  focus (refine gc_seq ?_; refine gc_region ?_; apply gw_d; exact det_cmp rfl rfl rfl rfl rfl; refine gw_nil ?_; refine gx_next ?_; refine gc_seq ?_)
  refine gc_if_dec rfl (fun h => ?_) (fun h => ?_)
  · have hlt : k < l.length := by omega
    have hce := hcell k hlt
    have hin := hl.spots_in (gS l k) (by rw [gS_get hlt]; exact List.getElem_mem hlt)
    unfold inI64 at hin
    focus (refine gc_skip ?_; refine gx_next ?_; refine gc_seq ?_; refine gc_block ?_; refine gc_seq ?_; refine gc_region ?_; apply gw_d; exact det_m rfl rfl (by conv => (lhs; whnf)); apply gw_d; exact w_index rfl rfl rfl rfl (by with_reducible exact rfl) (by omega); apply gw_d; exact w_load_elem rfl rfl rfl (by assumption) (by assumption) (by rfl); refine w_alloc rfl (fun _ => ?_); apply gw_d; exact det_m rfl rfl (by conv => (lhs; whnf)); refine w_store_all rfl rfl rfl rfl rfl .here rfl ?_; refine gw_nil ?_; refine gx_next ?_)
    refine gc_draw 35 (by kernel_rfl) (by kernel_rfl) ?_
    focus (apply gd_d; exact det_m rfl rfl (by conv => (lhs; whnf)); apply gd_d; exact det_m rfl rfl (by conv => (lhs; whnf)); apply gd_d; exact w_field rfl rfl rfl; apply gd_d; exact w_load_box rfl rfl rfl .here rfl; apply gd_d; exact det_m rfl rfl (by conv => (lhs; whnf)); apply gd_d; exact det_m rfl rfl (by conv => (lhs; whnf)); apply gd_d; exact det_ar rfl rfl rfl rfl rfl (by omega); apply gd_d; exact w_field rfl rfl rfl; apply gd_d; exact w_load_box rfl rfl rfl (.there (.there (.there .here))) rfl; apply gd_d; exact det_ar rfl rfl rfl rfl rfl (by omega); apply gd_d; exact det_m rfl rfl (by conv => (lhs; whnf)); apply gd_d; exact w_field rfl rfl rfl; apply gd_d; exact w_load_box rfl rfl rfl (.there (.there .here)) rfl; apply gd_d; exact det_ar rfl rfl rfl rfl rfl (by omega); apply gd_d; exact det_ar rfl rfl rfl rfl rfl (by omega); apply gd_d; exact det_m rfl rfl (by conv => (lhs; whnf)); apply gd_d; exact w_call rfl rfl (fun w s => rounded0_ok w _ _ (by omega) (by omega)) rfl; apply gd_d; exact det_ar rfl rfl rfl rfl rfl (by omega); apply gd_d; exact w_field rfl rfl rfl; apply gd_d; exact w_load_box rfl rfl rfl .here rfl; apply gd_d; exact det_m rfl rfl (by conv => (lhs; whnf)); apply gd_d; exact det_m rfl rfl (by conv => (lhs; whnf)); apply gd_d; exact det_ar rfl rfl rfl rfl rfl (by omega); apply gd_d; exact w_field rfl rfl rfl; apply gd_d; exact w_load_box rfl rfl rfl (.there (.there (.there .here))) rfl; apply gd_d; exact det_ar rfl rfl rfl rfl rfl (by omega); apply gd_d; exact det_m rfl rfl (by conv => (lhs; whnf)); apply gd_d; exact w_field rfl rfl rfl; apply gd_d; exact w_load_box rfl rfl rfl (.there (.there .here)) rfl; apply gd_d; exact det_ar rfl rfl rfl rfl rfl (by omega); apply gd_d; exact det_ar rfl rfl rfl rfl rfl (by omega); apply gd_d; exact det_m rfl rfl (by conv => (lhs; whnf)); apply gd_d; exact w_call rfl rfl (fun w s => rounded0_ok w _ _ (by omega) (by omega)) rfl; apply gd_d; exact det_ar rfl rfl rfl rfl rfl (by omega); apply gd_d; exact w_build (cells := #[.int .i64 ((gS l k).1 + 0), .int .i64 ((gS l k).2 + 0)]) rfl rfl (by rfl); refine gd_nil ?_; apply gw_d; exact w_index rfl rfl rfl rfl (by with_reducible exact rfl) (by omega))
    refine w_store_row (n := 2) (v := .agg #[.int .i64 ((gS l k).1 + 0), .int .i64 ((gS l k).2 + 0)]) rfl rfl rfl rfl rfl (.there .here) (by rw [rowS_size l hk]; omega) (rowS_set hlt (by omega) (by omega)) ?_
    focus (refine gw_nil ?_; refine gx_block ?_; refine gx_next ?_; refine gc_region ?_; apply gw_d; exact det_ar rfl rfl rfl rfl rfl (by omega); apply gw_d; exact det_m rfl rfl (by conv => (lhs; whnf)); refine gw_nil ?_)
    exact gx_round (k + 1) hlt (by omega) (by repeat (first | exact Keeps.refl | refine Keeps.upd rfl ?_ | refine Keeps.sets rfl ?_ | refine Keeps.havoc rfl ?_)) ⟨rfl, trivial⟩ (.cons .here (.cons (.there .here) (.cons (.there .here) .nil)))
  · obtain rfl : k = l.length := by omega
    rw [rowS_all]
    focus (refine gc_exit ?_; refine gx_then_exit ?_; refine gx_then_exit ?_; refine gx_block_exit ?_; refine gx_next ?_; refine gc_seq ?_; refine gc_region ?_; apply gw_d; exact det_m rfl rfl (by conv => (lhs; whnf)); apply gw_d; exact det_m rfl rfl (by conv => (lhs; whnf)); refine gw_nil ?_; refine gx_next ?_; refine gc_ret ?_)
    exact gx_ret1 rfl rfl fun w s => ⟨b, rfl, (s.sub (.cons .here .nil)).sep⟩
end Go.Proofs.YteiboodeepjanaaGreat
