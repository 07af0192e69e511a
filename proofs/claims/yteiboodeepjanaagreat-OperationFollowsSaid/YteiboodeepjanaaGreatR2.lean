/- Contracts: the reference of chapter 45, orders. -/
import Derived.Test.YteiboodeepjanaaGreatR1
import Derived.Test.YteiboodeepjanaaGreatQ2
namespace Go.Proofs.YteiboodeepjanaaGreat
open Go.RowKit
set_option maxRecDepth 100000
set_option maxHeartbeats 4000000

theorem arr_tail (l : List Opn) : ∀ (f : Nat) (o : List Int), arr l (f + 1) o = match nextOf l (arr l f o) with | some i => arr l f o ++ [(i : Int)] | none => arr l f o
  | 0, o => rfl
  | f + 1, o => by
    cases hn : nextOf l o with
    | none =>
      rw [arr_end (f := f + 1 + 1) hn, arr_end (f := f + 1) hn, hn]
    | some i =>
      rw [arr_step (f := f + 1) hn, arr_step (f := f) hn]
      exact arr_tail l f (o ++ [(i : Int)])
theorem arr_len (l : List Opn) : ∀ f, (arr l f []).length ≤ f
  | 0 => Nat.le_refl _
  | f + 1 => by
    rw [arr_tail]
    have := arr_len l f
    split
    · rw [List.length_append, List.length_singleton]; omega
    · omega

theorem rsorted_ok (w : World) (v : Value) (l : List Opn) (hl : Sl rOp w w.heap.size v l) (h16 : l.length ≤ 1000) :
    OkM Tryz.prog 35 [v].toArray w (fun x : Option Addr × Nat => .slice x.1 (sortedL l).length x.2) (fun x => [Own x.1 (sortedL l).length x.2 3 1 ((sortedL l).map (Value.int .i64))]) := by
  obtain ⟨A0, c0, rfl, hc, hm⟩ := len_small hl
  unfold OkM
  refine ok_enter Tryz.func35 rfl Tryz.ntmps35 rfl ?_
  focus (refine gc_seq ?_; refine gc_region ?_; apply gw_d; exact det_m rfl rfl (by conv => (lhs; whnf)); refine gw_nil ?_; refine gx_next ?_; refine gc_seq ?_; refine gc_region ?_; apply gw_d; exact det_m rfl rfl (by conv => (lhs; whnf)); refine gw_nil ?_; refine gx_next ?_; refine gc_seq ?_; refine gc_seq ?_; refine gc_region ?_; apply gw_d; exact det_m rfl rfl (by conv => (lhs; whnf)); apply gw_d; exact w_len rfl rfl rfl; apply gw_d; exact det_m rfl rfl (by conv => (lhs; whnf)); refine gw_nil ?_; refine gx_next ?_; refine gc_block ?_)
  refine gc_own0 3 1 ?_
  refine gc_loop (σ := Nat × Option Addr × Nat) [10, 4, 11, 12, 13, 14, 17, 18, 19, 20, 5, 6, 21, 22, 23, 24, 25, 26, 27, 28, 31, 32, 33, 34, 35, 36, 37, 38, 39, 40, 41, 42, 43, 29, 30, 44, 45, 46, 47, 48, 3, 15, 16, 49, 9] (fun s => [(3, .slice s.2.1 (arr l s.1 []).length s.2.2), (9, .int .i64 s.1)]) (fun s => [Own s.2.1 (arr l s.1 []).length s.2.2 3 1 ((arr l s.1 []).map (Value.int .i64))]) (fun s => s.1 ≤ l.length) (fun s => l.length - s.1) (0, none, 0) (Nat.zero_le _) ⟨rfl, rfl, trivial⟩ (.cons .here .nil) ?_
  rintro ⟨r, A, c⟩ base hr
  dsimp only at hr ⊢
  have htail := arr_tail l r []
  have hol := arr_len l r
  have hin : ∀ x ∈ arr l r [], inI64 x := fun x hx => by
    have := arr_mem (l := l) r [] (fun x hx => by cases hx) x hx
    unfold inI64
    omega
  have hlast : r = l.length → arr l r [] = sortedL l := fun h => by rw [h]; rfl
  generalize arr l r [] = o at htail hol hin hlast ⊢
  focus (refine gc_seq ?_; refine gc_region ?_; apply gw_d; exact det_cmp rfl rfl rfl rfl rfl; refine gw_nil ?_; refine gx_next ?_; refine gc_seq ?_)
  refine gc_if_dec rfl (fun h => ?_) (fun h => ?_)
  · have hHas : ∀ (x : Int) (L : List Res) (w' : World), St w (Own A o.length c 3 1 (o.map (Value.int .i64)) :: L) w' → Ok Tryz.prog 27 [.slice A o.length c, .int .i64 x].toArray w' fun r _ => r = .bool (hasB o x) := fun x L w' s => has_ok w' _ _ x (Sl.ownI s .here rfl hin)
    focus (refine gc_skip ?_; refine gx_next ?_; refine gc_seq ?_; refine gc_block ?_; refine gc_seq ?_; refine gc_region ?_; apply gw_d; exact det_m rfl rfl (by conv => (lhs; whnf)); refine gw_nil ?_; refine gx_next ?_; refine gc_block ?_)
    refine gc_loopK (σ := Nat) [11, 12, 13, 14, 17, 18, 19, 20, 5, 6, 21, 22, 23, 24, 25, 26, 27, 28, 31, 32, 33, 34, 35, 36, 37, 38, 39, 40, 41, 42, 43, 29, 30, 44, 45, 46, 47, 48, 3, 15, 16, 4] (fun m => [(4, .int .i64 m), (3, .slice A o.length c)]) (fun m => m ≤ l.length ∧ ∀ i, i < m → readyB l o i = false) (fun m => l.length - m) 0 ⟨Nat.zero_le _, fun i hi => by omega⟩ ⟨rfl, rfl, trivial⟩ ?_
    rintro m base2 ⟨hmi, hM⟩
    focus (refine gc_seq ?_; refine gc_seq ?_; refine gc_region ?_; apply gw_d; exact det_m rfl rfl (by conv => (lhs; whnf)); apply gw_d; exact det_m rfl rfl (by conv => (lhs; whnf)); apply gw_d; exact w_len rfl rfl rfl; apply gw_d; exact det_cmp rfl rfl rfl rfl rfl; refine gw_nil ?_; refine gx_next ?_)
    refine gc_if_dec rfl (fun h2 => ?_) (fun h2 => ?_)
    · have hml : m < l.length := by omega
      obtain ⟨ad, _, hv, _, _, hb, hcell⟩ := hl.at' 5 rfl (by omega)
      injection hv with e1 e2 e3
      subst e1 e3
      obtain ⟨cs, hce, Aa, ca, Au, cu, rfl, _, q1, q2⟩ := hcell m hml
      have hce3 := hce 3 _ rfl
      have ha : Sl rInt w w.heap.size (.slice Aa l[m].after.length ca) l[m].after := q1
      obtain ⟨_, _, hv, hac, ham, hacell⟩ := ha.int
      injection hv with e1 e2 e3
      subst e1 e3
      have hready : readyB l o m = (!hasB o (m : Int) && l[m].after.all (hasB o)) := by unfold readyB; rw [afterOf_get hml]
      focus (refine gc_skip ?_; refine gx_next ?_; refine gc_seq ?_; refine gc_block ?_; refine gc_seq ?_; refine gc_region ?_; apply gw_d; exact det_m rfl rfl (by conv => (lhs; whnf)); apply gw_d; exact det_m rfl rfl (by conv => (lhs; whnf)); apply gw_d; exact w_call rfl rfl (hHas _ _) rfl; apply gw_d; exact det_not_ rfl rfl rfl; apply gw_d; exact det_m rfl rfl (by conv => (lhs; whnf)); refine gw_nil ?_; refine gx_next ?_; refine gc_seq ?_; refine gc_seq ?_; refine gc_region ?_; apply gw_d; exact det_m rfl rfl (by conv => (lhs; whnf)); refine gw_nil ?_; refine gx_next ?_; refine gc_block ?_)
      refine gc_loopK (σ := Nat) [21, 22, 23, 24, 25, 26, 27, 28, 31, 32, 33, 34, 35, 36, 37, 38, 39, 40, 41, 42, 43, 5, 29, 30, 6] (fun j => [(6, .int .i64 j), (5, .bool (!hasB o (m : Int) && (l[m].after.take j).all (hasB o)))]) (fun j => j ≤ l[m].after.length) (fun j => l[m].after.length - j) 0 (Nat.zero_le _) ⟨rfl, by simp only [List.take_zero, List.all_nil, Bool.and_true]; rfl, trivial⟩ ?_
      rintro j base3 hj
      focus (refine gc_seq ?_; refine gc_seq ?_; refine gc_region ?_; apply gw_d; exact det_m rfl rfl (by conv => (lhs; whnf)); apply gw_d; exact det_m rfl rfl (by conv => (lhs; whnf)); apply gw_d; exact det_m rfl rfl (by conv => (lhs; whnf)); apply gw_d; exact w_index rfl rfl rfl rfl (by with_reducible exact rfl) (by omega); apply gw_d; exact w_field rfl rfl rfl; apply gw_d; exact w_load_fld rfl rfl rfl (by assumption) (by assumption); apply gw_d; exact w_len rfl rfl rfl; apply gw_d; exact det_cmp rfl rfl rfl rfl rfl; refine gw_nil ?_; refine gx_next ?_)
      refine gc_if_dec rfl (fun h3 => ?_) (fun h3 => ?_)
      · have hjl : j < l[m].after.length := by omega
        obtain ⟨ad2, rfl, hb2, hce2, _⟩ := hacell j hjl
        have hsn : (l[m].after.take (j + 1)).all (hasB o) = ((l[m].after.take j).all (hasB o) && hasB o l[m].after[j]) := by rw [List.take_succ_eq_append_getElem hjl, List.all_append]; simp
        focus (refine gc_skip ?_; refine gx_next ?_; refine gc_seq ?_; refine gc_block ?_; refine gc_region ?_; apply gw_d; exact det_m rfl rfl (by conv => (lhs; whnf)); apply gw_d; exact det_m rfl rfl (by conv => (lhs; whnf)); refine gw_guard rfl rfl (fun _ => ?_) (fun _ => ?_); apply gw_d; exact det_m rfl rfl (by conv => (lhs; whnf)); apply gw_d; exact det_m rfl rfl (by conv => (lhs; whnf)); apply gw_d; exact det_m rfl rfl (by conv => (lhs; whnf)); apply gw_d; exact w_index rfl rfl rfl rfl (by with_reducible exact rfl) (by omega); apply gw_d; exact w_field rfl rfl rfl; apply gw_d; exact w_load_fld rfl rfl rfl (by assumption) (by assumption); apply gw_d; exact det_m rfl rfl (by conv => (lhs; whnf)); apply gw_d; exact w_index rfl rfl rfl rfl (by with_reducible exact rfl) (by omega); apply gw_d; exact w_load_at rfl rfl rfl (by assumption) (by assumption); apply gw_d; exact w_call rfl rfl (hHas _ _) rfl; apply gw_d; exact det_pick_t (v := .bool _) rfl rfl rfl rfl; apply gw_d; exact det_m rfl rfl (by conv => (lhs; whnf)); refine gw_nil ?_; refine gx_block ?_; refine gx_next ?_; refine gc_region ?_; apply gw_d; exact det_m rfl rfl (by conv => (lhs; whnf)); apply gw_d; exact det_ar rfl rfl rfl rfl rfl (by omega); apply gw_d; exact det_m rfl rfl (by conv => (lhs; whnf)); refine gw_nil ?_; rotate_left; apply gw_d; exact det_not rfl; apply gw_d; exact det_not rfl; apply gw_d; exact det_not rfl; apply gw_d; exact det_not rfl; apply gw_d; exact det_not rfl; apply gw_d; exact det_not rfl; apply gw_d; exact det_not rfl; apply gw_d; exact det_not rfl; apply gw_d; exact det_not rfl; apply gw_d; exact det_not rfl; apply gw_d; exact det_pick_f (v := .bool _) rfl rfl rfl rfl; apply gw_d; exact det_m rfl rfl (by conv => (lhs; whnf)); refine gw_nil ?_; refine gx_block ?_; refine gx_next ?_; refine gc_region ?_; apply gw_d; exact det_m rfl rfl (by conv => (lhs; whnf)); apply gw_d; exact det_ar rfl rfl rfl rfl rfl (by omega); apply gw_d; exact det_m rfl rfl (by conv => (lhs; whnf)); refine gw_nil ?_; rotate_left)
        · rename_i hx
          exact gx_round (j + 1) hjl (by omega) (by repeat (first | exact Keeps.refl | refine Keeps.upd rfl ?_ | refine Keeps.sets rfl ?_ | refine Keeps.havoc rfl ?_)) ⟨rfl, by rw [hsn, ← Bool.and_assoc, hx, Bool.true_and]; rfl, trivial⟩ (Sub.all _)
        · rename_i hx
          exact gx_round (j + 1) hjl (by omega) (by repeat (first | exact Keeps.refl | refine Keeps.upd rfl ?_ | refine Keeps.sets rfl ?_ | refine Keeps.havoc rfl ?_)) ⟨rfl, by rw [hsn, ← Bool.and_assoc, hx, Bool.false_and]; rfl, trivial⟩ (Sub.all _)
      · obtain rfl : j = l[m].after.length := by omega
        rw [List.take_length, ← hready]
        focus (refine gc_exit ?_; refine gx_then_exit ?_; refine gx_then_exit ?_; refine gx_block_exit ?_; refine gx_next ?_; refine gc_seq ?_; refine gc_region ?_; apply gw_d; exact det_m rfl rfl (by conv => (lhs; whnf)); refine gw_nil ?_; refine gx_next ?_)
        refine gc_if rfl (fun h4 => ?_) (fun h4 => ?_)
        · have hnext : nextOf l o = some m := find_range hml h4 hM
          rw [hnext] at htail
          focus (refine gc_seq ?_; refine gc_region ?_; apply gw_d; exact det_m rfl rfl (by conv => (lhs; whnf)); apply gw_d; exact det_m rfl rfl (by conv => (lhs; whnf)))
          refine gw_bslice1 (v := .int .i64 (m : Int)) rfl rfl rfl rfl rfl (fun bb => ?_)
          refine gw_append (news := [.int .i64 (m : Int)]) rfl rfl rfl (.there .here) rfl (fun w' s _ => ?_) (fun u hu => ?_) (by unfold maxLen; omega) (by omega) (by decide) rfl (fun A2 c3 => ?_)
          · refine ⟨⟨bb, 0, none⟩, rfl, fun i u hu => ?_⟩
            rw [add_zero]
            refine (Box.cell s.head i).trans ?_
            change (#[Value.int .i64 (m : Int)] : Array Value)[i]? = some u
            rw [List.getElem?_toArray]
            exact hu
          · rw [List.mem_singleton] at hu
            subst hu
            rfl
          · focus (apply gw_d; exact det_m rfl rfl (by conv => (lhs; whnf)); refine gw_nil ?_; refine gx_next ?_; refine gc_exit ?_; refine gx_block_other rfl ?_; refine gx_then_exit ?_; refine gx_then_exit ?_; refine gx_block_exit ?_; refine gx_block ?_; refine gx_next ?_; refine gc_region ?_; apply gw_d; exact det_ar rfl rfl rfl rfl rfl (by omega); apply gw_d; exact det_m rfl rfl (by conv => (lhs; whnf)); refine gw_nil ?_)
            refine gx_round (r + 1, A2, c3) (by dsimp only; omega) (by dsimp only; omega) (by repeat (first | exact Keeps.refl | refine Keeps.upd rfl ?_ | refine Keeps.sets rfl ?_ | refine Keeps.havoc rfl ?_)) ⟨by rw [htail, List.length_append]; rfl, rfl, trivial⟩ ?_
            dsimp only
            rw [htail, List.length_append, List.map_append]
            exact .cons .here .nil
        · focus (refine gc_skip ?_; refine gx_block ?_; refine gx_next ?_; refine gc_region ?_; apply gw_d; exact det_m rfl rfl (by conv => (lhs; whnf)); apply gw_d; exact det_ar rfl rfl rfl rfl rfl (by omega); apply gw_d; exact det_m rfl rfl (by conv => (lhs; whnf)); refine gw_nil ?_)
          refine gx_round (m + 1) ⟨by omega, fun i hi => ?_⟩ (by omega) (by repeat (first | exact Keeps.refl | refine Keeps.upd rfl ?_ | refine Keeps.sets rfl ?_ | refine Keeps.havoc rfl ?_)) ⟨rfl, rfl, trivial⟩ (Sub.all _)
          by_cases hij : i = m
          · rw [hij]; exact h4
          · exact hM i (by omega)
    · have hnone : nextOf l o = none := List.find?_eq_none.2 fun i hi => by rw [hM i (by have := List.mem_range.1 hi; omega)]; decide
      rw [hnone] at htail
      focus (refine gc_exit ?_; refine gx_then_exit ?_; refine gx_then_exit ?_; refine gx_block_exit ?_; refine gx_block ?_; refine gx_next ?_; refine gc_region ?_; apply gw_d; exact det_ar rfl rfl rfl rfl rfl (by omega); apply gw_d; exact det_m rfl rfl (by conv => (lhs; whnf)); refine gw_nil ?_)
      refine gx_round (r + 1, A, c) (by dsimp only; omega) (by dsimp only; omega) (by repeat (first | exact Keeps.refl | refine Keeps.upd rfl ?_ | refine Keeps.sets rfl ?_ | refine Keeps.havoc rfl ?_)) ⟨by rw [htail]; rfl, rfl, trivial⟩ ?_
      dsimp only
      rw [htail]
      exact Sub.all _
  · rw [hlast (by omega)]
    focus (refine gc_exit ?_; refine gx_then_exit ?_; refine gx_then_exit ?_; refine gx_block_exit ?_; refine gx_next ?_; refine gc_seq ?_; refine gc_region ?_; apply gw_d; exact det_m rfl rfl (by conv => (lhs; whnf)); apply gw_d; exact det_m rfl rfl (by conv => (lhs; whnf)); refine gw_nil ?_; refine gx_next ?_; refine gc_ret ?_)
    exact gx_ret1 rfl rfl fun w s => ⟨(A, c), rfl, s.sep⟩

/-! ### Sound lists -/
theorem sorted_len (l : List Opn) : (sortedL l).length ≤ l.length := arr_len l l.length
theorem sound_eq (l : List Opn) : listE l (-1) = if ¬ singleE l (-1) = 0 then singleE l (-1) else if (sortedL l).length < l.length then 9 else 0 := by
  have hs := sorted_len l
  unfold listE singleE
  by_cases h16 : 16 < l.length
  · rw [if_pos h16, if_pos h16, if_pos (by decide)]
  · rw [if_neg h16, if_neg h16]
    by_cases h1 : firstE (opE l (-1)) l.length = 0
    · have hc : ¬ ¬ firstE (opE l (-1)) l.length = 0 := fun h => h h1
      rw [if_neg hc, if_neg hc]
      unfold fullB
      by_cases h2 : (sortedL l).length = l.length
      · rw [if_pos (decide_eq_true h2), if_neg (by omega)]
      · rw [if_neg (by simpa using h2), if_pos (by omega)]
    · rw [if_pos h1, if_pos h1]
theorem single_16 {l : List Opn} {u : Int} (h : singleE l u = 0) : l.length ≤ 16 := by
  unfold singleE at h
  split at h
  · cases h
  · omega
theorem sound_ok (w : World) (v : Value) (l : List Opn) (hl : Sl rOp w w.heap.size v l) : Ok Tryz.prog 36 [v].toArray w fun r _ => r = .int .i64 (listE l (-1)) := by
  obtain ⟨A0, c0, rfl, hc, hm⟩ := len_small hl
  have he := sound_eq l
  refine ok_enter Tryz.func36 rfl Tryz.ntmps36 rfl ?_
  focus (refine gc_seq ?_; refine gc_region ?_; apply gw_d; exact det_m rfl rfl (by conv => (lhs; whnf)); refine gw_nil ?_; refine gx_next ?_; refine gc_seq ?_; refine gc_seq ?_; refine gc_region ?_; apply gw_d; exact det_m rfl rfl (by conv => (lhs; whnf)); apply gw_d; exact w_call rfl rfl (fun w s => single_ok w _ l (-1) (hl.later s)) rfl; apply gw_d; exact det_m rfl rfl (by conv => (lhs; whnf)); refine gw_nil ?_; refine gx_next ?_; refine gc_seq ?_; refine gc_region ?_; apply gw_d; exact det_m rfl rfl (by conv => (lhs; whnf)); apply gw_d; exact det_cmp rfl rfl rfl rfl rfl; refine gw_nil ?_; refine gx_next ?_)
  refine gc_if_dec rfl (fun h => ?_) (fun h => ?_)
  · focus (refine gc_seq ?_; refine gc_region ?_; apply gw_d; exact det_m rfl rfl (by conv => (lhs; whnf)); apply gw_d; exact det_m rfl rfl (by conv => (lhs; whnf)); refine gw_nil ?_; refine gx_next ?_; refine gc_ret ?_; refine gx_then_ret ?_)
    refine gx_ret1 (v := .int _ _) rfl rfl (fun _ _ => ?_)
    rw [he, if_pos h]
  have h0 : singleE l (-1) = 0 := by simpa using h
  have h16 := single_16 h0
  rw [if_neg h] at he
  focus (refine gc_skip ?_; refine gx_next ?_; refine gc_seq ?_; refine gc_seq ?_; refine gc_region ?_; apply gw_d; exact det_m rfl rfl (by conv => (lhs; whnf)))
  refine gw_callm rfl (fun w s => rsorted_ok w _ l (hl.later s) (by omega)) rfl (fun x => ?_)
  focus (apply gw_d; exact w_len rfl rfl rfl; apply gw_d; exact det_m rfl rfl (by conv => (lhs; whnf)); apply gw_d; exact w_len rfl rfl rfl; apply gw_d; exact det_cmp rfl rfl rfl rfl rfl; refine gw_nil ?_; refine gx_next ?_)
  refine gc_if_dec rfl (fun h => ?_) (fun h => ?_)
  · focus (refine gc_seq ?_; refine gc_region ?_; apply gw_d; exact det_m rfl rfl (by conv => (lhs; whnf)); refine gw_nil ?_; refine gx_next ?_; refine gc_ret ?_; refine gx_then_ret ?_)
    refine gx_ret1 (v := .int _ _) rfl rfl (fun _ _ => ?_)
    rw [he, if_pos (by omega)]
  · focus (refine gc_skip ?_; refine gx_next ?_; refine gc_seq ?_; refine gc_region ?_; apply gw_d; exact det_m rfl rfl (by conv => (lhs; whnf)); refine gw_nil ?_; refine gx_next ?_; refine gc_ret ?_)
    refine gx_ret1 (v := .int _ _) rfl rfl (fun _ _ => ?_)
    rw [he, if_neg (by omega)]
theorem rOrder_bad (w : World) (v : Value) (l : List Opn) (hl : Sl rOp w w.heap.size v l) (hne : ¬ listE l (-1) = 0) :
    Ok Tryz.prog 18 [v].toArray w fun r _ => r = .tuple #[.slice none 0 0, .int .i64 (listE l (-1))] := by
  obtain ⟨A0, c0, rfl, hc, hm⟩ := len_small hl
  refine ok_enter Tryz.func18 rfl Tryz.ntmps18 rfl ?_
  focus (refine gc_seq ?_; refine gc_region ?_; apply gw_d; exact det_m rfl rfl (by conv => (lhs; whnf)); apply gw_d; exact det_m rfl rfl (by conv => (lhs; whnf)); refine gw_nil ?_; refine gx_next ?_; refine gc_seq ?_; refine gc_seq ?_; refine gc_region ?_; apply gw_d; exact det_m rfl rfl (by conv => (lhs; whnf)); apply gw_d; exact w_call rfl rfl (fun w s => sound_ok w _ l (hl.later s)) rfl; apply gw_d; exact det_m rfl rfl (by conv => (lhs; whnf)); refine gw_nil ?_; refine gx_next ?_; refine gc_seq ?_; refine gc_region ?_; apply gw_d; exact det_m rfl rfl (by conv => (lhs; whnf)); apply gw_d; exact det_cmp rfl rfl rfl rfl rfl; refine gw_nil ?_; refine gx_next ?_)
  refine gc_if_dec rfl (fun _ => ?_) (fun h => absurd hne h)
  focus (refine gc_seq ?_; refine gc_region ?_; apply gw_d; exact det_m rfl rfl (by conv => (lhs; whnf)); apply gw_d; exact det_m rfl rfl (by conv => (lhs; whnf)); apply gw_d; exact det_m rfl rfl (by conv => (lhs; whnf)); refine gw_nil ?_; refine gx_next ?_; refine gc_ret ?_; refine gx_then_ret ?_)
  refine gx_ret2 (u := .slice _ _ _) (v := .int _ _) rfl rfl rfl (fun _ _ => ?_)
  rfl
theorem rOrder_good (w : World) (v : Value) (l : List Opn) (hl : Sl rOp w w.heap.size v l) (he : listE l (-1) = 0) :
    OkM Tryz.prog 18 [v].toArray w (fun x : Option Addr × Nat => .tuple #[.slice x.1 (sortedL l).length x.2, .int .i64 0]) (fun x => [Own x.1 (sortedL l).length x.2 3 1 ((sortedL l).map (Value.int .i64))]) := by
  obtain ⟨A0, c0, rfl, hc, hm⟩ := len_small hl
  have h16 := (list_good he).le
  unfold OkM
  refine ok_enter Tryz.func18 rfl Tryz.ntmps18 rfl ?_
  focus (refine gc_seq ?_; refine gc_region ?_; apply gw_d; exact det_m rfl rfl (by conv => (lhs; whnf)); apply gw_d; exact det_m rfl rfl (by conv => (lhs; whnf)); refine gw_nil ?_; refine gx_next ?_; refine gc_seq ?_; refine gc_seq ?_; refine gc_region ?_; apply gw_d; exact det_m rfl rfl (by conv => (lhs; whnf)); apply gw_d; exact w_call rfl rfl (fun w s => sound_ok w _ l (hl.later s)) rfl; apply gw_d; exact det_m rfl rfl (by conv => (lhs; whnf)); refine gw_nil ?_; refine gx_next ?_; refine gc_seq ?_; refine gc_region ?_; apply gw_d; exact det_m rfl rfl (by conv => (lhs; whnf)); apply gw_d; exact det_cmp rfl rfl rfl rfl rfl; refine gw_nil ?_; refine gx_next ?_)
  refine gc_if_dec rfl (fun h => absurd he h) (fun _ => ?_)
  focus (refine gc_skip ?_; refine gx_next ?_; refine gc_seq ?_; refine gc_region ?_; apply gw_d; exact det_m rfl rfl (by conv => (lhs; whnf)))
  refine gw_callm rfl (fun w s => rsorted_ok w _ l (hl.later s) (by omega)) rfl (fun x => ?_)
  focus (apply gw_d; exact det_m rfl rfl (by conv => (lhs; whnf)); apply gw_d; exact det_m rfl rfl (by conv => (lhs; whnf)); refine gw_nil ?_; refine gx_next ?_; refine gc_ret ?_)
  exact gx_ret2 (u := .slice _ _ _) (v := .int _ _) rfl rfl rfl (fun w' s => ⟨x, rfl, s.sep⟩)
end Go.Proofs.YteiboodeepjanaaGreat
