/- Contracts: the reference of chapter 45, followers. -/
import Derived.Test.YteiboodeepjanaaGreatR2
namespace Go.Proofs.YteiboodeepjanaaGreat
open Go.RowKit
set_option maxRecDepth 100000
set_option maxHeartbeats 4000000

theorem rfollowers_ok (w : World) (v : Value) (l : List Opn) (a : Int) (hl : Sl rOp w w.heap.size v l) (he : listE l (-1) = 0) :
    OkM Tryz.prog 39 [v, .int .i64 a].toArray w (fun x : Option Addr × Nat => .slice x.1 (follL l a).length x.2) (fun x => [Own x.1 (follL l a).length x.2 3 1 ((follL l a).map (Value.int .i64))]) := by
  obtain ⟨A0, c0, rfl, hc, hm⟩ := len_small hl
  have hG := list_good he
  have h16 := hG.le
  have hsl := hG.full
  have haf := hG.after
  unfold OkM
  refine ok_enter Tryz.func39 rfl Tryz.ntmps39 rfl ?_
  focus (refine gc_seq ?_; refine gc_region ?_; apply gw_d; exact det_m rfl rfl (by conv => (lhs; whnf)); refine gw_nil ?_; refine gx_next ?_; refine gc_seq ?_; refine gc_region ?_; apply gw_d; exact det_m rfl rfl (by conv => (lhs; whnf)); apply gw_d; exact w_len rfl rfl rfl)
  refine gw_make1 (n := l.length) rfl rfl rfl rfl rfl (by omega) (by omega) rfl (fun b => ?_)
  rw [show Array.replicate l.length ((Value.bool false).cells.getD 0 undef) = ((precs l a ((sortedL l).take 0)).map Value.bool).toArray from row_make Value.bool l.length false]
  focus (apply gw_d; exact det_m rfl rfl (by conv => (lhs; whnf)); refine gw_nil ?_; refine gx_next ?_; refine gc_seq ?_; refine gc_region ?_; apply gw_d; exact det_m rfl rfl (by conv => (lhs; whnf)))
  refine gw_callm rfl (fun w s => rsorted_ok w _ l (hl.later s) (by omega)) rfl (fun x => ?_)
  obtain ⟨A, c⟩ := x
  focus (apply gw_d; exact det_m rfl rfl (by conv => (lhs; whnf)); refine gw_nil ?_; refine gx_next ?_; refine gc_seq ?_; refine gc_seq ?_; refine gc_region ?_; apply gw_d; exact det_m rfl rfl (by conv => (lhs; whnf)); refine gw_nil ?_; refine gx_next ?_; refine gc_block ?_)
  refine gc_loop (σ := Nat) [17, 18, 19, 20, 23, 24, 25, 26, 27, 28, 29, 30, 8, 9, 31, 32, 33, 34, 37, 38, 39, 40, 41, 42, 43, 44, 45, 46, 47, 48, 49, 50, 51, 52, 53, 54, 55, 56, 57, 35, 36, 21, 22, 7] (fun k => [(7, .int .i64 k)]) (fun k => [Box b 4 ((precs l a ((sortedL l).take k)).map Value.bool).toArray, Own A (sortedL l).length c 3 1 ((sortedL l).map (Value.int .i64))]) (fun k => k ≤ (sortedL l).length) (fun k => (sortedL l).length - k) 0 (Nat.zero_le _) ⟨rfl, trivial⟩ (.cons (.there .here) (.cons .here .nil)) ?_
  rintro k base hk
  focus (refine gc_seq ?_; refine gc_seq ?_; refine gc_region ?_; apply gw_d; exact det_m rfl rfl (by conv => (lhs; whnf)); apply gw_d; exact det_m rfl rfl (by conv => (lhs; whnf)); apply gw_d; exact w_len rfl rfl rfl; apply gw_d; exact det_cmp rfl rfl rfl rfl rfl; refine gw_nil ?_; refine gx_next ?_)
  refine gc_if_dec rfl (fun h => ?_) (fun h => ?_)
  · have hlt : k < (sortedL l).length := by omega
    obtain ⟨i, hi, hil, _⟩ := sorted_at hlt
    have hsn := precs_snoc (l := l) (a := a) hlt
    rw [hi, Int.toNat_natCast, afterOf_get hil] at hsn
    obtain ⟨ad, _, hv, _, _, hb, hcell⟩ := hl.at' 5 rfl (by omega)
    injection hv with e1 e2 e3
    subst e1 e3
    obtain ⟨cs, hce, Aa, ca, Au, cu, rfl, _, q1, q2⟩ := hcell i hil
    have hce3 := hce 3 _ rfl
    have ha : Sl rInt w w.heap.size (.slice Aa l[i].after.length ca) l[i].after := q1
    obtain ⟨_, _, hv, hac, ham, hacell⟩ := ha.int
    injection hv with e1 e2 e3
    subst e1 e3
    refine gc_ownbox (by omega) (.there .here) fun g ocs hA hosz hotk => ?_
    subst hA
    have hoc := take_at hotk hlt
    rw [hi] at hoc
    have hpl := precs_len l a ((sortedL l).take k)
    generalize precs l a ((sortedL l).take k) = bs at hsn hpl ⊢
    focus (refine gc_skip ?_; refine gx_next ?_; refine gc_seq ?_; refine gc_block ?_; refine gc_seq ?_; refine gc_region ?_; apply gw_d; exact det_m rfl rfl (by conv => (lhs; whnf)); apply gw_d; exact det_m rfl rfl (by conv => (lhs; whnf)); apply gw_d; exact det_m rfl rfl (by conv => (lhs; whnf)); apply gw_d; exact w_index rfl rfl rfl rfl (by with_reducible exact rfl) (by omega); apply gw_d; exact w_load_row rfl rfl rfl .here hoc; apply gw_d; exact w_index rfl rfl rfl rfl (by with_reducible exact rfl) (by omega); apply gw_d; exact w_field rfl rfl rfl; apply gw_d; exact w_load_fld rfl rfl rfl (by assumption) (by assumption); apply gw_d; exact det_m rfl rfl (by conv => (lhs; whnf)); refine gw_nil ?_; refine gx_next ?_; refine gc_seq ?_; refine gc_region ?_; apply gw_d; exact det_m rfl rfl (by conv => (lhs; whnf)); refine gw_nil ?_; refine gx_next ?_; refine gc_block ?_)
    refine gc_loop (σ := Nat) [31, 32, 33, 34, 37, 38, 39, 40, 41, 42, 43, 44, 45, 46, 47, 48, 49, 50, 51, 52, 53, 54, 55, 56, 57, 35, 36, 9] (fun j => [(9, .int .i64 j)]) (fun j => [Box b 4 ((precIn a i bs (l[i].after.take j)).map Value.bool).toArray, Box g 3 ocs]) (fun j => j ≤ l[i].after.length) (fun j => l[i].after.length - j) 0 (Nat.zero_le _) ⟨rfl, trivial⟩ (.cons (.there .here) (.cons .here .nil)) ?_
    rintro j base2 hj
    focus (refine gc_seq ?_; refine gc_seq ?_; refine gc_region ?_; apply gw_d; exact det_m rfl rfl (by conv => (lhs; whnf)); apply gw_d; exact det_m rfl rfl (by conv => (lhs; whnf)); apply gw_d; exact w_len rfl rfl rfl; apply gw_d; exact det_cmp rfl rfl rfl rfl rfl; refine gw_nil ?_; refine gx_next ?_)
    refine gc_if_dec rfl (fun h2 => ?_) (fun h2 => ?_)
    · have hjl : j < l[i].after.length := by omega
      obtain ⟨ad2, rfl, hb2, hce2, _⟩ := hacell j hjl
      have hpr := haf i l[i].after[j] (by rw [afterOf_get hil]; exact List.getElem_mem hjl)
      obtain ⟨p, hp⟩ : ∃ p : Nat, l[i].after[j] = (p : Int) := ⟨l[i].after[j].toNat, by omega⟩
      have hsn2 := precIn_snoc (a := a) (i := i) (bs := bs) hjl
      rw [hp] at hce2 hsn2
      have hl2 := precIn_len a i (l[i].after.take j) bs
      generalize precIn a i bs (l[i].after.take j) = cs2 at hsn2 hl2 ⊢
      have hpc : (cs2.map Value.bool).toArray[p * 1]? = some (.bool (cs2.getD p false)) := row_get Value.bool false (by omega)
      unfold precStep at hsn2
      rw [Int.toNat_natCast] at hsn2
      focus (refine gc_skip ?_; refine gx_next ?_; refine gc_seq ?_; refine gc_block ?_; refine gc_seq ?_; refine gc_region ?_; apply gw_d; exact det_m rfl rfl (by conv => (lhs; whnf)); apply gw_d; exact det_m rfl rfl (by conv => (lhs; whnf)); apply gw_d; exact w_index rfl rfl rfl rfl (by with_reducible exact rfl) (by omega); apply gw_d; exact w_load_at rfl rfl rfl (by assumption) (by assumption); apply gw_d; exact det_m rfl rfl (by conv => (lhs; whnf)); apply gw_d; exact det_cmp rfl rfl rfl rfl rfl; apply gw_d; exact det_m rfl rfl (by conv => (lhs; whnf)); refine gw_guard_dec rfl rfl (fun _ => ?_) (fun _ => ?_); apply gw_d; exact det_not rfl; apply gw_d; exact det_not rfl; apply gw_d; exact det_not rfl; apply gw_d; exact det_not rfl; apply gw_d; exact det_not rfl; apply gw_d; exact det_not rfl; apply gw_d; exact det_not rfl; apply gw_d; exact det_pick_t (v := .bool _) rfl rfl rfl rfl; refine gw_nil ?_; refine gx_next ?_; refine gc_if_true rfl ?_; refine gc_region ?_; apply gw_d; exact det_m rfl rfl (by conv => (lhs; whnf)); apply gw_d; exact det_m rfl rfl (by conv => (lhs; whnf)); apply gw_d; exact det_m rfl rfl (by conv => (lhs; whnf)); apply gw_d; exact w_index rfl rfl rfl rfl (by with_reducible exact rfl) (by omega); apply gw_d; exact w_load_row rfl rfl rfl (.there .here) hoc; apply gw_d; exact w_index rfl rfl rfl rfl (by with_reducible exact rfl) (by omega); rotate_left; apply gw_d; exact det_m rfl rfl (by conv => (lhs; whnf)); apply gw_d; exact det_m rfl rfl (by conv => (lhs; whnf)); apply gw_d; exact det_m rfl rfl (by conv => (lhs; whnf)); apply gw_d; exact w_index rfl rfl rfl rfl (by with_reducible exact rfl) (by omega); apply gw_d; exact w_load_at rfl rfl rfl (by assumption) (by assumption); apply gw_d; exact w_index rfl rfl rfl rfl (by with_reducible exact rfl) (by omega); apply gw_d; exact w_load_row rfl rfl rfl .here hpc; apply gw_d; exact det_pick_f (v := .bool _) rfl rfl rfl rfl; refine gw_nil ?_; refine gx_next ?_; refine gc_if rfl (fun _ => ?_) (fun _ => ?_); refine gc_region ?_; apply gw_d; exact det_m rfl rfl (by conv => (lhs; whnf)); apply gw_d; exact det_m rfl rfl (by conv => (lhs; whnf)); apply gw_d; exact det_m rfl rfl (by conv => (lhs; whnf)); apply gw_d; exact w_index rfl rfl rfl rfl (by with_reducible exact rfl) (by omega); apply gw_d; exact w_load_row rfl rfl rfl (.there .here) hoc; apply gw_d; exact w_index rfl rfl rfl rfl (by with_reducible exact rfl) (by omega); rotate_left; refine gc_skip ?_; refine gx_block ?_; refine gx_next ?_; refine gc_region ?_; apply gw_d; exact det_m rfl rfl (by conv => (lhs; whnf)); apply gw_d; exact det_ar rfl rfl rfl rfl rfl (by omega); apply gw_d; exact det_m rfl rfl (by conv => (lhs; whnf)); refine gw_nil ?_; rotate_left)
      · refine w_store_row (n := 1) (v := .bool true) rfl rfl rfl rfl rfl .here (by simp; omega) (row_set Value.bool (by omega) true) ?_
        focus (refine gw_nil ?_; refine gx_block ?_; refine gx_next ?_; refine gc_region ?_; apply gw_d; exact det_m rfl rfl (by conv => (lhs; whnf)); apply gw_d; exact det_ar rfl rfl rfl rfl rfl (by omega); apply gw_d; exact det_m rfl rfl (by conv => (lhs; whnf)); refine gw_nil ?_)
        refine gx_round (j + 1) hjl (by omega) (by repeat (first | exact Keeps.refl | refine Keeps.upd rfl ?_ | refine Keeps.sets rfl ?_ | refine Keeps.havoc rfl ?_)) ⟨rfl, trivial⟩ ?_
        rw [hsn2, if_pos (.inl (by assumption))]
        exact .cons .here (.cons .here .nil)
      · refine w_store_row (n := 1) (v := .bool true) rfl rfl rfl rfl rfl .here (by simp; omega) (row_set Value.bool (by omega) true) ?_
        focus (refine gw_nil ?_; refine gx_block ?_; refine gx_next ?_; refine gc_region ?_; apply gw_d; exact det_m rfl rfl (by conv => (lhs; whnf)); apply gw_d; exact det_ar rfl rfl rfl rfl rfl (by omega); apply gw_d; exact det_m rfl rfl (by conv => (lhs; whnf)); refine gw_nil ?_)
        refine gx_round (j + 1) hjl (by omega) (by repeat (first | exact Keeps.refl | refine Keeps.upd rfl ?_ | refine Keeps.sets rfl ?_ | refine Keeps.havoc rfl ?_)) ⟨rfl, trivial⟩ ?_
        rw [hsn2, if_pos (.inr (by assumption))]
        exact .cons .here (.cons .here .nil)
      · refine gx_round (j + 1) hjl (by omega) (by repeat (first | exact Keeps.refl | refine Keeps.upd rfl ?_ | refine Keeps.sets rfl ?_ | refine Keeps.havoc rfl ?_)) ⟨rfl, trivial⟩ ?_
        rw [hsn2, if_neg (by rintro (h3 | h3) <;> simp_all)]
        exact .cons .here (.cons .here .nil)
    · obtain rfl : j = l[i].after.length := by omega
      rw [List.take_length, ← hsn]
      focus (refine gc_exit ?_; refine gx_then_exit ?_; refine gx_then_exit ?_; refine gx_block_exit ?_; refine gx_block ?_; refine gx_next ?_; refine gc_region ?_; apply gw_d; exact det_m rfl rfl (by conv => (lhs; whnf)); apply gw_d; exact det_ar rfl rfl rfl rfl rfl (by omega); apply gw_d; exact det_m rfl rfl (by conv => (lhs; whnf)); refine gw_nil ?_)
      refine gx_roundE (k + 1) (by omega) (by omega) (by repeat (first | exact Keeps.refl | refine Keeps.upd rfl ?_ | refine Keeps.sets rfl ?_ | refine Keeps.havoc rfl ?_)) ⟨rfl, trivial⟩ ?_
      exact Ent.trans (Ent.trans (Sub.ent (.cons (.there .here) (.cons .here .nil))) (box_own hosz hotk)) (Sub.ent (.cons (.there .here) (.cons .here .nil)))
  · obtain rfl : k = (sortedL l).length := by omega
    rw [List.take_length]
    have hpl := precs_len l a (sortedL l)
    unfold follL
    generalize precs l a (sortedL l) = bs at hpl ⊢
    focus (refine gc_exit ?_; refine gx_then_exit ?_; refine gx_then_exit ?_; refine gx_block_exit ?_; refine gx_next ?_; refine gc_seq ?_; refine gc_region ?_; apply gw_d; exact det_m rfl rfl (by conv => (lhs; whnf)); refine gw_nil ?_; refine gx_next ?_; refine gc_seq ?_; refine gc_seq ?_; refine gc_region ?_; apply gw_d; exact det_m rfl rfl (by conv => (lhs; whnf)); refine gw_nil ?_; refine gx_next ?_; refine gc_block ?_)
    refine gc_own0 3 1 ?_
    refine gc_loop (σ := Nat × Option Addr × Nat) [58, 59, 60, 61, 64, 65, 66, 67, 68, 69, 70, 71, 10, 62, 63, 11] (fun s => [(10, .slice s.2.1 (follT bs s.1).length s.2.2), (11, .int .i64 s.1)]) (fun s => [Own s.2.1 (follT bs s.1).length s.2.2 3 1 ((follT bs s.1).map (Value.int .i64)), Box b 4 (bs.map Value.bool).toArray])
      (fun s => s.1 ≤ l.length) (fun s => l.length - s.1) (0, none, 0) (Nat.zero_le _) ⟨rfl, rfl, trivial⟩ (.cons .here (.cons .here .nil)) ?_
    rintro ⟨k, A2, c2⟩ base hk
    dsimp only at hk ⊢
    have hfl := follT_len bs k
    have hsn := follT_snoc bs k
    focus (refine gc_seq ?_; refine gc_seq ?_; refine gc_region ?_; apply gw_d; exact det_m rfl rfl (by conv => (lhs; whnf)); apply gw_d; exact det_m rfl rfl (by conv => (lhs; whnf)); apply gw_d; exact w_len rfl rfl rfl; apply gw_d; exact det_cmp rfl rfl rfl rfl rfl; refine gw_nil ?_; refine gx_next ?_)
    refine gc_if_dec rfl (fun h => ?_) (fun h => ?_)
    · have hlt : k < l.length := by omega
      have hpc : (bs.map Value.bool).toArray[k * 1]? = some (.bool (bs.getD k false)) := row_get Value.bool false (by omega)
      focus (refine gc_skip ?_; refine gx_next ?_; refine gc_seq ?_; refine gc_block ?_; refine gc_seq ?_; refine gc_region ?_; apply gw_d; exact det_m rfl rfl (by conv => (lhs; whnf)); apply gw_d; exact det_m rfl rfl (by conv => (lhs; whnf)); apply gw_d; exact w_index rfl rfl rfl rfl (by with_reducible exact rfl) (by omega); apply gw_d; exact w_load_row rfl rfl rfl (.there .here) hpc; refine gw_nil ?_; refine gx_next ?_)
      refine gc_if rfl (fun h3 => ?_) (fun h3 => ?_)
      · rw [if_pos h3] at hsn
        focus (refine gc_region ?_; apply gw_d; exact det_m rfl rfl (by conv => (lhs; whnf)); apply gw_d; exact det_m rfl rfl (by conv => (lhs; whnf)))
        refine gw_bslice1 (v := .int .i64 (k : Int)) rfl rfl rfl rfl rfl (fun bb => ?_)
        refine gw_append (news := [.int .i64 (k : Int)]) rfl rfl rfl (.there .here) rfl (fun w' s _ => ?_) (fun u hu => ?_) (by unfold maxLen; omega) (by omega) (by decide) rfl (fun A3 c3 => ?_)
        · refine ⟨⟨bb, 0, none⟩, rfl, fun i u hu => ?_⟩
          rw [add_zero]
          refine (Box.cell s.head i).trans ?_
          change (#[Value.int .i64 (k : Int)] : Array Value)[i]? = some u
          rw [List.getElem?_toArray]
          exact hu
        · rw [List.mem_singleton] at hu
          subst hu
          rfl
        · focus (apply gw_d; exact det_m rfl rfl (by conv => (lhs; whnf)); refine gw_nil ?_; refine gx_block ?_; refine gx_next ?_; refine gc_region ?_; apply gw_d; exact det_m rfl rfl (by conv => (lhs; whnf)); apply gw_d; exact det_ar rfl rfl rfl rfl rfl (by omega); apply gw_d; exact det_m rfl rfl (by conv => (lhs; whnf)); refine gw_nil ?_)
          refine gx_round (k + 1, A3, c3) hlt (by dsimp only; omega) (by repeat (first | exact Keeps.refl | refine Keeps.upd rfl ?_ | refine Keeps.sets rfl ?_ | refine Keeps.havoc rfl ?_)) ⟨by rw [hsn, List.length_append]; rfl, rfl, trivial⟩ ?_
          dsimp only
          rw [hsn, List.length_append, List.map_append]
          exact .cons .here (.cons (.there .here) .nil)
      · rw [if_neg (by rw [h3]; decide)] at hsn
        focus (refine gc_skip ?_; refine gx_block ?_; refine gx_next ?_; refine gc_region ?_; apply gw_d; exact det_m rfl rfl (by conv => (lhs; whnf)); apply gw_d; exact det_ar rfl rfl rfl rfl rfl (by omega); apply gw_d; exact det_m rfl rfl (by conv => (lhs; whnf)); refine gw_nil ?_)
        refine gx_round (k + 1, A2, c2) hlt (by dsimp only; omega) (by repeat (first | exact Keeps.refl | refine Keeps.upd rfl ?_ | refine Keeps.sets rfl ?_ | refine Keeps.havoc rfl ?_)) ⟨by rw [hsn]; rfl, rfl, trivial⟩ ?_
        dsimp only
        rw [hsn]
        exact .cons .here (.cons .here .nil)
    · obtain rfl : k = l.length := by omega
      focus (refine gc_exit ?_; refine gx_then_exit ?_; refine gx_then_exit ?_; refine gx_block_exit ?_; refine gx_next ?_; refine gc_seq ?_; refine gc_region ?_; apply gw_d; exact det_m rfl rfl (by conv => (lhs; whnf)); apply gw_d; exact det_m rfl rfl (by conv => (lhs; whnf)); refine gw_nil ?_; refine gx_next ?_; refine gc_ret ?_)
      exact gx_ret1 rfl rfl fun w s => ⟨(A2, c2), rfl, (s.sub (.cons .here .nil)).sep⟩

theorem ix1 {a : Int} {n : Nat} : areIx [a] n = true ↔ 0 ≤ a ∧ a < n := by unfold areIx; simp
theorem ix2 {a b : Int} {n : Nat} : areIx [a, b] n = true ↔ (0 ≤ a ∧ a < n) ∧ (0 ≤ b ∧ b < n) := by unfold areIx; simp

theorem rFollowers_bad (w : World) (v : Value) (l : List Opn) (a : Int) (hl : Sl rOp w w.heap.size v l) (ha : inI64 a) (hne : ¬ follE l a = 0) :
    Ok Tryz.prog 25 [v, .int .i64 a].toArray w fun r _ => r = .tuple #[.slice none 0 0, .int .i64 (follE l a)] := by
  obtain ⟨A0, c0, rfl, hc, hm⟩ := len_small hl
  by_cases he : listE l (-1) = 0
  · have h0 : follE l a = 3 := by
      unfold follE at hne ⊢
      rw [if_neg (by rw [he]; decide)] at hne ⊢
      split at hne
      · exact absurd rfl hne
      · rename_i h1; rw [if_neg h1]
    have h1 : ¬ (0 ≤ a ∧ a < l.length) := fun h => by
      have := ix1.2 h
      unfold follE at h0
      rw [if_neg (by rw [he]; decide), if_pos this] at h0
      cases h0
    rw [h0]
    refine ok_enter Tryz.func25 rfl Tryz.ntmps25 rfl ?_
    focus (refine gc_seq ?_; refine gc_region ?_; apply gw_d; exact det_m rfl rfl (by conv => (lhs; whnf)); apply gw_d; exact det_m rfl rfl (by conv => (lhs; whnf)); refine gw_nil ?_; refine gx_next ?_; refine gc_seq ?_; refine gc_seq ?_; refine gc_region ?_; apply gw_d; exact det_m rfl rfl (by conv => (lhs; whnf)); apply gw_d; exact w_call rfl rfl (fun w s => sound_ok w _ l (hl.later s)) rfl; apply gw_d; exact det_m rfl rfl (by conv => (lhs; whnf)); refine gw_nil ?_; refine gx_next ?_; refine gc_seq ?_; refine gc_region ?_; apply gw_d; exact det_m rfl rfl (by conv => (lhs; whnf)); apply gw_d; exact det_cmp rfl rfl rfl rfl rfl; refine gw_nil ?_; refine gx_next ?_)
    refine gc_if_dec rfl (fun h => absurd he h) (fun _ => ?_)
    focus (refine gc_skip ?_; refine gx_next ?_; refine gc_seq ?_; refine gc_seq ?_; refine gc_region ?_; apply gw_d; exact det_m rfl rfl (by conv => (lhs; whnf)); apply gw_d; exact det_cmp rfl rfl rfl rfl rfl; apply gw_d; exact det_m rfl rfl (by conv => (lhs; whnf)); refine gw_guard_dec rfl rfl (fun _ => ?_) (fun _ => ?_); apply gw_d; exact det_not rfl; apply gw_d; exact det_not rfl; apply gw_d; exact det_not rfl; apply gw_d; exact det_not rfl; apply gw_d; exact det_pick_t (v := .bool _) rfl rfl rfl rfl; refine gw_nil ?_; refine gx_next ?_; refine gc_if_true rfl ?_; refine gc_seq ?_; refine gc_region ?_; apply gw_d; exact det_m rfl rfl (by conv => (lhs; whnf)); apply gw_d; exact det_m rfl rfl (by conv => (lhs; whnf)); refine gw_nil ?_; refine gx_next ?_; refine gc_ret ?_; refine gx_then_ret ?_; rotate_left; apply gw_d; exact det_m rfl rfl (by conv => (lhs; whnf)); apply gw_d; exact det_m rfl rfl (by conv => (lhs; whnf)); apply gw_d; exact w_len rfl rfl rfl; apply gw_d; exact det_cmp rfl rfl rfl rfl rfl; apply gw_d; exact det_pick_f (v := .bool _) rfl rfl rfl rfl; refine gw_nil ?_; refine gx_next ?_; refine gc_if_dec rfl (fun _ => ?_) (fun _ => ?_); refine gc_seq ?_; refine gc_region ?_; apply gw_d; exact det_m rfl rfl (by conv => (lhs; whnf)); apply gw_d; exact det_m rfl rfl (by conv => (lhs; whnf)); refine gw_nil ?_; refine gx_next ?_; refine gc_ret ?_; refine gx_then_ret ?_; rotate_left; refine gc_skip ?_; refine gx_next ?_; refine gc_seq ?_; refine gc_region ?_; apply gw_d; exact det_m rfl rfl (by conv => (lhs; whnf)); apply gw_d; exact det_m rfl rfl (by conv => (lhs; whnf)); rotate_left)
    all_goals first | (exfalso; omega) | (refine gx_ret2 (u := .slice _ _ _) (v := .int _ _) rfl rfl rfl (fun _ _ => ?_); rfl)
  · have h2 : follE l a = listE l (-1) := by unfold follE; rw [if_pos he]
    rw [h2]
    refine ok_enter Tryz.func25 rfl Tryz.ntmps25 rfl ?_
    focus (refine gc_seq ?_; refine gc_region ?_; apply gw_d; exact det_m rfl rfl (by conv => (lhs; whnf)); apply gw_d; exact det_m rfl rfl (by conv => (lhs; whnf)); refine gw_nil ?_; refine gx_next ?_; refine gc_seq ?_; refine gc_seq ?_; refine gc_region ?_; apply gw_d; exact det_m rfl rfl (by conv => (lhs; whnf)); apply gw_d; exact w_call rfl rfl (fun w s => sound_ok w _ l (hl.later s)) rfl; apply gw_d; exact det_m rfl rfl (by conv => (lhs; whnf)); refine gw_nil ?_; refine gx_next ?_; refine gc_seq ?_; refine gc_region ?_; apply gw_d; exact det_m rfl rfl (by conv => (lhs; whnf)); apply gw_d; exact det_cmp rfl rfl rfl rfl rfl; refine gw_nil ?_; refine gx_next ?_)
    refine gc_if_dec rfl (fun _ => ?_) (fun h => absurd he h)
    focus (refine gc_seq ?_; refine gc_region ?_; apply gw_d; exact det_m rfl rfl (by conv => (lhs; whnf)); apply gw_d; exact det_m rfl rfl (by conv => (lhs; whnf)); apply gw_d; exact det_m rfl rfl (by conv => (lhs; whnf)); refine gw_nil ?_; refine gx_next ?_; refine gc_ret ?_; refine gx_then_ret ?_)
    refine gx_ret2 (u := .slice _ _ _) (v := .int _ _) rfl rfl rfl (fun _ _ => ?_)
    rfl
theorem rFollowers_good (w : World) (v : Value) (l : List Opn) (a : Int) (hl : Sl rOp w w.heap.size v l) (ha : inI64 a) (he : listE l (-1) = 0) (hr : 0 ≤ a ∧ a < l.length) :
    OkM Tryz.prog 25 [v, .int .i64 a].toArray w (fun x : Option Addr × Nat => .tuple #[.slice x.1 (follL l a).length x.2, .int .i64 0]) (fun x => [Own x.1 (follL l a).length x.2 3 1 ((follL l a).map (Value.int .i64))]) := by
  obtain ⟨A0, c0, rfl, hc, hm⟩ := len_small hl
  unfold OkM
  refine ok_enter Tryz.func25 rfl Tryz.ntmps25 rfl ?_
  focus (refine gc_seq ?_; refine gc_region ?_; apply gw_d; exact det_m rfl rfl (by conv => (lhs; whnf)); apply gw_d; exact det_m rfl rfl (by conv => (lhs; whnf)); refine gw_nil ?_; refine gx_next ?_; refine gc_seq ?_; refine gc_seq ?_; refine gc_region ?_; apply gw_d; exact det_m rfl rfl (by conv => (lhs; whnf)); apply gw_d; exact w_call rfl rfl (fun w s => sound_ok w _ l (hl.later s)) rfl; apply gw_d; exact det_m rfl rfl (by conv => (lhs; whnf)); refine gw_nil ?_; refine gx_next ?_; refine gc_seq ?_; refine gc_region ?_; apply gw_d; exact det_m rfl rfl (by conv => (lhs; whnf)); apply gw_d; exact det_cmp rfl rfl rfl rfl rfl; refine gw_nil ?_; refine gx_next ?_)
  refine gc_if_dec rfl (fun h => absurd he h) (fun _ => ?_)
  focus (refine gc_skip ?_; refine gx_next ?_; refine gc_seq ?_; refine gc_seq ?_; refine gc_region ?_; apply gw_d; exact det_m rfl rfl (by conv => (lhs; whnf)); apply gw_d; exact det_cmp rfl rfl rfl rfl rfl; apply gw_d; exact det_m rfl rfl (by conv => (lhs; whnf)); refine gw_guard_dec rfl rfl (fun _ => ?_) (fun _ => ?_); apply gw_d; exact det_not rfl; apply gw_d; exact det_not rfl; apply gw_d; exact det_not rfl; apply gw_d; exact det_not rfl; apply gw_d; exact det_pick_t (v := .bool _) rfl rfl rfl rfl; refine gw_nil ?_; refine gx_next ?_; refine gc_if_true rfl ?_; refine gc_seq ?_; refine gc_region ?_; apply gw_d; exact det_m rfl rfl (by conv => (lhs; whnf)); apply gw_d; exact det_m rfl rfl (by conv => (lhs; whnf)); refine gw_nil ?_; refine gx_next ?_; refine gc_ret ?_; refine gx_then_ret ?_; rotate_left; apply gw_d; exact det_m rfl rfl (by conv => (lhs; whnf)); apply gw_d; exact det_m rfl rfl (by conv => (lhs; whnf)); apply gw_d; exact w_len rfl rfl rfl; apply gw_d; exact det_cmp rfl rfl rfl rfl rfl; apply gw_d; exact det_pick_f (v := .bool _) rfl rfl rfl rfl; refine gw_nil ?_; refine gx_next ?_; refine gc_if_dec rfl (fun _ => ?_) (fun _ => ?_); refine gc_seq ?_; refine gc_region ?_; apply gw_d; exact det_m rfl rfl (by conv => (lhs; whnf)); apply gw_d; exact det_m rfl rfl (by conv => (lhs; whnf)); refine gw_nil ?_; refine gx_next ?_; refine gc_ret ?_; refine gx_then_ret ?_; rotate_left; refine gc_skip ?_; refine gx_next ?_; refine gc_seq ?_; refine gc_region ?_; apply gw_d; exact det_m rfl rfl (by conv => (lhs; whnf)); apply gw_d; exact det_m rfl rfl (by conv => (lhs; whnf)); rotate_left)
  all_goals first | (exfalso; omega) | skip
  refine gw_callm rfl (fun w s => rfollowers_ok w _ l a (hl.later s) he) rfl (fun x => ?_)
  focus (apply gw_d; exact det_m rfl rfl (by conv => (lhs; whnf)); apply gw_d; exact det_m rfl rfl (by conv => (lhs; whnf)); refine gw_nil ?_; refine gx_next ?_; refine gc_ret ?_)
  exact gx_ret2 (u := .slice _ _ _) (v := .int _ _) rfl rfl rfl (fun w' s => ⟨x, rfl, s.sep⟩)

theorem rBefore_ok (w : World) (v : Value) (l : List Opn) (a b : Int) (hl : Sl rOp w w.heap.size v l) (ha : inI64 a) (hb : inI64 b) :
    Ok Tryz.prog 23 [v, .int .i64 a, .int .i64 b].toArray w fun r _ => r = .tuple #[.bool (beforeV l a b), .int .i64 (beforeE l a b)] := by
  obtain ⟨A0, c0, rfl, hc, hm⟩ := len_small hl
  by_cases he : listE l (-1) = 0
  · have hG := list_good he
    have h16 := hG.le
    by_cases hr : (0 ≤ a ∧ a < l.length) ∧ (0 ≤ b ∧ b < l.length)
    · have h2 : beforeE l a b = 0 := by unfold beforeE; rw [if_neg (by rw [he]; decide), if_pos (ix2.2 hr)]
      have h3 : beforeV l a b = hasB (follL l a) b := by
        unfold beforeV
        rw [if_pos h2]
        obtain ⟨m, rfl⟩ : ∃ m : Nat, b = (m : Int) := ⟨b.toNat, by omega⟩
        exact (foll_has (by omega)).symm
      have hfin : ∀ x ∈ follL l a, inI64 x := fun x hx => by have := foll_in (bs := precs l a (sortedL l)) (n := l.length) x hx; unfold inI64; omega
      rw [h2, h3]
      refine ok_enter Tryz.func23 rfl Tryz.ntmps23 rfl ?_
      focus (refine gc_seq ?_; refine gc_region ?_; apply gw_d; exact det_m rfl rfl (by conv => (lhs; whnf)); apply gw_d; exact det_m rfl rfl (by conv => (lhs; whnf)); refine gw_nil ?_; refine gx_next ?_; refine gc_seq ?_; refine gc_seq ?_; refine gc_region ?_; apply gw_d; exact det_m rfl rfl (by conv => (lhs; whnf)); apply gw_d; exact w_call rfl rfl (fun w s => sound_ok w _ l (hl.later s)) rfl; apply gw_d; exact det_m rfl rfl (by conv => (lhs; whnf)); refine gw_nil ?_; refine gx_next ?_; refine gc_seq ?_; refine gc_region ?_; apply gw_d; exact det_m rfl rfl (by conv => (lhs; whnf)); apply gw_d; exact det_cmp rfl rfl rfl rfl rfl; refine gw_nil ?_; refine gx_next ?_)
      refine gc_if_dec rfl (fun h => absurd he h) (fun _ => ?_)
      focus (refine gc_skip ?_; refine gx_next ?_; refine gc_seq ?_; refine gc_seq ?_; refine gc_region ?_; apply gw_d; exact det_m rfl rfl (by conv => (lhs; whnf)); apply gw_d; exact det_cmp rfl rfl rfl rfl rfl; apply gw_d; exact det_m rfl rfl (by conv => (lhs; whnf)); refine gw_guard_dec rfl rfl (fun _ => ?_) (fun _ => ?_); apply gw_d; exact det_not rfl; apply gw_d; exact det_not rfl; apply gw_d; exact det_not rfl; apply gw_d; exact det_not rfl; apply gw_d; exact det_pick_t (v := .bool _) rfl rfl rfl rfl; apply gw_d; exact det_m rfl rfl (by conv => (lhs; whnf)); apply gw_d; exact det_not rfl; apply gw_d; exact det_not rfl; apply gw_d; exact det_pick_t (v := .bool _) rfl rfl rfl rfl; apply gw_d; exact det_m rfl rfl (by conv => (lhs; whnf)); apply gw_d; exact det_not rfl; apply gw_d; exact det_not rfl; apply gw_d; exact det_not rfl; apply gw_d; exact det_not rfl; apply gw_d; exact det_pick_t (v := .bool _) rfl rfl rfl rfl; refine gw_nil ?_; refine gx_next ?_; refine gc_if_true rfl ?_; refine gc_seq ?_; refine gc_region ?_; apply gw_d; exact det_m rfl rfl (by conv => (lhs; whnf)); apply gw_d; exact det_m rfl rfl (by conv => (lhs; whnf)); refine gw_nil ?_; refine gx_next ?_; refine gc_ret ?_; refine gx_then_ret ?_; rotate_left; apply gw_d; exact det_m rfl rfl (by conv => (lhs; whnf)); apply gw_d; exact det_m rfl rfl (by conv => (lhs; whnf)); apply gw_d; exact w_len rfl rfl rfl; apply gw_d; exact det_cmp rfl rfl rfl rfl rfl; apply gw_d; exact det_pick_f (v := .bool _) rfl rfl rfl rfl; apply gw_d; exact det_m rfl rfl (by conv => (lhs; whnf)); refine gw_guard_dec rfl rfl (fun _ => ?_) (fun _ => ?_); apply gw_d; exact det_not rfl; apply gw_d; exact det_not rfl; apply gw_d; exact det_pick_t (v := .bool _) rfl rfl rfl rfl; apply gw_d; exact det_m rfl rfl (by conv => (lhs; whnf)); apply gw_d; exact det_not rfl; apply gw_d; exact det_not rfl; apply gw_d; exact det_not rfl; apply gw_d; exact det_not rfl; apply gw_d; exact det_pick_t (v := .bool _) rfl rfl rfl rfl; refine gw_nil ?_; refine gx_next ?_; refine gc_if_true rfl ?_; refine gc_seq ?_; refine gc_region ?_; apply gw_d; exact det_m rfl rfl (by conv => (lhs; whnf)); apply gw_d; exact det_m rfl rfl (by conv => (lhs; whnf)); refine gw_nil ?_; refine gx_next ?_; refine gc_ret ?_; refine gx_then_ret ?_; rotate_left; apply gw_d; exact det_m rfl rfl (by conv => (lhs; whnf)); apply gw_d; exact det_cmp rfl rfl rfl rfl rfl; apply gw_d; exact det_pick_f (v := .bool _) rfl rfl rfl rfl; apply gw_d; exact det_m rfl rfl (by conv => (lhs; whnf)); refine gw_guard_dec rfl rfl (fun _ => ?_) (fun _ => ?_); apply gw_d; exact det_not rfl; apply gw_d; exact det_not rfl; apply gw_d; exact det_not rfl; apply gw_d; exact det_not rfl; apply gw_d; exact det_pick_t (v := .bool _) rfl rfl rfl rfl; refine gw_nil ?_; refine gx_next ?_; refine gc_if_true rfl ?_; refine gc_seq ?_; refine gc_region ?_; apply gw_d; exact det_m rfl rfl (by conv => (lhs; whnf)); apply gw_d; exact det_m rfl rfl (by conv => (lhs; whnf)); refine gw_nil ?_; refine gx_next ?_; refine gc_ret ?_; refine gx_then_ret ?_; rotate_left; apply gw_d; exact det_m rfl rfl (by conv => (lhs; whnf)); apply gw_d; exact det_m rfl rfl (by conv => (lhs; whnf)); apply gw_d; exact w_len rfl rfl rfl; apply gw_d; exact det_cmp rfl rfl rfl rfl rfl; apply gw_d; exact det_pick_f (v := .bool _) rfl rfl rfl rfl; refine gw_nil ?_; refine gx_next ?_; refine gc_if_dec rfl (fun _ => ?_) (fun _ => ?_); refine gc_seq ?_; refine gc_region ?_; apply gw_d; exact det_m rfl rfl (by conv => (lhs; whnf)); apply gw_d; exact det_m rfl rfl (by conv => (lhs; whnf)); refine gw_nil ?_; refine gx_next ?_; refine gc_ret ?_; refine gx_then_ret ?_; rotate_left; refine gc_skip ?_; refine gx_next ?_; refine gc_seq ?_; refine gc_region ?_; apply gw_d; exact det_m rfl rfl (by conv => (lhs; whnf)); apply gw_d; exact det_m rfl rfl (by conv => (lhs; whnf)); rotate_left)
      all_goals first | (exfalso; omega) | skip
      refine gw_callm rfl (fun w s => rfollowers_ok w _ l a (hl.later s) he) rfl (fun x => ?_)
      obtain ⟨A, c⟩ := x
      have hC : ∀ (L : List Res) (w' : World), St w (Own A (follL l a).length c 3 1 ((follL l a).map (Value.int .i64)) :: L) w' → Ok Tryz.prog 27 [.slice A (follL l a).length c, .int .i64 b].toArray w' fun r _ => r = .bool (hasB (follL l a) b) := fun L w' s => has_ok w' _ _ b (Sl.ownI s .here rfl hfin)
      focus (apply gw_d; exact det_m rfl rfl (by conv => (lhs; whnf)); apply gw_d; exact w_call rfl rfl (hC _) rfl; apply gw_d; exact det_m rfl rfl (by conv => (lhs; whnf)); apply gw_d; exact det_m rfl rfl (by conv => (lhs; whnf)); refine gw_nil ?_; refine gx_next ?_; refine gc_ret ?_)
      refine gx_ret2 (u := .bool _) (v := .int _ _) rfl rfl rfl (fun _ _ => ?_)
      rfl
    · have h1 : areIx [a, b] l.length = false := by
        cases hx : areIx [a, b] l.length with
        | false => rfl
        | true => exact absurd (ix2.1 hx) hr
      have h2 : beforeE l a b = 3 := by unfold beforeE; rw [if_neg (by rw [he]; decide), if_neg (by rw [h1]; decide)]
      have h3 : beforeV l a b = false := by unfold beforeV; rw [h2]; rfl
      rw [h2, h3]
      refine ok_enter Tryz.func23 rfl Tryz.ntmps23 rfl ?_
      focus (refine gc_seq ?_; refine gc_region ?_; apply gw_d; exact det_m rfl rfl (by conv => (lhs; whnf)); apply gw_d; exact det_m rfl rfl (by conv => (lhs; whnf)); refine gw_nil ?_; refine gx_next ?_; refine gc_seq ?_; refine gc_seq ?_; refine gc_region ?_; apply gw_d; exact det_m rfl rfl (by conv => (lhs; whnf)); apply gw_d; exact w_call rfl rfl (fun w s => sound_ok w _ l (hl.later s)) rfl; apply gw_d; exact det_m rfl rfl (by conv => (lhs; whnf)); refine gw_nil ?_; refine gx_next ?_; refine gc_seq ?_; refine gc_region ?_; apply gw_d; exact det_m rfl rfl (by conv => (lhs; whnf)); apply gw_d; exact det_cmp rfl rfl rfl rfl rfl; refine gw_nil ?_; refine gx_next ?_)
      refine gc_if_dec rfl (fun h => absurd he h) (fun _ => ?_)
      focus (refine gc_skip ?_; refine gx_next ?_; refine gc_seq ?_; refine gc_seq ?_; refine gc_region ?_; apply gw_d; exact det_m rfl rfl (by conv => (lhs; whnf)); apply gw_d; exact det_cmp rfl rfl rfl rfl rfl; apply gw_d; exact det_m rfl rfl (by conv => (lhs; whnf)); refine gw_guard_dec rfl rfl (fun _ => ?_) (fun _ => ?_); apply gw_d; exact det_not rfl; apply gw_d; exact det_not rfl; apply gw_d; exact det_not rfl; apply gw_d; exact det_not rfl; apply gw_d; exact det_pick_t (v := .bool _) rfl rfl rfl rfl; apply gw_d; exact det_m rfl rfl (by conv => (lhs; whnf)); apply gw_d; exact det_not rfl; apply gw_d; exact det_not rfl; apply gw_d; exact det_pick_t (v := .bool _) rfl rfl rfl rfl; apply gw_d; exact det_m rfl rfl (by conv => (lhs; whnf)); apply gw_d; exact det_not rfl; apply gw_d; exact det_not rfl; apply gw_d; exact det_not rfl; apply gw_d; exact det_not rfl; apply gw_d; exact det_pick_t (v := .bool _) rfl rfl rfl rfl; refine gw_nil ?_; refine gx_next ?_; refine gc_if_true rfl ?_; refine gc_seq ?_; refine gc_region ?_; apply gw_d; exact det_m rfl rfl (by conv => (lhs; whnf)); apply gw_d; exact det_m rfl rfl (by conv => (lhs; whnf)); refine gw_nil ?_; refine gx_next ?_; refine gc_ret ?_; refine gx_then_ret ?_; rotate_left; apply gw_d; exact det_m rfl rfl (by conv => (lhs; whnf)); apply gw_d; exact det_m rfl rfl (by conv => (lhs; whnf)); apply gw_d; exact w_len rfl rfl rfl; apply gw_d; exact det_cmp rfl rfl rfl rfl rfl; apply gw_d; exact det_pick_f (v := .bool _) rfl rfl rfl rfl; apply gw_d; exact det_m rfl rfl (by conv => (lhs; whnf)); refine gw_guard_dec rfl rfl (fun _ => ?_) (fun _ => ?_); apply gw_d; exact det_not rfl; apply gw_d; exact det_not rfl; apply gw_d; exact det_pick_t (v := .bool _) rfl rfl rfl rfl; apply gw_d; exact det_m rfl rfl (by conv => (lhs; whnf)); apply gw_d; exact det_not rfl; apply gw_d; exact det_not rfl; apply gw_d; exact det_not rfl; apply gw_d; exact det_not rfl; apply gw_d; exact det_pick_t (v := .bool _) rfl rfl rfl rfl; refine gw_nil ?_; refine gx_next ?_; refine gc_if_true rfl ?_; refine gc_seq ?_; refine gc_region ?_; apply gw_d; exact det_m rfl rfl (by conv => (lhs; whnf)); apply gw_d; exact det_m rfl rfl (by conv => (lhs; whnf)); refine gw_nil ?_; refine gx_next ?_; refine gc_ret ?_; refine gx_then_ret ?_; rotate_left; apply gw_d; exact det_m rfl rfl (by conv => (lhs; whnf)); apply gw_d; exact det_cmp rfl rfl rfl rfl rfl; apply gw_d; exact det_pick_f (v := .bool _) rfl rfl rfl rfl; apply gw_d; exact det_m rfl rfl (by conv => (lhs; whnf)); refine gw_guard_dec rfl rfl (fun _ => ?_) (fun _ => ?_); apply gw_d; exact det_not rfl; apply gw_d; exact det_not rfl; apply gw_d; exact det_not rfl; apply gw_d; exact det_not rfl; apply gw_d; exact det_pick_t (v := .bool _) rfl rfl rfl rfl; refine gw_nil ?_; refine gx_next ?_; refine gc_if_true rfl ?_; refine gc_seq ?_; refine gc_region ?_; apply gw_d; exact det_m rfl rfl (by conv => (lhs; whnf)); apply gw_d; exact det_m rfl rfl (by conv => (lhs; whnf)); refine gw_nil ?_; refine gx_next ?_; refine gc_ret ?_; refine gx_then_ret ?_; rotate_left; apply gw_d; exact det_m rfl rfl (by conv => (lhs; whnf)); apply gw_d; exact det_m rfl rfl (by conv => (lhs; whnf)); apply gw_d; exact w_len rfl rfl rfl; apply gw_d; exact det_cmp rfl rfl rfl rfl rfl; apply gw_d; exact det_pick_f (v := .bool _) rfl rfl rfl rfl; refine gw_nil ?_; refine gx_next ?_; refine gc_if_dec rfl (fun _ => ?_) (fun _ => ?_); refine gc_seq ?_; refine gc_region ?_; apply gw_d; exact det_m rfl rfl (by conv => (lhs; whnf)); apply gw_d; exact det_m rfl rfl (by conv => (lhs; whnf)); refine gw_nil ?_; refine gx_next ?_; refine gc_ret ?_; refine gx_then_ret ?_; rotate_left; refine gc_skip ?_; refine gx_next ?_; refine gc_seq ?_; refine gc_region ?_; apply gw_d; exact det_m rfl rfl (by conv => (lhs; whnf)); apply gw_d; exact det_m rfl rfl (by conv => (lhs; whnf)); rotate_left)
      all_goals first | (exfalso; omega) | (refine gx_ret2 (u := .bool _) (v := .int _ _) rfl rfl rfl (fun _ _ => ?_); rfl)
  · have h2 : beforeE l a b = listE l (-1) := by unfold beforeE; rw [if_pos he]
    have h3 : beforeV l a b = false := by unfold beforeV; rw [h2, if_neg he]
    rw [h2, h3]
    refine ok_enter Tryz.func23 rfl Tryz.ntmps23 rfl ?_
    focus (refine gc_seq ?_; refine gc_region ?_; apply gw_d; exact det_m rfl rfl (by conv => (lhs; whnf)); apply gw_d; exact det_m rfl rfl (by conv => (lhs; whnf)); refine gw_nil ?_; refine gx_next ?_; refine gc_seq ?_; refine gc_seq ?_; refine gc_region ?_; apply gw_d; exact det_m rfl rfl (by conv => (lhs; whnf)); apply gw_d; exact w_call rfl rfl (fun w s => sound_ok w _ l (hl.later s)) rfl; apply gw_d; exact det_m rfl rfl (by conv => (lhs; whnf)); refine gw_nil ?_; refine gx_next ?_; refine gc_seq ?_; refine gc_region ?_; apply gw_d; exact det_m rfl rfl (by conv => (lhs; whnf)); apply gw_d; exact det_cmp rfl rfl rfl rfl rfl; refine gw_nil ?_; refine gx_next ?_)
    refine gc_if_dec rfl (fun _ => ?_) (fun h => absurd he h)
    focus (refine gc_seq ?_; refine gc_region ?_; apply gw_d; exact det_m rfl rfl (by conv => (lhs; whnf)); apply gw_d; exact det_m rfl rfl (by conv => (lhs; whnf)); apply gw_d; exact det_m rfl rfl (by conv => (lhs; whnf)); refine gw_nil ?_; refine gx_next ?_; refine gc_ret ?_; refine gx_then_ret ?_)
    refine gx_ret2 (u := .bool _) (v := .int _ _) rfl rfl rfl (fun _ _ => ?_)
    rfl
end Go.Proofs.YteiboodeepjanaaGreat
