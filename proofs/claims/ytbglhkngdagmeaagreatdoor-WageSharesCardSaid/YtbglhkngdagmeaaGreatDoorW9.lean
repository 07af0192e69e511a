/- Contracts: wages, given what operation.Check answers. -/
import Derived.Test.YtbglhkngdagmeaaGreatDoorS3
namespace Go.Proofs.YtbglhkngdagmeaaGreatDoor
open Go.RowKit
set_option maxRecDepth 100000
set_option maxHeartbeats 8000000

def paysE (r le e : Int) (bs : List Bun) (ws : List Wrk) (n : Nat) : Int := if ¬ tarE r le = 0 then tarE r le else judgeAllE e bs ws n
section
variable {w : World} {v0 v1 v2 v3 v4 v5 v6 vb vw vx : Value} {e r le : Int} {l : List Opn} {bs : List Bun} {ws : List Wrk} {xs : List Scn} (hO : ∀ (L : List Res) (w' : World), St w L w' → Ok Tryz.prog 72 [.agg #[v0, v1, v2, v3, v4, v5, v6]].toArray w' fun x _ => x = .int .i64 e) (hL : Lay w)
include hO hL
theorem Pays_bad (hb : Sl rBun w w.heap.size vb bs) (hw : Sl rWrk w w.heap.size vw ws) (hx : Sl rScn w w.heap.size vx xs) (he : ¬ paysE r le e bs ws xs.length = 0) : Ok Tryz.prog 25 [.agg #[v0, v1, v2, v3, v4, v5, v6], vb, vw, vx, .agg #[.int .i64 r, .int .i64 le]].toArray w fun x _ => x = .tuple #[.slice none 0 0, .int .i64 (paysE r le e bs ws xs.length)] := by
  have hC : ∀ (L : List Res) (w' : World), St w L w' → Ok Tryz.prog 19 [.agg #[.int .i64 r, .int .i64 le]].toArray w' fun x _ => x = .int .i64 (tarE r le) := fun L w' s => wCheck_ok w' r le (hL.later s)
  by_cases h1 : tarE r le = 0
  · have hE : paysE r le e bs ws xs.length = judgeAllE e bs ws xs.length := by unfold paysE; rw [if_neg (by rw [h1]; decide)]
    rw [hE] at he ⊢
    rw [h1] at hC
    have hJ : ∀ (L : List Res) (w' : World), St w L w' → Ok Tryz.prog 41 [.agg #[v0, v1, v2, v3, v4, v5, v6], vb, vw, vx].toArray w' fun x _ => x = .tuple #[.slice none 0 0, .int .i64 (judgeAllE e bs ws xs.length)] := fun L w' s => Judge_bad (hO_later hO s) (hb.later s) (hw.later s) (hx.later s) he
    refine ok_enter Tryz.func25 rfl Tryz.ntmps25 rfl ?_
    focus (refine gc_seq ?_; refine gc_region ?_; refine gw_boxd (v := .agg _) rfl rfl (fun _ => ?_); refine gw_boxd (v := .agg _) rfl rfl (fun _ => ?_); apply gw_d; exact det_m rfl rfl (by conv => (lhs; whnf)); apply gw_d; exact det_m rfl rfl (by conv => (lhs; whnf)); refine gw_nil ?_; refine gx_next ?_; refine gc_seq ?_; refine gc_seq ?_; refine gc_region ?_; apply gw_d; exact w_load_boxN rfl rfl rfl .here rfl; apply gw_d; exact w_call rfl rfl (hC _) rfl; apply gw_d; exact det_m rfl rfl (by conv => (lhs; whnf)); refine gw_nil ?_; refine gx_next ?_; refine gc_seq ?_; refine gc_region ?_; apply gw_d; exact det_m rfl rfl (by conv => (lhs; whnf)); apply gw_d; exact det_cmp rfl rfl rfl rfl rfl; refine gw_nil ?_; refine gx_next ?_)
    refine gc_if_dec rfl (fun h => absurd rfl h) (fun _ => ?_)
    focus (refine gc_skip ?_; refine gx_next ?_; refine gc_seq ?_; refine gc_region ?_; apply gw_d; exact w_load_boxN rfl rfl rfl (.there .here) rfl; apply gw_d; exact det_m rfl rfl (by conv => (lhs; whnf)); apply gw_d; exact det_m rfl rfl (by conv => (lhs; whnf)); apply gw_d; exact det_m rfl rfl (by conv => (lhs; whnf)); apply gw_d; exact w_call rfl rfl (hJ _) rfl; apply gw_d; exact det_m rfl rfl (by conv => (lhs; whnf)); apply gw_d; exact det_extract rfl rfl rfl (by conv => (lhs; whnf)); apply gw_d; exact det_extract rfl rfl rfl (by conv => (lhs; whnf)); apply gw_d; exact det_m rfl rfl (by conv => (lhs; whnf)); apply gw_d; exact det_m rfl rfl (by conv => (lhs; whnf)); refine gw_nil ?_; refine gx_next ?_; refine gc_seq ?_; refine gc_seq ?_; refine gc_region ?_; apply gw_d; exact det_m rfl rfl (by conv => (lhs; whnf)); apply gw_d; exact det_cmp rfl rfl rfl rfl rfl; refine gw_nil ?_; refine gx_next ?_)
    refine gc_if_dec rfl (fun _ => ?_) (fun h => absurd he h)
    focus (refine gc_seq ?_; refine gc_region ?_; apply gw_d; exact det_m rfl rfl (by conv => (lhs; whnf)); apply gw_d; exact det_m rfl rfl (by conv => (lhs; whnf)); apply gw_d; exact det_m rfl rfl (by conv => (lhs; whnf)); refine gw_nil ?_; refine gx_next ?_; refine gc_ret ?_; refine gx_then_ret ?_)
    refine gx_ret2 (u := .slice _ _ _) (v := .int _ _) rfl rfl rfl (fun _ _ => ?_)
    rfl
  · have hE : paysE r le e bs ws xs.length = tarE r le := by unfold paysE; rw [if_pos h1]
    rw [hE]
    refine ok_enter Tryz.func25 rfl Tryz.ntmps25 rfl ?_
    focus (refine gc_seq ?_; refine gc_region ?_; refine gw_boxd (v := .agg _) rfl rfl (fun _ => ?_); refine gw_boxd (v := .agg _) rfl rfl (fun _ => ?_); apply gw_d; exact det_m rfl rfl (by conv => (lhs; whnf)); apply gw_d; exact det_m rfl rfl (by conv => (lhs; whnf)); refine gw_nil ?_; refine gx_next ?_; refine gc_seq ?_; refine gc_seq ?_; refine gc_region ?_; apply gw_d; exact w_load_boxN rfl rfl rfl .here rfl; apply gw_d; exact w_call rfl rfl (hC _) rfl; apply gw_d; exact det_m rfl rfl (by conv => (lhs; whnf)); refine gw_nil ?_; refine gx_next ?_; refine gc_seq ?_; refine gc_region ?_; apply gw_d; exact det_m rfl rfl (by conv => (lhs; whnf)); apply gw_d; exact det_cmp rfl rfl rfl rfl rfl; refine gw_nil ?_; refine gx_next ?_)
    refine gc_if_dec rfl (fun _ => ?_) (fun h => absurd h1 h)
    focus (refine gc_seq ?_; refine gc_region ?_; apply gw_d; exact det_m rfl rfl (by conv => (lhs; whnf)); apply gw_d; exact det_m rfl rfl (by conv => (lhs; whnf)); apply gw_d; exact det_m rfl rfl (by conv => (lhs; whnf)); refine gw_nil ?_; refine gx_next ?_; refine gc_ret ?_; refine gx_then_ret ?_)
    refine gx_ret2 (u := .slice _ _ _) (v := .int _ _) rfl rfl rfl (fun _ _ => ?_)
    rfl
theorem Pays_ok (hl : Sl rOp w w.heap.size v6 l) (hb : Sl rBun w w.heap.size vb bs) (hw : Sl rWrk w w.heap.size vw ws) (hx : Sl rScn w w.heap.size vx xs) (hS : Small l) (hMin : ∀ k (hk : k < l.length), 0 ≤ l[k].minutes ∧ l[k].minutes ≤ 10000) (he : paysE r le e bs ws xs.length = 0) :
    OkM Tryz.prog 25 [.agg #[v0, v1, v2, v3, v4, v5, v6], vb, vw, vx, .agg #[.int .i64 r, .int .i64 le]].toArray w (fun x : Option Addr × Nat => .tuple #[.slice x.1 (paysL r le l bs ws xs).length x.2, .int .i64 0]) (fun x => [Own x.1 (paysL r le l bs ws xs).length x.2 55 3 ((paysL r le l bs ws xs).flatMap encP)]) := by
  have h1 : tarE r le = 0 := by
    unfold paysE at he
    split at he
    · rename_i h; exact absurd he h
    · rename_i h; simpa using h
  have h2 : judgeAllE e bs ws xs.length = 0 := by
    unfold paysE at he
    rw [if_neg (by rw [h1]; decide)] at he
    exact he
  have h3 : scanE e bs ws = 0 := by
    unfold judgeAllE at h2
    split at h2
    · rename_i h; exact absurd h2 h
    · rename_i h; simpa using h
  have h300 : xs.length ≤ 300 := by
    unfold judgeAllE at h2
    rw [if_neg (by rw [h3]; decide)] at h2
    split at h2
    · cases h2
    · omega
  have hOk := scan_good h3
  have h12 : ws.length ≤ 12 := by
    have := hOk.skill
    unfold skillE at this
    split at this
    · cases this
    · omega
  obtain ⟨hr, hle⟩ := tar_zero h1
  have htl : (ticks bs).length = bs.length := by simp [ticks]
  have hC : ∀ (L : List Res) (w' : World), St w L w' → Ok Tryz.prog 19 [.agg #[.int .i64 r, .int .i64 le]].toArray w' fun x _ => x = .int .i64 0 := fun L w' s => by
    have := wCheck_ok w' r le (hL.later s)
    rw [h1] at this
    exact this
  obtain ⟨Al, cl, rfl, hlc, hlm⟩ := len_small hl
  obtain ⟨Ab, cb, rfl, hbc, hbm, hbcell⟩ := hb.bun
  obtain ⟨Aw, cw, rfl, hwc, hwm, _⟩ := hw.wrk
  obtain ⟨Ax, cx, rfl, hxc, hxm, hxcell⟩ := hx.scn
  unfold OkM
  refine ok_enter Tryz.func25 rfl Tryz.ntmps25 rfl ?_
  focus (refine gc_seq ?_; refine gc_region ?_; refine gw_boxd (v := .agg _) rfl rfl (fun _ => ?_); refine gw_boxd (v := .agg _) rfl rfl (fun _ => ?_); apply gw_d; exact det_m rfl rfl (by conv => (lhs; whnf)); apply gw_d; exact det_m rfl rfl (by conv => (lhs; whnf)); refine gw_nil ?_; refine gx_next ?_; refine gc_seq ?_; refine gc_seq ?_; refine gc_region ?_; apply gw_d; exact w_load_boxN rfl rfl rfl .here rfl; apply gw_d; exact w_call rfl rfl (hC _) rfl; apply gw_d; exact det_m rfl rfl (by conv => (lhs; whnf)); refine gw_nil ?_; refine gx_next ?_; refine gc_seq ?_; refine gc_region ?_; apply gw_d; exact det_m rfl rfl (by conv => (lhs; whnf)); apply gw_d; exact det_cmp rfl rfl rfl rfl rfl; refine gw_nil ?_; refine gx_next ?_)
  rename_i bv bt
  refine gc_if_dec rfl (fun h => absurd rfl h) (fun _ => ?_)
  focus (refine gc_skip ?_; refine gx_next ?_; refine gc_seq ?_; refine gc_region ?_; apply gw_d; exact w_load_boxN rfl rfl rfl (.there .here) rfl; apply gw_d; exact det_m rfl rfl (by conv => (lhs; whnf)); apply gw_d; exact det_m rfl rfl (by conv => (lhs; whnf)); apply gw_d; exact det_m rfl rfl (by conv => (lhs; whnf)))
  refine gw_callm rfl (fun w' s => Judge_ok (hO_later hO s) (hl.later s) (hb.later s) (hw.later s) (hx.later s) hS h2) rfl (fun g => ?_)
  focus (apply gw_d; exact det_m rfl rfl (by conv => (lhs; whnf)); apply gw_d; exact det_extract rfl rfl rfl (by conv => (lhs; whnf)); apply gw_d; exact det_extract rfl rfl rfl (by conv => (lhs; whnf)); apply gw_d; exact det_m rfl rfl (by conv => (lhs; whnf)); apply gw_d; exact det_m rfl rfl (by conv => (lhs; whnf)); refine gw_nil ?_; refine gx_next ?_; refine gc_seq ?_; refine gc_seq ?_; refine gc_region ?_; apply gw_d; exact det_m rfl rfl (by conv => (lhs; whnf)); apply gw_d; exact det_cmp rfl rfl rfl rfl rfl; refine gw_nil ?_; refine gx_next ?_)
  refine gc_if_dec rfl (fun h => absurd rfl h) (fun _ => ?_)
  focus (refine gc_skip ?_; refine gx_next ?_; refine gc_seq ?_; refine gc_region ?_)
  refine gw_makeMap kInt rfl (fun bm => ?_)
  focus (apply gw_d; exact det_m rfl rfl (by conv => (lhs; whnf)); refine gw_nil ?_; refine gx_next ?_; refine gc_seq ?_; refine gc_seq ?_; refine gc_region ?_; apply gw_d; exact det_m rfl rfl (by conv => (lhs; whnf)); apply gw_d; exact w_len rfl rfl rfl; apply gw_d; exact det_m rfl rfl (by conv => (lhs; whnf)); refine gw_nil ?_; refine gx_next ?_; refine gc_block ?_)
  refine gc_loop (σ := Nat) [47, 48, 49, 17, 50, 51, 52, 53, 54, 55, 56, 57, 58, 46] (fun k => [(46, .int .i64 k)]) (fun k => [MapR bm kInt (mapV (ticks bs) (cntV bs) k), Box g 3 ((outs l ws (ticks bs) [] xs).map (Value.int .i64)).toArray, Box bt 23 #[.int .i64 r, .int .i64 le], Box bv 43 #[v0, v1, v2, v3, v4, v5, .slice Al l.length cl]]) (fun k => k ≤ bs.length) (fun k => bs.length - k) 0 (Nat.zero_le _) ⟨rfl, trivial⟩ (.cons .here (.cons .here (.cons .here (.cons .here .nil)))) ?_
  rintro k base hk
  focus (refine gc_seq ?_; refine gc_region ?_; apply gw_d; exact det_cmp rfl rfl rfl rfl rfl; refine gw_nil ?_; refine gx_next ?_; refine gc_seq ?_)
  refine gc_if_dec rfl (fun h => ?_) (fun h => ?_)
  · have hlt : k < bs.length := by omega
    obtain ⟨ad, rfl, hbk, hce, i1, i2, i3⟩ := hbcell k hlt
    have hpl := hOk.plies k hlt
    focus (refine gc_skip ?_; refine gx_next ?_; refine gc_seq ?_; refine gc_block ?_; refine gc_seq ?_; refine gc_region ?_; apply gw_d; exact w_index rfl rfl rfl rfl (by with_reducible exact rfl) (by omega); apply gw_d; exact w_load_elem rfl rfl rfl (by assumption) (by assumption) (by rfl); refine w_alloc rfl (fun _ => ?_); refine w_store_all rfl rfl rfl rfl rfl .here rfl ?_; refine gw_nil ?_; refine gx_next ?_; refine gc_region ?_; apply gw_d; exact det_m rfl rfl (by conv => (lhs; whnf)); apply gw_d; exact w_field rfl rfl rfl; apply gw_d; exact w_load_box rfl rfl rfl .here rfl; apply gw_d; exact w_field rfl rfl rfl; apply gw_d; exact w_load_box rfl rfl rfl .here rfl; apply gw_d; exact w_field rfl rfl rfl; apply gw_d; exact w_load_box rfl rfl rfl .here rfl; apply gw_d; exact det_ar rfl rfl rfl rfl rfl (by omega))
    refine gw_mapSet (k := bs[k].tick) (v := .int .i64 (bs[k].upto - bs[k].fr)) intLawC rfl rfl rfl rfl (.there .here) ?_
    have hmap : aset (mapV (ticks bs) (cntV bs) k) bs[k].tick (.int .i64 (bs[k].upto - bs[k].fr)) = mapV (ticks bs) (cntV bs) (k + 1) := by
      show _ = aset (mapV (ticks bs) (cntV bs) k) (tkAt (ticks bs) k) (cntV bs k)
      rw [ticks_at hlt, cntV_at hlt]
    rw [hmap]
    focus (refine gw_nil ?_; refine gx_block ?_; refine gx_next ?_; refine gc_region ?_; apply gw_d; exact det_ar rfl rfl rfl rfl rfl (by omega); apply gw_d; exact det_m rfl rfl (by conv => (lhs; whnf)); refine gw_nil ?_)
    exact gx_round (k + 1) hlt (by omega) (by repeat (first | exact Keeps.refl | refine Keeps.upd rfl ?_ | refine Keeps.sets rfl ?_ | refine Keeps.havoc rfl ?_)) ⟨rfl, trivial⟩ (.cons .here (.cons (.there .here) (.cons (.there .here) (.cons (.there .here) .nil))))
  obtain rfl : k = bs.length := by omega
  focus (refine gc_exit ?_; refine gx_then_exit ?_; refine gx_then_exit ?_; refine gx_block_exit ?_; refine gx_next ?_; refine gc_seq ?_; refine gc_region ?_; apply gw_d; exact det_m rfl rfl (by conv => (lhs; whnf)); apply gw_d; exact w_len rfl rfl rfl)
  refine gw_make1 (n := ws.length) rfl rfl rfl rfl rfl (by omega) (by omega) rfl (fun ga => ?_)
  have hA0 : ∀ m, amts r le l bs (paidL l ws (ticks bs) (xs.take 0)) m = [] := fun m => rfl
  have hrow0 : rowC ws.length (fun _ => (none, 0)) (amts r le l bs (paidL l ws (ticks bs) (xs.take 0))) = List.replicate ws.length (.slice none 0 0) := by
    apply List.ext_getElem
    · simp [rowC]
    · intro i a1 a2
      simp only [rowC, List.getElem_map, List.getElem_range, List.getElem_replicate]
      rw [hA0]
      rfl
  rw [show Array.replicate ws.length ((Value.slice none 0 0).cells.getD 0 undef) = (rowC ws.length (fun _ => (none, 0)) (amts r le l bs (paidL l ws (ticks bs) (xs.take 0)))).toArray from by rw [hrow0]; simp [Value.cells]]
  focus (apply gw_d; exact det_m rfl rfl (by conv => (lhs; whnf)); refine gw_nil ?_; refine gx_next ?_; refine gc_seq ?_; refine gc_seq ?_; refine gc_region ?_; apply gw_d; exact det_m rfl rfl (by conv => (lhs; whnf)); apply gw_d; exact w_len rfl rfl rfl; apply gw_d; exact det_m rfl rfl (by conv => (lhs; whnf)); refine gw_nil ?_; refine gx_next ?_; refine gc_block ?_)
  refine gc_ent (rows_nil (n := ws.length) (el := 94) hA0) ?_
  refine gc_loop (σ := Nat × (Nat → Option Addr × Nat)) [65, 66, 67, 68, 20, 19, 69, 70, 71, 72, 73, 75, 76, 77, 78, 79, 80, 81, 82, 83, 84, 85, 86, 87, 74, 88, 89, 21, 22, 90, 91, 92, 10, 11, 93, 94, 95, 96, 97, 98, 99, 100, 101, 102, 103, 104, 105, 64] (fun s => [(64, .int .i64 s.1)]) (fun s => [Coll ws.length (rowR 94 s.2 (amts r le l bs (paidL l ws (ticks bs) (xs.take s.1)))), Box ga 93 (rowC ws.length s.2 (amts r le l bs (paidL l ws (ticks bs) (xs.take s.1)))).toArray, MapR bm kInt (mapV (ticks bs) (cntV bs) bs.length), Box g 3 ((outs l ws (ticks bs) [] xs).map (Value.int .i64)).toArray, Box bt 23 #[.int .i64 r, .int .i64 le], Box bv 43 #[v0, v1, v2, v3, v4, v5, .slice Al l.length cl]]) (fun s => s.1 ≤ xs.length) (fun s => xs.length - s.1) (0, fun _ => (none, 0)) (Nat.zero_le _) ⟨rfl, trivial⟩ (.cons .here (.cons .here (.cons .here (.cons .here (.cons .here (.cons .here .nil)))))) ?_
  rintro ⟨i, A⟩ base2 hi
  dsimp only at hi ⊢
  focus (refine gc_seq ?_; refine gc_region ?_; apply gw_d; exact det_cmp rfl rfl rfl rfl rfl; refine gw_nil ?_; refine gx_next ?_; refine gc_seq ?_)
  refine gc_if_dec rfl (fun h4 => ?_) (fun h4 => ?_)
  · have hil : i < xs.length := by omega
    obtain ⟨ad2, rfl, hxk, hcx, x1, x2, x3, x4⟩ := hxcell i hil
    have hol := outs_len l ws (ticks bs) xs []
    have hout : (outs l ws (ticks bs) [] xs).getD i 0 = outE l ws (ticks bs) (paidL l ws (ticks bs) (xs.take i)) xs[i] := outs_at hil
    have hgo : (((outs l ws (ticks bs) [] xs).map (Value.int .i64)).toArray)[i * 1]? = some (.int .i64 (outE l ws (ticks bs) (paidL l ws (ticks bs) (xs.take i)) xs[i])) := by
      rw [← hout]
      exact row_get (Value.int .i64) 0 (by omega)
    have hpsn := paidL_snoc l ws (ticks bs) (xs.take i) xs[i]
    rw [← List.take_succ_eq_append_getElem hil] at hpsn
    have hps := paidL_len l ws (ticks bs) (xs.take i)
    rw [List.length_take, Nat.min_eq_left (by omega)] at hps
    generalize paidL l ws (ticks bs) (xs.take i) = ps at *
    generalize outs l ws (ticks bs) [] xs = os at *
    generalize xs[i] = x at *
    focus (refine gc_skip ?_; refine gx_next ?_; refine gc_seq ?_; refine gc_block ?_; refine gc_seq ?_; refine gc_region ?_; apply gw_d; exact det_m rfl rfl (by conv => (lhs; whnf)); apply gw_d; exact w_index rfl rfl rfl rfl (by with_reducible exact rfl) (by omega); apply gw_d; exact w_load_elem rfl rfl rfl (by assumption) (by assumption) (by rfl); refine w_alloc rfl (fun _ => ?_); apply gw_d; exact det_m rfl rfl (by conv => (lhs; whnf)); refine w_store_all rfl rfl rfl rfl rfl .here rfl ?_; refine gw_nil ?_; refine gx_next ?_; refine gc_seq ?_; refine gc_seq ?_; refine gc_region ?_; apply gw_d; exact det_m rfl rfl (by conv => (lhs; whnf)); apply gw_d; exact det_m rfl rfl (by conv => (lhs; whnf)); apply gw_d; exact w_index rfl rfl rfl rfl (by with_reducible exact rfl) (by omega); apply gw_d; exact w_load_row rfl rfl rfl (.there (.there (.there (.there .here)))) hgo; apply gw_d; exact det_cmp rfl rfl rfl rfl rfl; refine gw_nil ?_; refine gx_next ?_)
    rename_i bx
    refine gc_if_dec rfl (fun h5 => ?_) (fun h5 => ?_)
    · have hN : nextP l ws (ticks bs) ps x = ps := by unfold nextP; rw [if_neg h5]
      rw [hN] at hpsn
      focus (refine gc_exit ?_; refine gx_then_exit ?_; refine gx_block_exit ?_; refine gx_next ?_; refine gc_region ?_; apply gw_d; exact det_ar rfl rfl rfl rfl rfl (by omega); apply gw_d; exact det_m rfl rfl (by conv => (lhs; whnf)); refine gw_nil ?_)
      refine gx_round (i + 1, A) hil (by dsimp only; omega) (by repeat (first | exact Keeps.refl | refine Keeps.upd rfl ?_ | refine Keeps.sets rfl ?_ | refine Keeps.havoc rfl ?_)) ⟨rfl, trivial⟩ ?_
      dsimp only
      rw [hpsn]
      exact Sub.tail
    have h1x : outE l ws (ticks bs) ps x = 1 := by simpa using h5
    have hN : nextP l ws (ticks bs) ps x = ps ++ [x] := by unfold nextP; rw [if_pos h1x]
    rw [hN] at hpsn
    obtain ⟨hT, hkn⟩ := out_one h1x
    obtain ⟨o, ho⟩ : ∃ o : Nat, x.op = (o : Int) := ⟨x.op.toNat, by omega⟩
    obtain ⟨m, hmw⟩ : ∃ m : Nat, x.who = (m : Int) := ⟨x.who.toNat, by omega⟩
    have hol2 : o < l.length := by omega
    have hml : m < ws.length := by omega
    obtain ⟨j, hj, hjt⟩ := tk_has hT
    have hjb : j < bs.length := by omega
    have hget := mapV_old (f := cntV bs) hOk.tix bs.length (by omega) j hjb
    rw [hjt, cntV_at hjb] at hget
    rw [ticks_at hjb] at hjt
    have hcnt : cntAt bs x.tick = bs[j].upto - bs[j].fr := by rw [← hjt]; exact cnt_at hOk.tix hjb
    rw [← hcnt] at hget
    have hpl := hOk.plies j hjb
    obtain ⟨ad3, _, hv, _, _, hb3, hocell⟩ := hl.at' 5 rfl (by omega)
    injection hv with e1 e2 e3
    subst e1 e3
    obtain ⟨cs, hce, Aa, ca, Au, cu, rfl, hnm, q1, q2⟩ := hocell o hol2
    have hce2 := hce 2 _ rfl
    have hmin : minAt l x.op = l[o].minutes := by
      unfold minAt
      rw [ho, Int.toNat_natCast, List.getElem?_eq_getElem hol2]
      rfl
    have hM := hMin o hol2
    have hamE : amtE r le l[o].minutes (cntAt bs x.tick) = 0 := by
      unfold amtE
      rw [if_neg (by rw [h1]; decide), if_neg (by omega)]
    have hamV : amtV r le l[o].minutes (cntAt bs x.tick) = amtOf r le l bs x := by unfold amtOf; rw [hmin]
    have hAm : ∀ (L : List Res) (w' : World), St w L w' → Ok Tryz.prog 15 [.agg #[.int .i64 r, .int .i64 le], .int .i64 l[o].minutes, .int .i64 (cntAt bs x.tick)].toArray w' fun y _ => y = .tuple #[.int .i64 (amtOf r le l bs x), .int .i64 0] := fun L w' s => by
      have := wAmount_ok w' r le l[o].minutes (cntAt bs x.tick) (hL.later s)
      rw [hamE, hamV] at this
      exact this
    focus (refine gc_skip ?_; refine gx_next ?_; refine gc_seq ?_)
    refine gc_draw2 17 (by kernel_rfl) (by kernel_rfl) ?_
    focus (apply gd_d; exact w_load_boxN rfl rfl rfl (.there (.there (.there (.there (.there .here))))) rfl; apply gd_d; exact w_field rfl rfl rfl; apply gd_d; exact w_load_box rfl rfl rfl (.there (.there (.there (.there (.there (.there .here)))))) rfl; apply gd_d; exact w_field rfl rfl rfl; apply gd_d; exact w_load_box rfl rfl rfl .here rfl; apply gd_d; exact w_index (m := o) rfl rfl rfl rfl ho hol2; apply gd_d; exact w_field rfl rfl rfl; apply gd_d; exact w_load_fld rfl rfl rfl (by assumption) (by assumption); apply gd_d; exact det_m rfl rfl (by conv => (lhs; whnf)); apply gd_d; exact w_field rfl rfl rfl; apply gd_d; exact w_load_box rfl rfl rfl .here rfl; apply gd_d; exact det_eq (c' := .int .i64 (cntAt bs x.tick)) (w_lookup (k := x.tick) intLawC rfl rfl rfl rfl (.there (.there (.there .here)))) (by rw [hget]; rfl); apply gd_d; exact w_call rfl rfl (hAm _) rfl; apply gd_d; exact det_m rfl rfl (by conv => (lhs; whnf)); apply gd_d; exact det_extract rfl rfl rfl (by conv => (lhs; whnf)); apply gd_d; exact det_extract rfl rfl rfl (by conv => (lhs; whnf)); apply gd_d; exact det_m rfl rfl (by conv => (lhs; whnf)); refine gd_nil ?_; apply gw_d; exact det_m rfl rfl (by conv => (lhs; whnf)); refine gw_nil ?_; refine gx_next ?_; refine gc_seq ?_; refine gc_seq ?_; refine gc_region ?_; apply gw_d; exact det_m rfl rfl (by conv => (lhs; whnf)); apply gw_d; exact det_cmp rfl rfl rfl rfl rfl; refine gw_nil ?_; refine gx_next ?_)
    refine gc_if_dec rfl (fun h => absurd rfl h) (fun _ => ?_)
    focus (refine gc_skip ?_; refine gx_next ?_)
    have hFs : ∀ q, amts r le l bs (ps ++ [x]) q = if q = m then amts r le l bs ps m ++ [amtOf r le l bs x] else amts r le l bs ps q := fun q => by
      rw [amts_snoc, hmw]
      by_cases hq : q = m
      · subst hq; simp
      · have : ¬ (m : Int) = (q : Int) := by omega
        simp [hq, this]
    have hlenF : (amts r le l bs ps m).length ≤ 300 := by have := amts_len r le l bs ps m; omega
    generalize hF : amts r le l bs ps = F at *
    generalize amtOf r le l bs x = v at *
    refine gc_ent (Ent.trans (Sub.ent (K := [Coll ws.length (rowR 94 A F), Box bx 61 #[.int .i64 x.tick, .int .i64 x.op, .int .i64 x.who, .int .i64 x.time], Box ga 93 (rowC ws.length A F).toArray, MapR bm kInt (mapV (ticks bs) (cntV bs) bs.length), Box g 3 (os.map (Value.int .i64)).toArray, Box bt 23 #[.int .i64 r, .int .i64 le], Box bv 43 #[v0, v1, v2, v3, v4, v5, .slice (some ad3) l.length cl]]) (.cons (.there .here) (.cons .here (.cons .here (.cons .here (.cons .here (.cons .here (.cons .here .nil)))))))) (coll_take hml)) ?_
    generalize hLr : [Coll ws.length (setR (rowR 94 A F) m Emp), Box bx 61 #[.int .i64 x.tick, .int .i64 x.op, .int .i64 x.who, .int .i64 x.time], Box ga 93 (rowC ws.length A F).toArray, MapR bm kInt (mapV (ticks bs) (cntV bs) bs.length), Box g 3 (os.map (Value.int .i64)).toArray, Box bt 23 #[.int .i64 r, .int .i64 le], Box bv 43 #[v0, v1, v2, v3, v4, v5, .slice (some ad3) l.length cl]] = Lr
    obtain ⟨Lx, hpx⟩ : ∃ Lx, Pick Lr (Box bx 61 #[.int .i64 x.tick, .int .i64 x.op, .int .i64 x.who, .int .i64 x.time]) Lx := by rw [← hLr]; exact ⟨_, .there .here⟩
    obtain ⟨Lg, hpg⟩ : ∃ Lg, Pick Lr (Box ga 93 (rowC ws.length A F).toArray) Lg := by rw [← hLr]; exact ⟨_, .there (.there .here)⟩
    refine gc_blockJ (P := Tryz.prog) (Nat × Option Addr × Nat) 11 (fun i => ([[], [], [1], [], [], [4], [3, 4, 5], [3, 4, 5, 6], [], [8], [3, 4, 5, 6, 7, 8, 9]] : List (List Nat)).getD i []) (fun i γ => match i with
      | 0 => .slice (some ⟨ga, 0, none⟩) ws.length ws.length
      | 1 => .pointer (some ((⟨bx, 0, none⟩ : Addr).add 2))
      | 2 => .int .i64 x.who
      | 3 => .slice (some ⟨ga, 0, none⟩) ws.length ws.length
      | 4 => .pointer (some ((⟨bx, 0, none⟩ : Addr).add 2))
      | 5 => .int .i64 x.who
      | 6 => .pointer (some ((⟨ga, 0, none⟩ : Addr).add (m * 1)))
      | 7 => .slice (A m).1 (F m).length (A m).2
      | 8 => .int .i64 v
      | 9 => .slice (some ⟨(γ 9).1, 0, none⟩) 1 1
      | 10 => .slice (γ 10).2.1 ((F m).length + 1) (γ 10).2.2
      | _ => undef) (fun ls β w' => St w ((if ls 10 = true then Own (β 10).2.1 ((F m).length + 1) (β 10).2.2 94 1 ((F m).map (Value.int .i64) ++ [.int .i64 v]) else rowR 94 A F m) :: ((if ls 9 = true then [Box (β 9).1 94 #[.int .i64 v]] else []) ++ Lr)) w') rfl (by kernel_rfl) (fun w' s => s) ?_ ?_
    · intro i o ls β w' hi hik hls hpl hJ
      have hS0 : St w Lr w' := by
        have := hJ.drop
        exact this.sublist (List.sublist_append_right _ _)
      obtain rfl | rfl | rfl | rfl | rfl | rfl | rfl | rfl | rfl | rfl | rfl : i = 0 ∨ i = 1 ∨ i = 2 ∨ i = 3 ∨ i = 4 ∨ i = 5 ∨ i = 6 ∨ i = 7 ∨ i = 8 ∨ i = 9 ∨ i = 10 := by omega
      · cases hi
        exact detG (det_m (v := .slice (some ⟨ga, 0, none⟩) ws.length ws.length) rfl rfl rfl) rfl hS0 (fun w2 hx => ⟨default, rfl, St.ext hJ hx⟩)
      · cases hi
        exact detG (w_field rfl rfl rfl) rfl hS0 (fun w2 hx => ⟨default, rfl, St.ext hJ hx⟩)
      · cases hi
        exact detG (w_load_box rfl rfl rfl hpx rfl) rfl hS0 (fun w2 hx => ⟨default, rfl, St.ext hJ hx⟩)
      · cases hi
        exact detG (det_m (v := .slice (some ⟨ga, 0, none⟩) ws.length ws.length) rfl rfl rfl) rfl hS0 (fun w2 hx => ⟨default, rfl, St.ext hJ hx⟩)
      · cases hi
        exact detG (w_field rfl rfl rfl) rfl hS0 (fun w2 hx => ⟨default, rfl, St.ext hJ hx⟩)
      · cases hi
        exact detG (w_load_box rfl rfl rfl hpx rfl) rfl hS0 (fun w2 hx => ⟨default, rfl, St.ext hJ hx⟩)
      · cases hi
        exact detG (w_index (m := m) rfl rfl rfl rfl hmw hml) rfl hS0 (fun w2 hx => ⟨default, rfl, St.ext hJ hx⟩)
      · cases hi
        exact detG (w_load_row rfl rfl rfl hpg (rowC_get A F hml)) rfl hS0 (fun w2 hx => ⟨default, rfl, St.ext hJ hx⟩)
      · cases hi
        exact detG (det_m (v := .int .i64 v) rfl rfl rfl) rfl hS0 (fun w2 hx => ⟨default, rfl, St.ext hJ hx⟩)
      · cases hi
        rw [hls] at hJ
        refine ⟨rfl, (stepG_bslice1 (v := .int .i64 v) rfl rfl rfl rfl hJ).mono fun u w2 hu => ?_⟩
        obtain ⟨b, hu, s2⟩ := hu
        exact ⟨(b, none, 0), hu, St.sub (.cons (.there .here) (.cons .here (Sub.all _))) s2⟩
      · cases hi
        have h9 : ls 9 = true := hpl 9 (by decide)
        rw [hls, h9] at hJ
        refine ⟨rfl, (stepG_append (sz := 1) (z := .int .i64 0) (n := (F m).length) (m := 1) (xs := (F m).map (Value.int .i64)) (news := [.int .i64 v]) rfl rfl .here rfl (fun w3 s3 _ => ?_) (fun u hu => ?_) (by unfold maxLen; omega) (by omega) (by decide) rfl hJ).mono fun u w2 hu => ?_⟩
        · refine ⟨⟨(β 9).1, 0, none⟩, rfl, fun i u hu => ?_⟩
          rw [add_zero]
          refine (Box.cell s3.drop.head i).trans ?_
          change (#[Value.int .i64 v] : Array Value)[i]? = some u
          rw [List.getElem?_toArray]
          exact hu
        · rw [List.mem_singleton] at hu
          subst hu
          rfl
        · obtain ⟨A', c', hu, s2⟩ := hu
          refine ⟨(0, A', c'), hu, ?_⟩
          show St w (Own A' ((F m).length + 1) c' 94 1 ((F m).map (Value.int .i64) ++ [.int .i64 v]) :: ((if ls 9 = true then [Box (β 9).1 94 #[.int .i64 v]] else []) ++ Lr)) w2
          rw [h9]
          exact s2
    · intro ls β w' hall hJ
      rw [hall 9 (by decide), hall 10 (by decide)] at hJ
      subst hLr
      have hF' : amts r le l bs (ps ++ [x]) m = F m ++ [v] := by rw [hFs, if_pos rfl]
      have hFo : ∀ q, ¬ q = m → amts r le l bs (ps ++ [x]) q = F q := fun q hq => by rw [hFs, if_neg hq]
      have hlen' : (amts r le l bs (ps ++ [x]) m).length = (F m).length + 1 := by rw [hF']; simp
      have hJ2 : St w (Own (β 10).2.1 ((F m).length + 1) (β 10).2.2 94 1 ((F m).map (Value.int .i64) ++ [.int .i64 v]) :: Box (β 9).1 94 #[.int .i64 v] :: [Coll ws.length (setR (rowR 94 A F) m Emp), Box bx 61 #[.int .i64 x.tick, .int .i64 x.op, .int .i64 x.who, .int .i64 x.time], Box ga 93 (rowC ws.length A F).toArray, MapR bm kInt (mapV (ticks bs) (cntV bs) bs.length), Box g 3 (os.map (Value.int .i64)).toArray, Box bt 23 #[.int .i64 r, .int .i64 le], Box bv 43 #[v0, v1, v2, v3, v4, v5, .slice (some ad3) l.length cl]]) w' := hJ
      refine GW.h (P := Tryz.prog) ?_ w' hJ2
      have hrl := rowC_len ws.length A F
      refine gw_d (w_index (m := m) rfl rfl rfl rfl hmw hml) ?_
      refine w_store_row (n := 1) (v := .slice (β 10).2.1 ((F m).length + 1) (β 10).2.2) (cs' := (rowC ws.length (setA A m (β 10).2) (amts r le l bs (ps ++ [x]))).toArray) rfl rfl rfl rfl rfl (.there (.there (.there (.there .here)))) (by simp; omega) (by
        rw [Nat.mul_one, set_row (by simp; omega) rfl]
        have := rowC_set (n := ws.length) (A := A) (F := F) (F' := amts r le l bs (ps ++ [x])) hml (a := (β 10).2) hFo
        rw [hlen'] at this
        rw [← this]) ?_
      focus (refine gw_nil ?_; refine gx_block ?_; refine gx_next ?_; refine gc_region ?_; apply gw_d; exact det_ar rfl rfl rfl rfl rfl (by omega); apply gw_d; exact det_m rfl rfl (by conv => (lhs; whnf)); refine gw_nil ?_)
      refine gx_roundE (i + 1, setA A m (β 10).2) hil (by dsimp only; omega) (by repeat (first | exact Keeps.refl | refine Keeps.upd rfl ?_ | refine Keeps.sets rfl ?_ | refine Keeps.havoc rfl ?_)) ⟨rfl, trivial⟩ ?_
      dsimp only
      rw [hpsn]
      refine Ent.trans (Sub.ent (K := [Own (β 10).2.1 ((F m).length + 1) (β 10).2.2 94 1 ((F m).map (Value.int .i64) ++ [.int .i64 v]), Coll ws.length (setR (rowR 94 A F) m Emp), Box ga 93 (rowC ws.length (setA A m (β 10).2) (amts r le l bs (ps ++ [x]))).toArray, MapR bm kInt (mapV (ticks bs) (cntV bs) bs.length), Box g 3 (os.map (Value.int .i64)).toArray, Box bt 23 #[.int .i64 r, .int .i64 le], Box bv 43 #[v0, v1, v2, v3, v4, v5, .slice (some ad3) l.length cl]]) (.cons (.there .here) (.cons (.there (.there .here)) (.cons .here (.cons (.there (.there .here)) (.cons (.there (.there .here)) (.cons (.there (.there .here)) (.cons (.there (.there .here)) .nil)))))))) ?_
      have hp := row_put (n := ws.length) (el := 94) (A := A) (F := F) (F' := amts r le l bs (ps ++ [x])) (a := (β 10).2) (L := [Box ga 93 (rowC ws.length (setA A m (β 10).2) (amts r le l bs (ps ++ [x]))).toArray, MapR bm kInt (mapV (ticks bs) (cntV bs) bs.length), Box g 3 (os.map (Value.int .i64)).toArray, Box bt 23 #[.int .i64 r, .int .i64 le], Box bv 43 #[v0, v1, v2, v3, v4, v5, .slice (some ad3) l.length cl]]) hml hFo
      rw [hF', List.map_append, List.length_append] at hp
      exact hp
  obtain rfl : i = xs.length := by omega
  rw [List.take_length]
  have hpl := paidL_len l ws (ticks bs) xs
  have hFr : ∀ m, ∀ y ∈ amts r le l bs (paidL l ws (ticks bs) xs) m, 0 ≤ y ∧ y ≤ 1000000000 := fun m => amts_range
  have hFl : ∀ m, (amts r le l bs (paidL l ws (ticks bs) xs) m).length ≤ 300 := fun m => by have := amts_len r le l bs (paidL l ws (ticks bs) xs) m; omega
  have hPL : paysL r le l bs ws xs = payP le (amts r le l bs (paidL l ws (ticks bs) xs)) ws.length := rfl
  rw [hPL]
  generalize amts r le l bs (paidL l ws (ticks bs) xs) = F at *
  focus (refine gc_exit ?_; refine gx_then_exit ?_; refine gx_then_exit ?_; refine gx_block_exit ?_; refine gx_next ?_; refine gc_seq ?_; refine gc_region ?_; apply gw_d; exact det_m rfl rfl (by conv => (lhs; whnf)); refine gw_nil ?_; refine gx_next ?_; refine gc_seq ?_; refine gc_seq ?_; refine gc_region ?_; apply gw_d; exact det_m rfl rfl (by conv => (lhs; whnf)); apply gw_d; exact w_len rfl rfl rfl; apply gw_d; exact det_m rfl rfl (by conv => (lhs; whnf)); refine gw_nil ?_; refine gx_next ?_; refine gc_block ?_)
  refine gc_own0 55 3 ?_
  refine gc_loop (σ := Nat × Option Addr × Nat) [109, 110, 111, 112, 24, 25, 113, 114, 115, 116, 117, 26, 118, 119, 120, 121, 122, 123, 124, 125, 126, 127, 128, 23, 129, 108] (fun s => [(108, .int .i64 s.1), (23, .slice s.2.1 (payP le F s.1).length s.2.2)]) (fun s => [Own s.2.1 (payP le F s.1).length s.2.2 55 3 ((payP le F s.1).flatMap encP), Coll ws.length (rowR 94 A F), Box ga 93 (rowC ws.length A F).toArray, Box bt 23 #[.int .i64 r, .int .i64 le]]) (fun s => s.1 ≤ ws.length) (fun s => ws.length - s.1) (0, none, 0) (Nat.zero_le _) ⟨rfl, rfl, trivial⟩ (.cons .here (.cons .here (.cons .here (.cons (.there (.there .here)) .nil)))) ?_
  rintro ⟨k, P, c⟩ base3 hk3
  dsimp only at hk3 ⊢
  have hsn := payP_snoc le F k
  have hpk := payP_len le F k
  focus (refine gc_seq ?_; refine gc_region ?_; apply gw_d; exact det_cmp rfl rfl rfl rfl rfl; refine gw_nil ?_; refine gx_next ?_; refine gc_seq ?_)
  refine gc_if_dec rfl (fun h6 => ?_) (fun h6 => ?_)
  · have hkl : k < ws.length := by omega
    have hrg := rowC_get A F hkl
    have hsum := sumI_range (hFr k) (F k).length (Nat.le_refl _)
    rw [List.take_length] at hsum
    have hfl := hFl k
    focus (refine gc_skip ?_; refine gx_next ?_; refine gc_seq ?_; refine gc_block ?_; refine gc_seq ?_; refine gc_region ?_; apply gw_d; exact det_m rfl rfl (by conv => (lhs; whnf)); apply gw_d; exact w_index rfl rfl rfl rfl (by with_reducible exact rfl) (by omega); apply gw_d; exact w_load_row rfl rfl rfl (.there (.there .here)) hrg; apply gw_d; exact det_m rfl rfl (by conv => (lhs; whnf)); apply gw_d; exact det_m rfl rfl (by conv => (lhs; whnf)); refine gw_nil ?_; refine gx_next ?_; refine gc_seq ?_; refine gc_seq ?_; refine gc_region ?_; apply gw_d; exact det_m rfl rfl (by conv => (lhs; whnf)); apply gw_d; exact w_len rfl rfl rfl; apply gw_d; exact det_cmp rfl rfl rfl rfl rfl; refine gw_nil ?_; refine gx_next ?_)
    refine gc_if_dec rfl (fun h7 => ?_) (fun h7 => ?_)
    · have h0 : payOf le k (F k) = [] := by unfold payOf; rw [if_pos (by omega)]
      rw [h0, List.append_nil] at hsn
      focus (refine gc_exit ?_; refine gx_then_exit ?_; refine gx_block_exit ?_; refine gx_next ?_; refine gc_region ?_; apply gw_d; exact det_ar rfl rfl rfl rfl rfl (by omega); apply gw_d; exact det_m rfl rfl (by conv => (lhs; whnf)); refine gw_nil ?_)
      refine gx_round (k + 1, P, c) hkl (by dsimp only; omega) (by repeat (first | exact Keeps.refl | refine Keeps.upd rfl ?_ | refine Keeps.sets rfl ?_ | refine Keeps.havoc rfl ?_)) ⟨rfl, by rw [hsn]; rfl, trivial⟩ ?_
      dsimp only
      rw [hsn]
      exact Sub.all _
    have h1p : payOf le k (F k) = [⟨k, sumI (F k), max (le - sumI (F k)) 0⟩] := by unfold payOf; rw [if_neg (by omega)]
    rw [h1p] at hsn
    focus (refine gc_skip ?_; refine gx_next ?_; refine gc_seq ?_; refine gc_region ?_; apply gw_d; exact det_m rfl rfl (by conv => (lhs; whnf)); apply gw_d; exact w_call rfl rfl (fun w' s => total_ok w' _ (F k) (Sl.rowAt s (.there .here) hkl (fun y hy => by have := hFr k y hy; unfold inI64; omega)) (hFr k) hfl) rfl; apply gw_d; exact det_m rfl rfl (by conv => (lhs; whnf)); refine gw_nil ?_; refine gx_next ?_; refine gc_region ?_; apply gw_d; exact det_m rfl rfl (by conv => (lhs; whnf)); apply gw_d; exact det_m rfl rfl (by conv => (lhs; whnf)); apply gw_d; exact det_m rfl rfl (by conv => (lhs; whnf)); apply gw_d; exact w_field rfl rfl rfl; apply gw_d; exact w_load_box rfl rfl rfl (.there (.there (.there .here))) rfl; apply gw_d; exact det_m rfl rfl (by conv => (lhs; whnf)); apply gw_d; exact det_ar rfl rfl rfl rfl rfl (by omega); apply gw_d; exact w_max rfl rfl rfl rfl; apply gw_d; exact w_buildP [(0, .int .i64 (k : Int)), (1, .int .i64 (sumI (F k))), (2, .int .i64 (max (le - sumI (F k)) 0))] (cells := #[.int .i64 (k : Int), .int .i64 (sumI (F k)), .int .i64 (max (le - sumI (F k)) 0)]) (by rfl) rfl rfl rfl)
    refine gw_bslice1 (v := .agg #[.int .i64 (k : Int), .int .i64 (sumI (F k)), .int .i64 (max (le - sumI (F k)) 0)]) rfl rfl rfl rfl rfl (fun bb => ?_)
    refine gw_append (news := [.int .i64 (k : Int), .int .i64 (sumI (F k)), .int .i64 (max (le - sumI (F k)) 0)]) rfl rfl rfl (.there .here) rfl (fun w' s _ => ?_) (fun u hu => ?_) (by unfold maxLen; omega) (by omega) (by decide) rfl (fun A3 c3 => ?_)
    · refine ⟨⟨bb, 0, none⟩, rfl, fun i u hu => ?_⟩
      rw [add_zero]
      refine (Box.cell s.head i).trans ?_
      change (#[Value.int .i64 (k : Int), .int .i64 (sumI (F k)), .int .i64 (max (le - sumI (F k)) 0)] : Array Value)[i]? = some u
      rw [List.getElem?_toArray]
      exact hu
    · simp only [List.mem_cons, List.not_mem_nil, or_false] at hu
      rcases hu with rfl | rfl | rfl <;> rfl
    · focus (apply gw_d; exact det_m rfl rfl (by conv => (lhs; whnf)); refine gw_nil ?_; refine gx_block ?_; refine gx_next ?_; refine gc_region ?_; apply gw_d; exact det_ar rfl rfl rfl rfl rfl (by omega); apply gw_d; exact det_m rfl rfl (by conv => (lhs; whnf)); refine gw_nil ?_)
      refine gx_round (k + 1, A3, c3) hkl (by dsimp only; omega) (by repeat (first | exact Keeps.refl | refine Keeps.upd rfl ?_ | refine Keeps.sets rfl ?_ | refine Keeps.havoc rfl ?_)) ⟨rfl, by rw [hsn, List.length_append]; rfl, trivial⟩ ?_
      dsimp only
      rw [hsn, List.length_append, List.flatMap_append]
      exact .cons .here (.cons (.there .here) (.cons (.there .here) (.cons (.there .here) .nil)))
  · obtain rfl : k = ws.length := by omega
    focus (refine gc_exit ?_; refine gx_then_exit ?_; refine gx_then_exit ?_; refine gx_block_exit ?_; refine gx_next ?_; refine gc_seq ?_; refine gc_region ?_; apply gw_d; exact det_m rfl rfl (by conv => (lhs; whnf)); apply gw_d; exact det_m rfl rfl (by conv => (lhs; whnf)); apply gw_d; exact det_m rfl rfl (by conv => (lhs; whnf)); refine gw_nil ?_; refine gx_next ?_; refine gc_ret ?_)
    exact gx_ret2 (u := .slice _ _ _) (v := .int _ _) rfl rfl rfl (fun w' s => ⟨(P, c), rfl, (St.sub (K := [Own P (payP le F ws.length).length c 55 3 ((payP le F ws.length).flatMap encP)]) (.cons .here .nil) s).sep⟩)
end
end Go.Proofs.YtbglhkngdagmeaaGreatDoor
