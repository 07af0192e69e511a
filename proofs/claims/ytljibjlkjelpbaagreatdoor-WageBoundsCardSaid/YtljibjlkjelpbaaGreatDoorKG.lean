/- Texts in one file: W9 W10 W11 Q10 W12 Case Open Open57 Open2 Open3. -/
import Derived.Test.YtljibjlkjelpbaaGreatDoorKF
import Derived.Test.YtljibjlkjelpbaaGreatDoorKE
import Derived.Test.YtljibjlkjelpbaaGreatDoorKB
import Derived.Lib.LaidTab
import Derived.LaidByTextLater
/- Contracts: wages, given what operation.Check answers. -/
namespace Go.Proofs.YtljibjlkjelpbaaGreatDoor
open Go.RowKit
set_option maxRecDepth 100000
set_option maxHeartbeats 8000000

def paysE (r le e : Int) (bs : List Bun) (ws : List Wrk) (n : Nat) : Int := if ¬ tarE r le = 0 then tarE r le else judgeAllE e bs ws n
section
variable {w : World} {v0 v1 v2 v3 v4 v5 v6 vb vw vx : Value} {e r le : Int} {l : List Opn} {bs : List Bun} {ws : List Wrk} {xs : List Scn} (hO : ∀ (L : List Res) (w' : World), St w L w' → Ok Tryz.prog 53 [.agg #[v0, v1, v2, v3, v4, v5, v6]].toArray w' fun x _ => x = .int .i64 e) (hL : Lay w)
include hO hL
theorem Pays_bad (hb : Sl rBun w w.heap.size vb bs) (hw : Sl rWrk w w.heap.size vw ws) (hx : Sl rScn w w.heap.size vx xs) (he : ¬ paysE r le e bs ws xs.length = 0) : Ok Tryz.prog 17 [.agg #[v0, v1, v2, v3, v4, v5, v6], vb, vw, vx, .agg #[.int .i64 r, .int .i64 le]].toArray w fun x _ => x = .tuple #[.slice none 0 0, .int .i64 (paysE r le e bs ws xs.length)] := by
  have hC : ∀ (L : List Res) (w' : World), St w L w' → Ok Tryz.prog 33 [.agg #[.int .i64 r, .int .i64 le]].toArray w' fun x _ => x = .int .i64 (tarE r le) := fun L w' s => wCheck_ok w' r le (hL.later s)
  by_cases h1 : tarE r le = 0
  · have hE : paysE r le e bs ws xs.length = judgeAllE e bs ws xs.length := by unfold paysE; rw [if_neg (by rw [h1]; decide)]
    rw [hE] at he ⊢
    rw [h1] at hC
    have hJ : ∀ (L : List Res) (w' : World), St w L w' → Ok Tryz.prog 37 [.agg #[v0, v1, v2, v3, v4, v5, v6], vb, vw, vx].toArray w' fun x _ => x = .tuple #[.slice none 0 0, .int .i64 (judgeAllE e bs ws xs.length)] := fun L w' s => Judge_bad (hO_later hO s) (hb.later s) (hw.later s) (hx.later s) he
    refine ok_enter Tryz.func17 rfl Tryz.ntmps17 rfl ?_
    focus (refine gc_seq ?_; refine gc_region ?_; refine gw_boxd (v := .agg _) rfl rfl (fun _ => ?_); refine gw_boxd (v := .agg _) rfl rfl (fun _ => ?_); apply gw_d; exact det_m rfl rfl (by conv => (lhs; whnf)); apply gw_d; exact det_m rfl rfl (by conv => (lhs; whnf)); refine gw_nil ?_; refine gx_next ?_; refine gc_seq ?_; refine gc_seq ?_; refine gc_region ?_; apply gw_d; exact w_load_boxN rfl rfl rfl .here rfl; apply gw_d; exact w_call rfl rfl (hC _) rfl; apply gw_d; exact det_m rfl rfl (by conv => (lhs; whnf)); refine gw_nil ?_; refine gx_next ?_; refine gc_seq ?_; refine gc_region ?_; apply gw_d; exact det_m rfl rfl (by conv => (lhs; whnf)); apply gw_d; exact det_cmp rfl rfl rfl rfl rfl; refine gw_nil ?_; refine gx_next ?_)
    refine gc_if_dec rfl (fun h => absurd rfl h) (fun _ => ?_)
    focus (refine gc_skip ?_; refine gx_next ?_; refine gc_seq ?_; refine gc_region ?_; apply gw_d; exact w_load_boxN rfl rfl rfl (.there .here) rfl; apply gw_d; exact det_m rfl rfl (by conv => (lhs; whnf)); apply gw_d; exact det_m rfl rfl (by conv => (lhs; whnf)); apply gw_d; exact det_m rfl rfl (by conv => (lhs; whnf)); apply gw_d; exact w_call rfl rfl (hJ _) rfl; apply gw_d; exact det_m rfl rfl (by conv => (lhs; whnf)); apply gw_d; exact det_extract rfl rfl rfl (by conv => (lhs; whnf)); apply gw_d; exact det_extract rfl rfl rfl (by conv => (lhs; whnf)); apply gw_d; exact det_m rfl rfl (by conv => (lhs; whnf)); apply gw_d; exact det_m rfl rfl (by conv => (lhs; whnf)); refine gw_nil ?_; refine gx_next ?_; refine gc_seq ?_; refine gc_seq ?_; refine gc_region ?_; apply gw_d; exact det_m rfl rfl (by conv => (lhs; whnf)); apply gw_d; exact det_cmp rfl rfl rfl rfl rfl; refine gw_nil ?_; refine gx_next ?_)
    refine gc_if_dec rfl (fun _ => ?_) (fun h => absurd he h)
    focus (refine gc_seq ?_; refine gc_region ?_; apply gw_d; exact det_m rfl rfl (by conv => (lhs; whnf)); apply gw_d; exact det_m rfl rfl (by conv => (lhs; whnf)); apply gw_d; exact det_m rfl rfl (by conv => (lhs; whnf)); refine gw_nil ?_; refine gx_next ?_; refine gc_ret ?_; refine gx_then_ret ?_)
    refine gx_ret2 (u := .slice _ _ _) (v := .int _ _) rfl rfl rfl (fun _ _ => ?_)
    rfl
  · have hE : paysE r le e bs ws xs.length = tarE r le := by unfold paysE; rw [if_pos h1]
    rw [hE]
    refine ok_enter Tryz.func17 rfl Tryz.ntmps17 rfl ?_
    focus (refine gc_seq ?_; refine gc_region ?_; refine gw_boxd (v := .agg _) rfl rfl (fun _ => ?_); refine gw_boxd (v := .agg _) rfl rfl (fun _ => ?_); apply gw_d; exact det_m rfl rfl (by conv => (lhs; whnf)); apply gw_d; exact det_m rfl rfl (by conv => (lhs; whnf)); refine gw_nil ?_; refine gx_next ?_; refine gc_seq ?_; refine gc_seq ?_; refine gc_region ?_; apply gw_d; exact w_load_boxN rfl rfl rfl .here rfl; apply gw_d; exact w_call rfl rfl (hC _) rfl; apply gw_d; exact det_m rfl rfl (by conv => (lhs; whnf)); refine gw_nil ?_; refine gx_next ?_; refine gc_seq ?_; refine gc_region ?_; apply gw_d; exact det_m rfl rfl (by conv => (lhs; whnf)); apply gw_d; exact det_cmp rfl rfl rfl rfl rfl; refine gw_nil ?_; refine gx_next ?_)
    refine gc_if_dec rfl (fun _ => ?_) (fun h => absurd h1 h)
    focus (refine gc_seq ?_; refine gc_region ?_; apply gw_d; exact det_m rfl rfl (by conv => (lhs; whnf)); apply gw_d; exact det_m rfl rfl (by conv => (lhs; whnf)); apply gw_d; exact det_m rfl rfl (by conv => (lhs; whnf)); refine gw_nil ?_; refine gx_next ?_; refine gc_ret ?_; refine gx_then_ret ?_)
    refine gx_ret2 (u := .slice _ _ _) (v := .int _ _) rfl rfl rfl (fun _ _ => ?_)
    rfl
theorem Pays_ok (hl : Sl rOp w w.heap.size v6 l) (hb : Sl rBun w w.heap.size vb bs) (hw : Sl rWrk w w.heap.size vw ws) (hx : Sl rScn w w.heap.size vx xs) (hS : Small l) (hMin : ∀ k (hk : k < l.length), 0 ≤ l[k].minutes ∧ l[k].minutes ≤ 10000) (he : paysE r le e bs ws xs.length = 0) :
    OkM Tryz.prog 17 [.agg #[v0, v1, v2, v3, v4, v5, v6], vb, vw, vx, .agg #[.int .i64 r, .int .i64 le]].toArray w (fun x : Option Addr × Nat => .tuple #[.slice x.1 (paysL r le l bs ws xs).length x.2, .int .i64 0]) (fun x => [Own x.1 (paysL r le l bs ws xs).length x.2 44 3 ((paysL r le l bs ws xs).flatMap encP)]) := by
  have h1 : tarE r le = 0 := by
    unfold paysE at he
    split at he
    · rename_i h; exact absurd he h
    · rename_i h; simpa using h
  have h2 : judgeAllE e bs ws xs.length = 0 := by
    unfold paysE at he
    rw [if_neg (by rw [h1]; decide)] at he
    exact he
  have h3 : scanE e bs ws = 0 := by
    unfold judgeAllE at h2
    split at h2
    · rename_i h; exact absurd h2 h
    · rename_i h; simpa using h
  have h300 : xs.length ≤ 300 := by
    unfold judgeAllE at h2
    rw [if_neg (by rw [h3]; decide)] at h2
    split at h2
    · cases h2
    · omega
  have hOk := scan_good h3
  have h12 : ws.length ≤ 12 := by
    have := hOk.skill
    unfold skillE at this
    split at this
    · cases this
    · omega
  obtain ⟨hr, hle⟩ := tar_zero h1
  have htl : (ticks bs).length = bs.length := by simp [ticks]
  have hC : ∀ (L : List Res) (w' : World), St w L w' → Ok Tryz.prog 33 [.agg #[.int .i64 r, .int .i64 le]].toArray w' fun x _ => x = .int .i64 0 := fun L w' s => by
    have := wCheck_ok w' r le (hL.later s)
    rw [h1] at this
    exact this
  obtain ⟨Al, cl, rfl, hlc, hlm⟩ := len_small hl
  obtain ⟨Ab, cb, rfl, hbc, hbm, hbcell⟩ := hb.bun
  obtain ⟨Aw, cw, rfl, hwc, hwm, _⟩ := hw.wrk
  obtain ⟨Ax, cx, rfl, hxc, hxm, hxcell⟩ := hx.scn
  unfold OkM
  refine ok_enter Tryz.func17 rfl Tryz.ntmps17 rfl ?_
  focus (refine gc_seq ?_; refine gc_region ?_; refine gw_boxd (v := .agg _) rfl rfl (fun _ => ?_); refine gw_boxd (v := .agg _) rfl rfl (fun _ => ?_); apply gw_d; exact det_m rfl rfl (by conv => (lhs; whnf)); apply gw_d; exact det_m rfl rfl (by conv => (lhs; whnf)); refine gw_nil ?_; refine gx_next ?_; refine gc_seq ?_; refine gc_seq ?_; refine gc_region ?_; apply gw_d; exact w_load_boxN rfl rfl rfl .here rfl; apply gw_d; exact w_call rfl rfl (hC _) rfl; apply gw_d; exact det_m rfl rfl (by conv => (lhs; whnf)); refine gw_nil ?_; refine gx_next ?_; refine gc_seq ?_; refine gc_region ?_; apply gw_d; exact det_m rfl rfl (by conv => (lhs; whnf)); apply gw_d; exact det_cmp rfl rfl rfl rfl rfl; refine gw_nil ?_; refine gx_next ?_)
  rename_i bv bt
  refine gc_if_dec rfl (fun h => absurd rfl h) (fun _ => ?_)
  focus (refine gc_skip ?_; refine gx_next ?_; refine gc_seq ?_; refine gc_region ?_; apply gw_d; exact w_load_boxN rfl rfl rfl (.there .here) rfl; apply gw_d; exact det_m rfl rfl (by conv => (lhs; whnf)); apply gw_d; exact det_m rfl rfl (by conv => (lhs; whnf)); apply gw_d; exact det_m rfl rfl (by conv => (lhs; whnf)))
  refine gw_callm rfl (fun w' s => Judge_ok (hO_later hO s) (hl.later s) (hb.later s) (hw.later s) (hx.later s) hS h2) rfl (fun g => ?_)
  focus (apply gw_d; exact det_m rfl rfl (by conv => (lhs; whnf)); apply gw_d; exact det_extract rfl rfl rfl (by conv => (lhs; whnf)); apply gw_d; exact det_extract rfl rfl rfl (by conv => (lhs; whnf)); apply gw_d; exact det_m rfl rfl (by conv => (lhs; whnf)); apply gw_d; exact det_m rfl rfl (by conv => (lhs; whnf)); refine gw_nil ?_; refine gx_next ?_; refine gc_seq ?_; refine gc_seq ?_; refine gc_region ?_; apply gw_d; exact det_m rfl rfl (by conv => (lhs; whnf)); apply gw_d; exact det_cmp rfl rfl rfl rfl rfl; refine gw_nil ?_; refine gx_next ?_)
  refine gc_if_dec rfl (fun h => absurd rfl h) (fun _ => ?_)
  focus (refine gc_skip ?_; refine gx_next ?_; refine gc_seq ?_; refine gc_region ?_)
  refine gw_makeMap kInt rfl (fun bm => ?_)
  focus (apply gw_d; exact det_m rfl rfl (by conv => (lhs; whnf)); refine gw_nil ?_; refine gx_next ?_; refine gc_seq ?_; refine gc_seq ?_; refine gc_region ?_; apply gw_d; exact det_m rfl rfl (by conv => (lhs; whnf)); apply gw_d; exact w_len rfl rfl rfl; apply gw_d; exact det_m rfl rfl (by conv => (lhs; whnf)); refine gw_nil ?_; refine gx_next ?_; refine gc_block ?_)
  refine gc_loop (σ := Nat) [47, 48, 49, 17, 50, 51, 52, 53, 54, 55, 56, 57, 58, 46] (fun k => [(46, .int .i64 k)]) (fun k => [MapR bm kInt (mapV (ticks bs) (cntV bs) k), Box g 3 ((outs l ws (ticks bs) [] xs).map (Value.int .i64)).toArray, Box bt 36 #[.int .i64 r, .int .i64 le], Box bv 29 #[v0, v1, v2, v3, v4, v5, .slice Al l.length cl]]) (fun k => k ≤ bs.length) (fun k => bs.length - k) 0 (Nat.zero_le _) ⟨rfl, trivial⟩ (.cons .here (.cons .here (.cons .here (.cons .here .nil)))) ?_
  rintro k base hk
  focus (refine gc_seq ?_; refine gc_region ?_; apply gw_d; exact det_cmp rfl rfl rfl rfl rfl; refine gw_nil ?_; refine gx_next ?_; refine gc_seq ?_)
  refine gc_if_dec rfl (fun h => ?_) (fun h => ?_)
  · have hlt : k < bs.length := by omega
    obtain ⟨ad, rfl, hbk, hce, i1, i2, i3⟩ := hbcell k hlt
    have hpl := hOk.plies k hlt
    focus (refine gc_skip ?_; refine gx_next ?_; refine gc_seq ?_; refine gc_block ?_; refine gc_seq ?_; refine gc_region ?_; apply gw_d; exact w_index rfl rfl rfl rfl (by with_reducible exact rfl) (by omega); apply gw_d; exact w_load_elem rfl rfl rfl (by assumption) (by assumption) (by rfl); refine w_alloc rfl (fun _ => ?_); refine w_store_all rfl rfl rfl rfl rfl .here rfl ?_; refine gw_nil ?_; refine gx_next ?_; refine gc_region ?_; apply gw_d; exact det_m rfl rfl (by conv => (lhs; whnf)); apply gw_d; exact w_field rfl rfl rfl; apply gw_d; exact w_load_box rfl rfl rfl .here rfl; apply gw_d; exact w_field rfl rfl rfl; apply gw_d; exact w_load_box rfl rfl rfl .here rfl; apply gw_d; exact w_field rfl rfl rfl; apply gw_d; exact w_load_box rfl rfl rfl .here rfl; apply gw_d; exact det_ar rfl rfl rfl rfl rfl (by omega))
    refine gw_mapSet (k := bs[k].tick) (v := .int .i64 (bs[k].upto - bs[k].fr)) intLawC rfl rfl rfl rfl (.there .here) ?_
    have hmap : aset (mapV (ticks bs) (cntV bs) k) bs[k].tick (.int .i64 (bs[k].upto - bs[k].fr)) = mapV (ticks bs) (cntV bs) (k + 1) := by
      show _ = aset (mapV (ticks bs) (cntV bs) k) (tkAt (ticks bs) k) (cntV bs k)
      rw [ticks_at hlt, cntV_at hlt]
    rw [hmap]
    focus (refine gw_nil ?_; refine gx_block ?_; refine gx_next ?_; refine gc_region ?_; apply gw_d; exact det_ar rfl rfl rfl rfl rfl (by omega); apply gw_d; exact det_m rfl rfl (by conv => (lhs; whnf)); refine gw_nil ?_)
    exact gx_round (k + 1) hlt (by omega) (by repeat (first | exact Keeps.refl | refine Keeps.upd rfl ?_ | refine Keeps.sets rfl ?_ | refine Keeps.havoc rfl ?_)) ⟨rfl, trivial⟩ (.cons .here (.cons (.there .here) (.cons (.there .here) (.cons (.there .here) .nil))))
  obtain rfl : k = bs.length := by omega
  focus (refine gc_exit ?_; refine gx_then_exit ?_; refine gx_then_exit ?_; refine gx_block_exit ?_; refine gx_next ?_; refine gc_seq ?_; refine gc_region ?_; apply gw_d; exact det_m rfl rfl (by conv => (lhs; whnf)); apply gw_d; exact w_len rfl rfl rfl)
  refine gw_make1 (n := ws.length) rfl rfl rfl rfl rfl (by omega) (by omega) rfl (fun ga => ?_)
  have hA0 : ∀ m, amts r le l bs (paidL l ws (ticks bs) (xs.take 0)) m = [] := fun m => rfl
  have hrow0 : rowC ws.length (fun _ => (none, 0)) (amts r le l bs (paidL l ws (ticks bs) (xs.take 0))) = List.replicate ws.length (.slice none 0 0) := by
    apply List.ext_getElem
    · simp [rowC]
    · intro i a1 a2
      simp only [rowC, List.getElem_map, List.getElem_range, List.getElem_replicate]
      rw [hA0]
      rfl
  rw [show Array.replicate ws.length ((Value.slice none 0 0).cells.getD 0 undef) = (rowC ws.length (fun _ => (none, 0)) (amts r le l bs (paidL l ws (ticks bs) (xs.take 0)))).toArray from by rw [hrow0]; simp [Value.cells]]
  focus (apply gw_d; exact det_m rfl rfl (by conv => (lhs; whnf)); refine gw_nil ?_; refine gx_next ?_; refine gc_seq ?_; refine gc_seq ?_; refine gc_region ?_; apply gw_d; exact det_m rfl rfl (by conv => (lhs; whnf)); apply gw_d; exact w_len rfl rfl rfl; apply gw_d; exact det_m rfl rfl (by conv => (lhs; whnf)); refine gw_nil ?_; refine gx_next ?_; refine gc_block ?_)
  refine gc_ent (rows_nil (n := ws.length) (el := 96) hA0) ?_
  refine gc_loop (σ := Nat × (Nat → Option Addr × Nat)) [65, 66, 67, 68, 20, 19, 69, 70, 71, 72, 73, 75, 76, 77, 78, 79, 80, 81, 82, 83, 84, 85, 86, 87, 74, 88, 89, 21, 22, 90, 91, 92, 10, 11, 93, 94, 95, 96, 97, 98, 99, 100, 101, 102, 103, 104, 105, 64] (fun s => [(64, .int .i64 s.1)]) (fun s => [Coll ws.length (rowR 96 s.2 (amts r le l bs (paidL l ws (ticks bs) (xs.take s.1)))), Box ga 95 (rowC ws.length s.2 (amts r le l bs (paidL l ws (ticks bs) (xs.take s.1)))).toArray, MapR bm kInt (mapV (ticks bs) (cntV bs) bs.length), Box g 3 ((outs l ws (ticks bs) [] xs).map (Value.int .i64)).toArray, Box bt 36 #[.int .i64 r, .int .i64 le], Box bv 29 #[v0, v1, v2, v3, v4, v5, .slice Al l.length cl]]) (fun s => s.1 ≤ xs.length) (fun s => xs.length - s.1) (0, fun _ => (none, 0)) (Nat.zero_le _) ⟨rfl, trivial⟩ (.cons .here (.cons .here (.cons .here (.cons .here (.cons .here (.cons .here .nil)))))) ?_
  rintro ⟨i, A⟩ base2 hi
  dsimp only at hi ⊢
  focus (refine gc_seq ?_; refine gc_region ?_; apply gw_d; exact det_cmp rfl rfl rfl rfl rfl; refine gw_nil ?_; refine gx_next ?_; refine gc_seq ?_)
  refine gc_if_dec rfl (fun h4 => ?_) (fun h4 => ?_)
  · have hil : i < xs.length := by omega
    obtain ⟨ad2, rfl, hxk, hcx, x1, x2, x3, x4⟩ := hxcell i hil
    have hol := outs_len l ws (ticks bs) xs []
    have hout : (outs l ws (ticks bs) [] xs).getD i 0 = outE l ws (ticks bs) (paidL l ws (ticks bs) (xs.take i)) xs[i] := outs_at hil
    have hgo : (((outs l ws (ticks bs) [] xs).map (Value.int .i64)).toArray)[i * 1]? = some (.int .i64 (outE l ws (ticks bs) (paidL l ws (ticks bs) (xs.take i)) xs[i])) := by
      rw [← hout]
      exact row_get (Value.int .i64) 0 (by omega)
    have hpsn := paidL_snoc l ws (ticks bs) (xs.take i) xs[i]
    rw [← List.take_succ_eq_append_getElem hil] at hpsn
    have hps := paidL_len l ws (ticks bs) (xs.take i)
    rw [List.length_take, Nat.min_eq_left (by omega)] at hps
    generalize paidL l ws (ticks bs) (xs.take i) = ps at *
    generalize outs l ws (ticks bs) [] xs = os at *
    generalize xs[i] = x at *
    focus (refine gc_skip ?_; refine gx_next ?_; refine gc_seq ?_; refine gc_block ?_; refine gc_seq ?_; refine gc_region ?_; apply gw_d; exact det_m rfl rfl (by conv => (lhs; whnf)); apply gw_d; exact w_index rfl rfl rfl rfl (by with_reducible exact rfl) (by omega); apply gw_d; exact w_load_elem rfl rfl rfl (by assumption) (by assumption) (by rfl); refine w_alloc rfl (fun _ => ?_); apply gw_d; exact det_m rfl rfl (by conv => (lhs; whnf)); refine w_store_all rfl rfl rfl rfl rfl .here rfl ?_; refine gw_nil ?_; refine gx_next ?_; refine gc_seq ?_; refine gc_seq ?_; refine gc_region ?_; apply gw_d; exact det_m rfl rfl (by conv => (lhs; whnf)); apply gw_d; exact det_m rfl rfl (by conv => (lhs; whnf)); apply gw_d; exact w_index rfl rfl rfl rfl (by with_reducible exact rfl) (by omega); apply gw_d; exact w_load_row rfl rfl rfl (.there (.there (.there (.there .here)))) hgo; apply gw_d; exact det_cmp rfl rfl rfl rfl rfl; refine gw_nil ?_; refine gx_next ?_)
    rename_i bx
    refine gc_if_dec rfl (fun h5 => ?_) (fun h5 => ?_)
    · have hN : nextP l ws (ticks bs) ps x = ps := by unfold nextP; rw [if_neg h5]
      rw [hN] at hpsn
      focus (refine gc_exit ?_; refine gx_then_exit ?_; refine gx_block_exit ?_; refine gx_next ?_; refine gc_region ?_; apply gw_d; exact det_ar rfl rfl rfl rfl rfl (by omega); apply gw_d; exact det_m rfl rfl (by conv => (lhs; whnf)); refine gw_nil ?_)
      refine gx_round (i + 1, A) hil (by dsimp only; omega) (by repeat (first | exact Keeps.refl | refine Keeps.upd rfl ?_ | refine Keeps.sets rfl ?_ | refine Keeps.havoc rfl ?_)) ⟨rfl, trivial⟩ ?_
      dsimp only
      rw [hpsn]
      exact Sub.tail
    have h1x : outE l ws (ticks bs) ps x = 1 := by simpa using h5
    have hN : nextP l ws (ticks bs) ps x = ps ++ [x] := by unfold nextP; rw [if_pos h1x]
    rw [hN] at hpsn
    obtain ⟨hT, hkn⟩ := out_one h1x
    obtain ⟨o, ho⟩ : ∃ o : Nat, x.op = (o : Int) := ⟨x.op.toNat, by omega⟩
    obtain ⟨m, hmw⟩ : ∃ m : Nat, x.who = (m : Int) := ⟨x.who.toNat, by omega⟩
    have hol2 : o < l.length := by omega
    have hml : m < ws.length := by omega
    obtain ⟨j, hj, hjt⟩ := tk_has hT
    have hjb : j < bs.length := by omega
    have hget := mapV_old (f := cntV bs) hOk.tix bs.length (by omega) j hjb
    rw [hjt, cntV_at hjb] at hget
    rw [ticks_at hjb] at hjt
    have hcnt : cntAt bs x.tick = bs[j].upto - bs[j].fr := by rw [← hjt]; exact cnt_at hOk.tix hjb
    rw [← hcnt] at hget
    have hpl := hOk.plies j hjb
    obtain ⟨ad3, _, hv, _, _, hb3, hocell⟩ := hl.at' 5 rfl (by omega)
    injection hv with e1 e2 e3
    subst e1 e3
    obtain ⟨cs, hce, Aa, ca, Au, cu, rfl, hnm, q1, q2⟩ := hocell o hol2
    have hce2 := hce 2 _ rfl
    have hmin : minAt l x.op = l[o].minutes := by
      unfold minAt
      rw [ho, Int.toNat_natCast, List.getElem?_eq_getElem hol2]
      rfl
    have hM := hMin o hol2
    have hamE : amtE r le l[o].minutes (cntAt bs x.tick) = 0 := by
      unfold amtE
      rw [if_neg (by rw [h1]; decide), if_neg (by omega)]
    have hamV : amtV r le l[o].minutes (cntAt bs x.tick) = amtOf r le l bs x := by unfold amtOf; rw [hmin]
    have hAm : ∀ (L : List Res) (w' : World), St w L w' → Ok Tryz.prog 30 [.agg #[.int .i64 r, .int .i64 le], .int .i64 l[o].minutes, .int .i64 (cntAt bs x.tick)].toArray w' fun y _ => y = .tuple #[.int .i64 (amtOf r le l bs x), .int .i64 0] := fun L w' s => by
      have := wAmount_ok w' r le l[o].minutes (cntAt bs x.tick) (hL.later s)
      rw [hamE, hamV] at this
      exact this
    focus (refine gc_skip ?_; refine gx_next ?_; refine gc_seq ?_)
    refine gc_draw2 17 (by kernel_rfl) (by kernel_rfl) ?_
    focus (apply gd_d; exact w_load_boxN rfl rfl rfl (.there (.there (.there (.there (.there .here))))) rfl; apply gd_d; exact w_field rfl rfl rfl; apply gd_d; exact w_load_box rfl rfl rfl (.there (.there (.there (.there (.there (.there .here)))))) rfl; apply gd_d; exact w_field rfl rfl rfl; apply gd_d; exact w_load_box rfl rfl rfl .here rfl; apply gd_d; exact w_index (m := o) rfl rfl rfl rfl ho hol2; apply gd_d; exact w_field rfl rfl rfl; apply gd_d; exact w_load_fld rfl rfl rfl (by assumption) (by assumption); apply gd_d; exact det_m rfl rfl (by conv => (lhs; whnf)); apply gd_d; exact w_field rfl rfl rfl; apply gd_d; exact w_load_box rfl rfl rfl .here rfl; apply gd_d; exact det_eq (c' := .int .i64 (cntAt bs x.tick)) (w_lookup (k := x.tick) intLawC rfl rfl rfl rfl (.there (.there (.there .here)))) (by rw [hget]; rfl); apply gd_d; exact w_call rfl rfl (hAm _) rfl; apply gd_d; exact det_m rfl rfl (by conv => (lhs; whnf)); apply gd_d; exact det_extract rfl rfl rfl (by conv => (lhs; whnf)); apply gd_d; exact det_extract rfl rfl rfl (by conv => (lhs; whnf)); apply gd_d; exact det_m rfl rfl (by conv => (lhs; whnf)); refine gd_nil ?_; apply gw_d; exact det_m rfl rfl (by conv => (lhs; whnf)); refine gw_nil ?_; refine gx_next ?_; refine gc_seq ?_; refine gc_seq ?_; refine gc_region ?_; apply gw_d; exact det_m rfl rfl (by conv => (lhs; whnf)); apply gw_d; exact det_cmp rfl rfl rfl rfl rfl; refine gw_nil ?_; refine gx_next ?_)
    refine gc_if_dec rfl (fun h => absurd rfl h) (fun _ => ?_)
    focus (refine gc_skip ?_; refine gx_next ?_)
    have hFs : ∀ q, amts r le l bs (ps ++ [x]) q = if q = m then amts r le l bs ps m ++ [amtOf r le l bs x] else amts r le l bs ps q := fun q => by
      rw [amts_snoc, hmw]
      by_cases hq : q = m
      · subst hq; simp
      · have : ¬ (m : Int) = (q : Int) := by omega
        simp [hq, this]
    have hlenF : (amts r le l bs ps m).length ≤ 300 := by have := amts_len r le l bs ps m; omega
    generalize hF : amts r le l bs ps = F at *
    generalize amtOf r le l bs x = v at *
    refine gc_ent (Ent.trans (Sub.ent (K := [Coll ws.length (rowR 96 A F), Box bx 51 #[.int .i64 x.tick, .int .i64 x.op, .int .i64 x.who, .int .i64 x.time], Box ga 95 (rowC ws.length A F).toArray, MapR bm kInt (mapV (ticks bs) (cntV bs) bs.length), Box g 3 (os.map (Value.int .i64)).toArray, Box bt 36 #[.int .i64 r, .int .i64 le], Box bv 29 #[v0, v1, v2, v3, v4, v5, .slice (some ad3) l.length cl]]) (.cons (.there .here) (.cons .here (.cons .here (.cons .here (.cons .here (.cons .here (.cons .here .nil)))))))) (coll_take hml)) ?_
    generalize hLr : [Coll ws.length (setR (rowR 96 A F) m Emp), Box bx 51 #[.int .i64 x.tick, .int .i64 x.op, .int .i64 x.who, .int .i64 x.time], Box ga 95 (rowC ws.length A F).toArray, MapR bm kInt (mapV (ticks bs) (cntV bs) bs.length), Box g 3 (os.map (Value.int .i64)).toArray, Box bt 36 #[.int .i64 r, .int .i64 le], Box bv 29 #[v0, v1, v2, v3, v4, v5, .slice (some ad3) l.length cl]] = Lr
    obtain ⟨Lx, hpx⟩ : ∃ Lx, Pick Lr (Box bx 51 #[.int .i64 x.tick, .int .i64 x.op, .int .i64 x.who, .int .i64 x.time]) Lx := by rw [← hLr]; exact ⟨_, .there .here⟩
    obtain ⟨Lg, hpg⟩ : ∃ Lg, Pick Lr (Box ga 95 (rowC ws.length A F).toArray) Lg := by rw [← hLr]; exact ⟨_, .there (.there .here)⟩
    refine gc_blockJ (P := Tryz.prog) (Nat × Option Addr × Nat) 11 (fun i => ([[], [], [1], [], [], [4], [3, 4, 5], [3, 4, 5, 6], [], [8], [3, 4, 5, 6, 7, 8, 9]] : List (List Nat)).getD i []) (fun i γ => match i with
      | 0 => .slice (some ⟨ga, 0, none⟩) ws.length ws.length
      | 1 => .pointer (some ((⟨bx, 0, none⟩ : Addr).add 2))
      | 2 => .int .i64 x.who
      | 3 => .slice (some ⟨ga, 0, none⟩) ws.length ws.length
      | 4 => .pointer (some ((⟨bx, 0, none⟩ : Addr).add 2))
      | 5 => .int .i64 x.who
      | 6 => .pointer (some ((⟨ga, 0, none⟩ : Addr).add (m * 1)))
      | 7 => .slice (A m).1 (F m).length (A m).2
      | 8 => .int .i64 v
      | 9 => .slice (some ⟨(γ 9).1, 0, none⟩) 1 1
      | 10 => .slice (γ 10).2.1 ((F m).length + 1) (γ 10).2.2
      | _ => undef) (fun ls β w' => St w ((if ls 10 = true then Own (β 10).2.1 ((F m).length + 1) (β 10).2.2 96 1 ((F m).map (Value.int .i64) ++ [.int .i64 v]) else rowR 96 A F m) :: ((if ls 9 = true then [Box (β 9).1 96 #[.int .i64 v]] else []) ++ Lr)) w') rfl (by kernel_rfl) (fun w' s => s) ?_ ?_
    · intro i o ls β w' hi hik hls hpl hJ
      have hS0 : St w Lr w' := by
        have := hJ.drop
        exact this.sublist (List.sublist_append_right _ _)
      obtain rfl | rfl | rfl | rfl | rfl | rfl | rfl | rfl | rfl | rfl | rfl : i = 0 ∨ i = 1 ∨ i = 2 ∨ i = 3 ∨ i = 4 ∨ i = 5 ∨ i = 6 ∨ i = 7 ∨ i = 8 ∨ i = 9 ∨ i = 10 := by omega
      · cases hi
        exact detG (det_m (v := .slice (some ⟨ga, 0, none⟩) ws.length ws.length) rfl rfl rfl) rfl hS0 (fun w2 hx => ⟨default, rfl, St.ext hJ hx⟩)
      · cases hi
        exact detG (w_field rfl rfl rfl) rfl hS0 (fun w2 hx => ⟨default, rfl, St.ext hJ hx⟩)
      · cases hi
        exact detG (w_load_box rfl rfl rfl hpx rfl) rfl hS0 (fun w2 hx => ⟨default, rfl, St.ext hJ hx⟩)
      · cases hi
        exact detG (det_m (v := .slice (some ⟨ga, 0, none⟩) ws.length ws.length) rfl rfl rfl) rfl hS0 (fun w2 hx => ⟨default, rfl, St.ext hJ hx⟩)
      · cases hi
        exact detG (w_field rfl rfl rfl) rfl hS0 (fun w2 hx => ⟨default, rfl, St.ext hJ hx⟩)
      · cases hi
        exact detG (w_load_box rfl rfl rfl hpx rfl) rfl hS0 (fun w2 hx => ⟨default, rfl, St.ext hJ hx⟩)
      · cases hi
        exact detG (w_index (m := m) rfl rfl rfl rfl hmw hml) rfl hS0 (fun w2 hx => ⟨default, rfl, St.ext hJ hx⟩)
      · cases hi
        exact detG (w_load_row rfl rfl rfl hpg (rowC_get A F hml)) rfl hS0 (fun w2 hx => ⟨default, rfl, St.ext hJ hx⟩)
      · cases hi
        exact detG (det_m (v := .int .i64 v) rfl rfl rfl) rfl hS0 (fun w2 hx => ⟨default, rfl, St.ext hJ hx⟩)
      · cases hi
        rw [hls] at hJ
        refine ⟨rfl, (stepG_bslice1 (v := .int .i64 v) rfl rfl rfl rfl hJ).mono fun u w2 hu => ?_⟩
        obtain ⟨b, hu, s2⟩ := hu
        exact ⟨(b, none, 0), hu, St.sub (.cons (.there .here) (.cons .here (Sub.all _))) s2⟩
      · cases hi
        have h9 : ls 9 = true := hpl 9 (by decide)
        rw [hls, h9] at hJ
        refine ⟨rfl, (stepG_append (sz := 1) (z := .int .i64 0) (n := (F m).length) (m := 1) (xs := (F m).map (Value.int .i64)) (news := [.int .i64 v]) rfl rfl .here rfl (fun w3 s3 _ => ?_) (fun u hu => ?_) (by unfold maxLen; omega) (by omega) (by decide) rfl hJ).mono fun u w2 hu => ?_⟩
        · refine ⟨⟨(β 9).1, 0, none⟩, rfl, fun i u hu => ?_⟩
          rw [add_zero]
          refine (Box.cell s3.drop.head i).trans ?_
          change (#[Value.int .i64 v] : Array Value)[i]? = some u
          rw [List.getElem?_toArray]
          exact hu
        · rw [List.mem_singleton] at hu
          subst hu
          rfl
        · obtain ⟨A', c', hu, s2⟩ := hu
          refine ⟨(0, A', c'), hu, ?_⟩
          show St w (Own A' ((F m).length + 1) c' 96 1 ((F m).map (Value.int .i64) ++ [.int .i64 v]) :: ((if ls 9 = true then [Box (β 9).1 96 #[.int .i64 v]] else []) ++ Lr)) w2
          rw [h9]
          exact s2
    · intro ls β w' hall hJ
      rw [hall 9 (by decide), hall 10 (by decide)] at hJ
      subst hLr
      have hF' : amts r le l bs (ps ++ [x]) m = F m ++ [v] := by rw [hFs, if_pos rfl]
      have hFo : ∀ q, ¬ q = m → amts r le l bs (ps ++ [x]) q = F q := fun q hq => by rw [hFs, if_neg hq]
      have hlen' : (amts r le l bs (ps ++ [x]) m).length = (F m).length + 1 := by rw [hF']; simp
      have hJ2 : St w (Own (β 10).2.1 ((F m).length + 1) (β 10).2.2 96 1 ((F m).map (Value.int .i64) ++ [.int .i64 v]) :: Box (β 9).1 96 #[.int .i64 v] :: [Coll ws.length (setR (rowR 96 A F) m Emp), Box bx 51 #[.int .i64 x.tick, .int .i64 x.op, .int .i64 x.who, .int .i64 x.time], Box ga 95 (rowC ws.length A F).toArray, MapR bm kInt (mapV (ticks bs) (cntV bs) bs.length), Box g 3 (os.map (Value.int .i64)).toArray, Box bt 36 #[.int .i64 r, .int .i64 le], Box bv 29 #[v0, v1, v2, v3, v4, v5, .slice (some ad3) l.length cl]]) w' := hJ
      refine GW.h (P := Tryz.prog) ?_ w' hJ2
      have hrl := rowC_len ws.length A F
      refine gw_d (w_index (m := m) rfl rfl rfl rfl hmw hml) ?_
      refine w_store_row (n := 1) (v := .slice (β 10).2.1 ((F m).length + 1) (β 10).2.2) (cs' := (rowC ws.length (setA A m (β 10).2) (amts r le l bs (ps ++ [x]))).toArray) rfl rfl rfl rfl rfl (.there (.there (.there (.there .here)))) (by simp; omega) (by
        rw [Nat.mul_one, set_row (by simp; omega) rfl]
        have := rowC_set (n := ws.length) (A := A) (F := F) (F' := amts r le l bs (ps ++ [x])) hml (a := (β 10).2) hFo
        rw [hlen'] at this
        rw [← this]) ?_
      focus (refine gw_nil ?_; refine gx_block ?_; refine gx_next ?_; refine gc_region ?_; apply gw_d; exact det_ar rfl rfl rfl rfl rfl (by omega); apply gw_d; exact det_m rfl rfl (by conv => (lhs; whnf)); refine gw_nil ?_)
      refine gx_roundE (i + 1, setA A m (β 10).2) hil (by dsimp only; omega) (by repeat (first | exact Keeps.refl | refine Keeps.upd rfl ?_ | refine Keeps.sets rfl ?_ | refine Keeps.havoc rfl ?_)) ⟨rfl, trivial⟩ ?_
      dsimp only
      rw [hpsn]
      refine Ent.trans (Sub.ent (K := [Own (β 10).2.1 ((F m).length + 1) (β 10).2.2 96 1 ((F m).map (Value.int .i64) ++ [.int .i64 v]), Coll ws.length (setR (rowR 96 A F) m Emp), Box ga 95 (rowC ws.length (setA A m (β 10).2) (amts r le l bs (ps ++ [x]))).toArray, MapR bm kInt (mapV (ticks bs) (cntV bs) bs.length), Box g 3 (os.map (Value.int .i64)).toArray, Box bt 36 #[.int .i64 r, .int .i64 le], Box bv 29 #[v0, v1, v2, v3, v4, v5, .slice (some ad3) l.length cl]]) (.cons (.there .here) (.cons (.there (.there .here)) (.cons .here (.cons (.there (.there .here)) (.cons (.there (.there .here)) (.cons (.there (.there .here)) (.cons (.there (.there .here)) .nil)))))))) ?_
      have hp := row_put (n := ws.length) (el := 96) (A := A) (F := F) (F' := amts r le l bs (ps ++ [x])) (a := (β 10).2) (L := [Box ga 95 (rowC ws.length (setA A m (β 10).2) (amts r le l bs (ps ++ [x]))).toArray, MapR bm kInt (mapV (ticks bs) (cntV bs) bs.length), Box g 3 (os.map (Value.int .i64)).toArray, Box bt 36 #[.int .i64 r, .int .i64 le], Box bv 29 #[v0, v1, v2, v3, v4, v5, .slice (some ad3) l.length cl]]) hml hFo
      rw [hF', List.map_append, List.length_append] at hp
      exact hp
  obtain rfl : i = xs.length := by omega
  rw [List.take_length]
  have hpl := paidL_len l ws (ticks bs) xs
  have hFr : ∀ m, ∀ y ∈ amts r le l bs (paidL l ws (ticks bs) xs) m, 0 ≤ y ∧ y ≤ 1000000000 := fun m => amts_range
  have hFl : ∀ m, (amts r le l bs (paidL l ws (ticks bs) xs) m).length ≤ 300 := fun m => by have := amts_len r le l bs (paidL l ws (ticks bs) xs) m; omega
  have hPL : paysL r le l bs ws xs = payP le (amts r le l bs (paidL l ws (ticks bs) xs)) ws.length := rfl
  rw [hPL]
  generalize amts r le l bs (paidL l ws (ticks bs) xs) = F at *
  focus (refine gc_exit ?_; refine gx_then_exit ?_; refine gx_then_exit ?_; refine gx_block_exit ?_; refine gx_next ?_; refine gc_seq ?_; refine gc_region ?_; apply gw_d; exact det_m rfl rfl (by conv => (lhs; whnf)); refine gw_nil ?_; refine gx_next ?_; refine gc_seq ?_; refine gc_seq ?_; refine gc_region ?_; apply gw_d; exact det_m rfl rfl (by conv => (lhs; whnf)); apply gw_d; exact w_len rfl rfl rfl; apply gw_d; exact det_m rfl rfl (by conv => (lhs; whnf)); refine gw_nil ?_; refine gx_next ?_; refine gc_block ?_)
  refine gc_own0 44 3 ?_
  refine gc_loop (σ := Nat × Option Addr × Nat) [109, 110, 111, 112, 24, 25, 113, 114, 115, 116, 117, 26, 118, 119, 120, 121, 122, 123, 124, 125, 126, 127, 128, 23, 129, 108] (fun s => [(108, .int .i64 s.1), (23, .slice s.2.1 (payP le F s.1).length s.2.2)]) (fun s => [Own s.2.1 (payP le F s.1).length s.2.2 44 3 ((payP le F s.1).flatMap encP), Coll ws.length (rowR 96 A F), Box ga 95 (rowC ws.length A F).toArray, Box bt 36 #[.int .i64 r, .int .i64 le]]) (fun s => s.1 ≤ ws.length) (fun s => ws.length - s.1) (0, none, 0) (Nat.zero_le _) ⟨rfl, rfl, trivial⟩ (.cons .here (.cons .here (.cons .here (.cons (.there (.there .here)) .nil)))) ?_
  rintro ⟨k, P, c⟩ base3 hk3
  dsimp only at hk3 ⊢
  have hsn := payP_snoc le F k
  have hpk := payP_len le F k
  focus (refine gc_seq ?_; refine gc_region ?_; apply gw_d; exact det_cmp rfl rfl rfl rfl rfl; refine gw_nil ?_; refine gx_next ?_; refine gc_seq ?_)
  refine gc_if_dec rfl (fun h6 => ?_) (fun h6 => ?_)
  · have hkl : k < ws.length := by omega
    have hrg := rowC_get A F hkl
    have hsum := sumI_range (hFr k) (F k).length (Nat.le_refl _)
    rw [List.take_length] at hsum
    have hfl := hFl k
    focus (refine gc_skip ?_; refine gx_next ?_; refine gc_seq ?_; refine gc_block ?_; refine gc_seq ?_; refine gc_region ?_; apply gw_d; exact det_m rfl rfl (by conv => (lhs; whnf)); apply gw_d; exact w_index rfl rfl rfl rfl (by with_reducible exact rfl) (by omega); apply gw_d; exact w_load_row rfl rfl rfl (.there (.there .here)) hrg; apply gw_d; exact det_m rfl rfl (by conv => (lhs; whnf)); apply gw_d; exact det_m rfl rfl (by conv => (lhs; whnf)); refine gw_nil ?_; refine gx_next ?_; refine gc_seq ?_; refine gc_seq ?_; refine gc_region ?_; apply gw_d; exact det_m rfl rfl (by conv => (lhs; whnf)); apply gw_d; exact w_len rfl rfl rfl; apply gw_d; exact det_cmp rfl rfl rfl rfl rfl; refine gw_nil ?_; refine gx_next ?_)
    refine gc_if_dec rfl (fun h7 => ?_) (fun h7 => ?_)
    · have h0 : payOf le k (F k) = [] := by unfold payOf; rw [if_pos (by omega)]
      rw [h0, List.append_nil] at hsn
      focus (refine gc_exit ?_; refine gx_then_exit ?_; refine gx_block_exit ?_; refine gx_next ?_; refine gc_region ?_; apply gw_d; exact det_ar rfl rfl rfl rfl rfl (by omega); apply gw_d; exact det_m rfl rfl (by conv => (lhs; whnf)); refine gw_nil ?_)
      refine gx_round (k + 1, P, c) hkl (by dsimp only; omega) (by repeat (first | exact Keeps.refl | refine Keeps.upd rfl ?_ | refine Keeps.sets rfl ?_ | refine Keeps.havoc rfl ?_)) ⟨rfl, by rw [hsn]; rfl, trivial⟩ ?_
      dsimp only
      rw [hsn]
      exact Sub.all _
    have h1p : payOf le k (F k) = [⟨k, sumI (F k), max (le - sumI (F k)) 0⟩] := by unfold payOf; rw [if_neg (by omega)]
    rw [h1p] at hsn
    focus (refine gc_skip ?_; refine gx_next ?_; refine gc_seq ?_; refine gc_region ?_; apply gw_d; exact det_m rfl rfl (by conv => (lhs; whnf)); apply gw_d; exact w_call rfl rfl (fun w' s => total_ok w' _ (F k) (Sl.rowAt s (.there .here) hkl (fun y hy => by have := hFr k y hy; unfold inI64; omega)) (hFr k) hfl) rfl; apply gw_d; exact det_m rfl rfl (by conv => (lhs; whnf)); refine gw_nil ?_; refine gx_next ?_; refine gc_region ?_; apply gw_d; exact det_m rfl rfl (by conv => (lhs; whnf)); apply gw_d; exact det_m rfl rfl (by conv => (lhs; whnf)); apply gw_d; exact det_m rfl rfl (by conv => (lhs; whnf)); apply gw_d; exact w_field rfl rfl rfl; apply gw_d; exact w_load_box rfl rfl rfl (.there (.there (.there .here))) rfl; apply gw_d; exact det_m rfl rfl (by conv => (lhs; whnf)); apply gw_d; exact det_ar rfl rfl rfl rfl rfl (by omega); apply gw_d; exact w_max rfl rfl rfl rfl; apply gw_d; exact w_buildP [(0, .int .i64 (k : Int)), (1, .int .i64 (sumI (F k))), (2, .int .i64 (max (le - sumI (F k)) 0))] (cells := #[.int .i64 (k : Int), .int .i64 (sumI (F k)), .int .i64 (max (le - sumI (F k)) 0)]) (by rfl) rfl rfl rfl)
    refine gw_bslice1 (v := .agg #[.int .i64 (k : Int), .int .i64 (sumI (F k)), .int .i64 (max (le - sumI (F k)) 0)]) rfl rfl rfl rfl rfl (fun bb => ?_)
    refine gw_append (news := [.int .i64 (k : Int), .int .i64 (sumI (F k)), .int .i64 (max (le - sumI (F k)) 0)]) rfl rfl rfl (.there .here) rfl (fun w' s _ => ?_) (fun u hu => ?_) (by unfold maxLen; omega) (by omega) (by decide) rfl (fun A3 c3 => ?_)
    · refine ⟨⟨bb, 0, none⟩, rfl, fun i u hu => ?_⟩
      rw [add_zero]
      refine (Box.cell s.head i).trans ?_
      change (#[Value.int .i64 (k : Int), .int .i64 (sumI (F k)), .int .i64 (max (le - sumI (F k)) 0)] : Array Value)[i]? = some u
      rw [List.getElem?_toArray]
      exact hu
    · simp only [List.mem_cons, List.not_mem_nil, or_false] at hu
      rcases hu with rfl | rfl | rfl <;> rfl
    · focus (apply gw_d; exact det_m rfl rfl (by conv => (lhs; whnf)); refine gw_nil ?_; refine gx_block ?_; refine gx_next ?_; refine gc_region ?_; apply gw_d; exact det_ar rfl rfl rfl rfl rfl (by omega); apply gw_d; exact det_m rfl rfl (by conv => (lhs; whnf)); refine gw_nil ?_)
      refine gx_round (k + 1, A3, c3) hkl (by dsimp only; omega) (by repeat (first | exact Keeps.refl | refine Keeps.upd rfl ?_ | refine Keeps.sets rfl ?_ | refine Keeps.havoc rfl ?_)) ⟨rfl, by rw [hsn, List.length_append]; rfl, trivial⟩ ?_
      dsimp only
      rw [hsn, List.length_append, List.flatMap_append]
      exact .cons .here (.cons (.there .here) (.cons (.there .here) (.cons (.there .here) .nil)))
  · obtain rfl : k = ws.length := by omega
    focus (refine gc_exit ?_; refine gx_then_exit ?_; refine gx_then_exit ?_; refine gx_block_exit ?_; refine gx_next ?_; refine gc_seq ?_; refine gc_region ?_; apply gw_d; exact det_m rfl rfl (by conv => (lhs; whnf)); apply gw_d; exact det_m rfl rfl (by conv => (lhs; whnf)); apply gw_d; exact det_m rfl rfl (by conv => (lhs; whnf)); refine gw_nil ?_; refine gx_next ?_; refine gc_ret ?_)
    exact gx_ret2 (u := .slice _ _ _) (v := .int _ _) rfl rfl rfl (fun w' s => ⟨(P, c), rfl, (St.sub (K := [Own P (payP le F ws.length).length c 44 3 ((payP le F ws.length).flatMap encP)]) (.cons .here .nil) s).sep⟩)
end
end Go.Proofs.YtljibjlkjelpbaaGreatDoor

/- The examples of the chapter 57: a case of two operations. -/
namespace Go.Proofs.YtljibjlkjelpbaaGreatDoor
open Go.RowKit
set_option maxRecDepth 100000
set_option maxHeartbeats 8000000

def sHem : ByteArray := ⟨#[104, 101, 109]⟩
def sPress : ByteArray := ⟨#[112, 114, 101, 115, 115]⟩
def sBack : ByteArray := ⟨#[98, 97, 99, 107]⟩
def sVest : ByteArray := ⟨#[118, 101, 115, 116]⟩
def sAnn : ByteArray := ⟨#[97, 110, 110]⟩
def sS : ByteArray := ⟨#[83]⟩
def sA : ByteArray := ⟨#[97]⟩
def sB : ByteArray := ⟨#[98]⟩
def twoV (x : Nat → Nat) : Value := .agg #[.string sVest, .slice (some ⟨x 6, 0, none⟩) 1 1, .slice (some ⟨x 7, 0, none⟩) 1 1, .slice (some ⟨x 8, 0, none⟩) 1 1, .slice (some ⟨x 9, 0, none⟩) 1 1, .slice none 0 0, .slice (some ⟨x 12, 0, none⟩) 2 2, .slice (some ⟨x 13, 0, none⟩) 1 1, .slice (some ⟨x 15, 0, none⟩) 1 1, .slice (some ⟨x 16, 0, none⟩) 3 3]
def twoStyV (x : Nat → Nat) : Value := .agg #[.string sVest, .slice (some ⟨x 6, 0, none⟩) 1 1, .slice (some ⟨x 7, 0, none⟩) 1 1, .slice (some ⟨x 8, 0, none⟩) 1 1, .slice (some ⟨x 9, 0, none⟩) 1 1, .slice none 0 0, .slice (some ⟨x 12, 0, none⟩) 2 2]
def twoR (x : Nat → Nat) : List Res := [Box (x 16) 51 #[.int .i64 7, .int .i64 0, .int .i64 0, .int .i64 5, .int .i64 7, .int .i64 0, .int .i64 0, .int .i64 6, .int .i64 7, .int .i64 1, .int .i64 0, .int .i64 9], Box (x 15) 87 #[.string sAnn, .slice (some ⟨x 14, 0, none⟩) 2 2], Box (x 14) 3 #[.int .i64 0, .int .i64 1], Box (x 13) 49 #[.int .i64 7, .int .i64 0, .int .i64 0, .int .i64 0, .int .i64 0, .int .i64 10], Box (x 12) 89 #[.string sHem, .int .i64 0, .int .i64 120, .slice none 0 0, .slice (some ⟨x 10, 0, none⟩) 1 1, .string sPress, .int .i64 1, .int .i64 80, .slice (some ⟨x 11, 0, none⟩) 1 1, .slice none 0 0], Box (x 11) 3 #[.int .i64 0], Box (x 10) 3 #[.int .i64 0], Box (x 9) 119 #[.int .i64 0, .int .i64 1, .bool false], Box (x 8) 115 #[.string sBack, .slice (some ⟨x 3, 0, none⟩) 2 2, .int .i64 1, .slice none 0 0, .slice (some ⟨x 4, 0, none⟩) 2 2, .slice (some ⟨x 5, 0, none⟩) 2 2, .bool false], Box (x 7) 3 #[.int .i64 0], Box (x 6) 9 #[.string sS], Box (x 5) 3 #[.int .i64 0, .int .i64 0], Box (x 4) 121 #[.int .i64 0, .int .i64 0, .int .i64 0, .int .i64 0], Box (x 3) 117 #[.string sA, .slice (some ⟨x 1, 0, none⟩) 2 2, .string sB, .slice (some ⟨x 2, 0, none⟩) 3 3], Box (x 2) 121 #[.int .i64 10, .int .i64 0, .int .i64 0, .int .i64 10, .int .i64 0, .int .i64 0], Box (x 1) 121 #[.int .i64 0, .int .i64 0, .int .i64 10, .int .i64 0]]
theorem two_ok (w : World) : OkM Tryz.prog 35 [].toArray w twoV twoR := by
  unfold OkM
  refine ok_enter Tryz.func35 rfl Tryz.ntmps35 rfl ?_
  focus (refine gc_seq ?_; refine gc_region ?_; refine w_alloc rfl (fun _ => ?_); refine gw_nil ?_; refine gx_next ?_; refine gc_seq ?_; refine gc_region ?_; apply gw_d; exact w_buildP [] (cells := #[.int .i64 0, .int .i64 0]) (by kernel_rfl) rfl rfl rfl; apply gw_d; exact w_buildP [(0, .int .i64 10)] (cells := #[.int .i64 10, .int .i64 0]) (by kernel_rfl) rfl rfl rfl)
  refine gw_bslice (cells := #[.int .i64 0, .int .i64 0, .int .i64 10, .int .i64 0]) rfl ?_ ?_ ?_ (fun b1 => ?_)
  · rfl
  · rfl
  · kernel_rfl
  focus (apply gw_d; exact w_buildP [(0, .string sA), (1, .slice (some ⟨b1, 0, none⟩) 2 2)] (cells := #[.string sA, .slice (some ⟨b1, 0, none⟩) 2 2]) (by kernel_rfl) rfl rfl rfl; apply gw_d; exact w_buildP [(0, .int .i64 10)] (cells := #[.int .i64 10, .int .i64 0]) (by kernel_rfl) rfl rfl rfl; apply gw_d; exact w_buildP [(1, .int .i64 10)] (cells := #[.int .i64 0, .int .i64 10]) (by kernel_rfl) rfl rfl rfl; apply gw_d; exact w_buildP [] (cells := #[.int .i64 0, .int .i64 0]) (by kernel_rfl) rfl rfl rfl)
  refine gw_bslice (cells := #[.int .i64 10, .int .i64 0, .int .i64 0, .int .i64 10, .int .i64 0, .int .i64 0]) rfl ?_ ?_ ?_ (fun b2 => ?_)
  · rfl
  · rfl
  · kernel_rfl
  focus (apply gw_d; exact w_buildP [(0, .string sB), (1, .slice (some ⟨b2, 0, none⟩) 3 3)] (cells := #[.string sB, .slice (some ⟨b2, 0, none⟩) 3 3]) (by kernel_rfl) rfl rfl rfl)
  refine gw_bslice (cells := #[.string sA, .slice (some ⟨b1, 0, none⟩) 2 2, .string sB, .slice (some ⟨b2, 0, none⟩) 3 3]) rfl ?_ ?_ ?_ (fun b3 => ?_)
  · rfl
  · rfl
  · kernel_rfl
  focus (apply gw_d; exact w_buildP [] (cells := #[.int .i64 0, .int .i64 0]) (by kernel_rfl) rfl rfl rfl; apply gw_d; exact w_buildP [] (cells := #[.int .i64 0, .int .i64 0]) (by kernel_rfl) rfl rfl rfl)
  refine gw_bslice (cells := #[.int .i64 0, .int .i64 0, .int .i64 0, .int .i64 0]) rfl ?_ ?_ ?_ (fun b4 => ?_)
  · rfl
  · rfl
  · kernel_rfl
  focus (skip)
  refine gw_bslice (cells := #[.int .i64 0, .int .i64 0]) rfl ?_ ?_ ?_ (fun b5 => ?_)
  · rfl
  · rfl
  · kernel_rfl
  focus (apply gw_d; exact w_buildP [(0, .string sBack), (1, .slice (some ⟨b3, 0, none⟩) 2 2), (2, .int .i64 1), (4, .slice (some ⟨b4, 0, none⟩) 2 2), (5, .slice (some ⟨b5, 0, none⟩) 2 2)] (cells := #[.string sBack, .slice (some ⟨b3, 0, none⟩) 2 2, .int .i64 1, .slice none 0 0, .slice (some ⟨b4, 0, none⟩) 2 2, .slice (some ⟨b5, 0, none⟩) 2 2, .bool false]) (by kernel_rfl) rfl rfl rfl; refine w_alloc rfl (fun _ => ?_); refine w_store_all rfl rfl rfl rfl rfl .here rfl ?_; refine gw_nil ?_; refine gx_next ?_; refine gc_seq ?_; refine gc_region ?_)
  rename_i bc bp
  refine gw_bslice1 (v := .string sS) rfl rfl rfl rfl rfl (fun b6 => ?_)
  refine gw_bslice1 (v := .int .i64 0) rfl rfl rfl rfl rfl (fun b7 => ?_)
  focus (apply gw_d; exact w_load_boxN rfl rfl rfl (.there (.there .here)) rfl)
  refine gw_bslice1 (v := .agg #[.string sBack, .slice (some ⟨b3, 0, none⟩) 2 2, .int .i64 1, .slice none 0 0, .slice (some ⟨b4, 0, none⟩) 2 2, .slice (some ⟨b5, 0, none⟩) 2 2, .bool false]) rfl rfl rfl rfl rfl (fun b8 => ?_)
  focus (apply gw_d; exact w_buildP [(1, .int .i64 1)] (cells := #[.int .i64 0, .int .i64 1, .bool false]) (by kernel_rfl) rfl rfl rfl)
  refine gw_bslice1 (v := .agg #[.int .i64 0, .int .i64 1, .bool false]) rfl rfl rfl rfl rfl (fun b9 => ?_)
  refine gw_bslice1 (v := .int .i64 0) rfl rfl rfl rfl rfl (fun b10 => ?_)
  focus (apply gw_d; exact w_buildP [(0, .string sHem), (2, .int .i64 120), (4, .slice (some ⟨b10, 0, none⟩) 1 1)] (cells := #[.string sHem, .int .i64 0, .int .i64 120, .slice none 0 0, .slice (some ⟨b10, 0, none⟩) 1 1]) (by kernel_rfl) rfl rfl rfl)
  refine gw_bslice1 (v := .int .i64 0) rfl rfl rfl rfl rfl (fun b11 => ?_)
  focus (apply gw_d; exact w_buildP [(0, .string sPress), (1, .int .i64 1), (2, .int .i64 80), (3, .slice (some ⟨b11, 0, none⟩) 1 1)] (cells := #[.string sPress, .int .i64 1, .int .i64 80, .slice (some ⟨b11, 0, none⟩) 1 1, .slice none 0 0]) (by kernel_rfl) rfl rfl rfl)
  refine gw_bslice (cells := #[.string sHem, .int .i64 0, .int .i64 120, .slice none 0 0, .slice (some ⟨b10, 0, none⟩) 1 1, .string sPress, .int .i64 1, .int .i64 80, .slice (some ⟨b11, 0, none⟩) 1 1, .slice none 0 0]) rfl ?_ ?_ ?_ (fun b12 => ?_)
  · rfl
  · rfl
  · kernel_rfl
  focus (apply gw_d; exact w_buildP [(0, .string sVest), (1, .slice (some ⟨b6, 0, none⟩) 1 1), (2, .slice (some ⟨b7, 0, none⟩) 1 1), (3, .slice (some ⟨b8, 0, none⟩) 1 1), (4, .slice (some ⟨b9, 0, none⟩) 1 1), (6, .slice (some ⟨b12, 0, none⟩) 2 2)] (cells := #[.string sVest, .slice (some ⟨b6, 0, none⟩) 1 1, .slice (some ⟨b7, 0, none⟩) 1 1, .slice (some ⟨b8, 0, none⟩) 1 1, .slice (some ⟨b9, 0, none⟩) 1 1, .slice none 0 0, .slice (some ⟨b12, 0, none⟩) 2 2]) (by kernel_rfl) rfl rfl rfl; refine w_alloc rfl (fun _ => ?_); refine w_store_all rfl rfl rfl rfl rfl .here rfl ?_; refine gw_nil ?_; refine gx_next ?_; refine gc_seq ?_; refine gc_region ?_; apply gw_d; exact w_load_boxN rfl rfl rfl .here rfl)
  rename_i bs
  focus (apply gw_d; exact w_buildP [(0, .int .i64 7), (5, .int .i64 10)] (cells := #[.int .i64 7, .int .i64 0, .int .i64 0, .int .i64 0, .int .i64 0, .int .i64 10]) (by kernel_rfl) rfl rfl rfl)
  refine gw_bslice1 (v := .agg #[.int .i64 7, .int .i64 0, .int .i64 0, .int .i64 0, .int .i64 0, .int .i64 10]) rfl rfl rfl rfl rfl (fun b13 => ?_)
  refine gw_bslice (cells := #[.int .i64 0, .int .i64 1]) rfl ?_ ?_ ?_ (fun b14 => ?_)
  · rfl
  · rfl
  · kernel_rfl
  focus (apply gw_d; exact w_buildP [(0, .string sAnn), (1, .slice (some ⟨b14, 0, none⟩) 2 2)] (cells := #[.string sAnn, .slice (some ⟨b14, 0, none⟩) 2 2]) (by kernel_rfl) rfl rfl rfl)
  refine gw_bslice1 (v := .agg #[.string sAnn, .slice (some ⟨b14, 0, none⟩) 2 2]) rfl rfl rfl rfl rfl (fun b15 => ?_)
  focus (apply gw_d; exact w_buildP [(0, .int .i64 7), (3, .int .i64 5)] (cells := #[.int .i64 7, .int .i64 0, .int .i64 0, .int .i64 5]) (by kernel_rfl) rfl rfl rfl; apply gw_d; exact w_buildP [(0, .int .i64 7), (3, .int .i64 6)] (cells := #[.int .i64 7, .int .i64 0, .int .i64 0, .int .i64 6]) (by kernel_rfl) rfl rfl rfl; apply gw_d; exact w_buildP [(0, .int .i64 7), (1, .int .i64 1), (3, .int .i64 9)] (cells := #[.int .i64 7, .int .i64 1, .int .i64 0, .int .i64 9]) (by kernel_rfl) rfl rfl rfl)
  refine gw_bslice (cells := #[.int .i64 7, .int .i64 0, .int .i64 0, .int .i64 5, .int .i64 7, .int .i64 0, .int .i64 0, .int .i64 6, .int .i64 7, .int .i64 1, .int .i64 0, .int .i64 9]) rfl ?_ ?_ ?_ (fun b16 => ?_)
  · rfl
  · rfl
  · kernel_rfl
  focus (apply gw_d; exact w_buildP [(0, .agg #[.string sVest, .slice (some ⟨b6, 0, none⟩) 1 1, .slice (some ⟨b7, 0, none⟩) 1 1, .slice (some ⟨b8, 0, none⟩) 1 1, .slice (some ⟨b9, 0, none⟩) 1 1, .slice none 0 0, .slice (some ⟨b12, 0, none⟩) 2 2]), (1, .slice (some ⟨b13, 0, none⟩) 1 1), (2, .slice (some ⟨b15, 0, none⟩) 1 1), (3, .slice (some ⟨b16, 0, none⟩) 3 3)] (cells := #[.string sVest, .slice (some ⟨b6, 0, none⟩) 1 1, .slice (some ⟨b7, 0, none⟩) 1 1, .slice (some ⟨b8, 0, none⟩) 1 1, .slice (some ⟨b9, 0, none⟩) 1 1, .slice none 0 0, .slice (some ⟨b12, 0, none⟩) 2 2, .slice (some ⟨b13, 0, none⟩) 1 1, .slice (some ⟨b15, 0, none⟩) 1 1, .slice (some ⟨b16, 0, none⟩) 3 3]) (by kernel_rfl) rfl rfl rfl)
  refine w_store_all rfl rfl rfl rfl rfl (.there (.there (.there (.there (.there (.there (.there (.there (.there (.there (.there (.there (.there (.there (.there (.there (.there (.there .here)))))))))))))))))) rfl ?_
  focus (refine gw_nil ?_; refine gx_next ?_; refine gc_ret ?_)
  refine gx_retc rfl rfl .here rfl fun w s => ⟨fun i => bif Nat.beq i 1 then b1 else bif Nat.beq i 2 then b2 else bif Nat.beq i 3 then b3 else bif Nat.beq i 4 then b4 else bif Nat.beq i 5 then b5 else bif Nat.beq i 6 then b6 else bif Nat.beq i 7 then b7 else bif Nat.beq i 8 then b8 else bif Nat.beq i 9 then b9 else bif Nat.beq i 10 then b10 else bif Nat.beq i 11 then b11 else bif Nat.beq i 12 then b12 else bif Nat.beq i 13 then b13 else bif Nat.beq i 14 then b14 else bif Nat.beq i 15 then b15 else bif Nat.beq i 16 then b16 else 0, rfl, ?_⟩
  exact (St.sub (K := twoR (fun i => bif Nat.beq i 1 then b1 else bif Nat.beq i 2 then b2 else bif Nat.beq i 3 then b3 else bif Nat.beq i 4 then b4 else bif Nat.beq i 5 then b5 else bif Nat.beq i 6 then b6 else bif Nat.beq i 7 then b7 else bif Nat.beq i 8 then b8 else bif Nat.beq i 9 then b9 else bif Nat.beq i 10 then b10 else bif Nat.beq i 11 then b11 else bif Nat.beq i 12 then b12 else bif Nat.beq i 13 then b13 else bif Nat.beq i 14 then b14 else bif Nat.beq i 15 then b15 else bif Nat.beq i 16 then b16 else 0)) (.cons (.there .here) (.cons (.there .here) (.cons (.there .here) (.cons (.there .here) (.cons (.there (.there .here)) (.cons (.there (.there .here)) (.cons (.there (.there .here)) (.cons (.there (.there .here)) (.cons (.there (.there .here)) (.cons (.there (.there .here)) (.cons (.there (.there .here)) (.cons (.there (.there (.there .here))) (.cons (.there (.there (.there .here))) (.cons (.there (.there (.there .here))) (.cons (.there (.there (.there .here))) (.cons (.there (.there (.there .here))) .nil)))))))))))))))) s).sep

section
variable {w0 w : World} {L : List Res} {x : Nat → Nat}
def twoOps : List Opn := [⟨sHem, 0, 120, [], [0]⟩, ⟨sPress, 1, 80, [0], []⟩]
def twoSty : Sty := ⟨sVest, [sS], [0], [⟨sBack, [(sA, [(0, 0), (10, 0)]), (sB, [(10, 0), (0, 10), (0, 0)])], 1, [], [(0, 0), (0, 0)], [0, 0], false⟩], [(0, 1, false)], [], twoOps⟩
def twoBuns : List Bun := [⟨7, 0, 0, 0, 0, 10⟩]
def twoWrks : List Wrk := [⟨sAnn, [0, 1]⟩]
def twoScns : List Scn := [⟨7, 0, 0, 5⟩, ⟨7, 0, 0, 6⟩, ⟨7, 1, 0, 9⟩]
theorem two_ops (s : St w0 (twoR x ++ L) w) : Sl rOp w w.heap.size (.slice (some ⟨x 12, 0, none⟩) 2 2) twoOps := by
  have h12 : w.heap[x 12]? = some (.cells #[.string sHem, .int .i64 0, .int .i64 120, .slice none 0 0, .slice (some ⟨x 10, 0, none⟩) 1 1, .string sPress, .int .i64 1, .int .i64 80, .slice (some ⟨x 11, 0, none⟩) 1 1, .slice none 0 0] 89 (0, 0)) := s.drop.drop.drop.drop.head
  have h11 : w.heap[x 11]? = some (.cells #[.int .i64 0] 3 (0, 0)) := s.drop.drop.drop.drop.drop.head
  have h10 : w.heap[x 10]? = some (.cells #[.int .i64 0] 3 (0, 0)) := s.drop.drop.drop.drop.drop.drop.head
  have a10 : Sl rInt w w.heap.size (.slice (some ⟨x 10, 0, none⟩) 1 1) [0] := Sl.ofCells h10 rfl (by decide) (by decide) ⟨⟨rfl, inI rfl⟩, trivial⟩
  have a11 : Sl rInt w w.heap.size (.slice (some ⟨x 11, 0, none⟩) 1 1) [0] := Sl.ofCells h11 rfl (by decide) (by decide) ⟨⟨rfl, inI rfl⟩, trivial⟩
  exact Sl.ofCells h12 rfl (by decide) (by decide) ⟨⟨_, _, _, _, rfl, ⟨by decide, inI rfl, inI rfl⟩, Sl.nil _ _, a10⟩, ⟨_, _, _, _, rfl, ⟨by decide, inI rfl, inI rfl⟩, a11, Sl.nil _ _⟩, trivial⟩
theorem two_sty (s : St w0 (twoR x ++ L) w) : StyV w w.heap.size (twoStyV x) twoSty := by
  have h9 : w.heap[x 9]? = some (.cells #[.int .i64 0, .int .i64 1, .bool false] 119 (0, 0)) := s.drop.drop.drop.drop.drop.drop.drop.head
  have h8 : w.heap[x 8]? = some (.cells #[.string sBack, .slice (some ⟨x 3, 0, none⟩) 2 2, .int .i64 1, .slice none 0 0, .slice (some ⟨x 4, 0, none⟩) 2 2, .slice (some ⟨x 5, 0, none⟩) 2 2, .bool false] 115 (0, 0)) := s.drop.drop.drop.drop.drop.drop.drop.drop.head
  have h7 : w.heap[x 7]? = some (.cells #[.int .i64 0] 3 (0, 0)) := s.drop.drop.drop.drop.drop.drop.drop.drop.drop.head
  have h6 : w.heap[x 6]? = some (.cells #[.string sS] 9 (0, 0)) := s.drop.drop.drop.drop.drop.drop.drop.drop.drop.drop.head
  have h5 : w.heap[x 5]? = some (.cells #[.int .i64 0, .int .i64 0] 3 (0, 0)) := s.drop.drop.drop.drop.drop.drop.drop.drop.drop.drop.drop.head
  have h4 : w.heap[x 4]? = some (.cells #[.int .i64 0, .int .i64 0, .int .i64 0, .int .i64 0] 121 (0, 0)) := s.drop.drop.drop.drop.drop.drop.drop.drop.drop.drop.drop.drop.head
  have h3 : w.heap[x 3]? = some (.cells #[.string sA, .slice (some ⟨x 1, 0, none⟩) 2 2, .string sB, .slice (some ⟨x 2, 0, none⟩) 3 3] 117 (0, 0)) := s.drop.drop.drop.drop.drop.drop.drop.drop.drop.drop.drop.drop.drop.head
  have h2 : w.heap[x 2]? = some (.cells #[.int .i64 10, .int .i64 0, .int .i64 0, .int .i64 10, .int .i64 0, .int .i64 0] 121 (0, 0)) := s.drop.drop.drop.drop.drop.drop.drop.drop.drop.drop.drop.drop.drop.drop.head
  have h1 : w.heap[x 1]? = some (.cells #[.int .i64 0, .int .i64 0, .int .i64 10, .int .i64 0] 121 (0, 0)) := s.drop.drop.drop.drop.drop.drop.drop.drop.drop.drop.drop.drop.drop.drop.drop.head
  have a1 : Sl rSpot w w.heap.size (.slice (some ⟨x 1, 0, none⟩) 2 2) [(0, 0), (10, 0)] := Sl.ofCells h1 rfl (by decide) (by decide) ⟨⟨rfl, inI rfl, inI rfl⟩, ⟨rfl, inI rfl, inI rfl⟩, trivial⟩
  have a2 : Sl rSpot w w.heap.size (.slice (some ⟨x 2, 0, none⟩) 3 3) [(10, 0), (0, 10), (0, 0)] := Sl.ofCells h2 rfl (by decide) (by decide) ⟨⟨rfl, inI rfl, inI rfl⟩, ⟨rfl, inI rfl, inI rfl⟩, ⟨rfl, inI rfl, inI rfl⟩, trivial⟩
  have a3 : Sl rEdge w w.heap.size (.slice (some ⟨x 3, 0, none⟩) 2 2) [(sA, [(0, 0), (10, 0)]), (sB, [(10, 0), (0, 10), (0, 0)])] := Sl.ofCells h3 rfl (by decide) (by decide) ⟨⟨_, rfl, by decide, a1⟩, ⟨_, rfl, by decide, a2⟩, trivial⟩
  have a4 : Sl rSpot w w.heap.size (.slice (some ⟨x 4, 0, none⟩) 2 2) [(0, 0), (0, 0)] := Sl.ofCells h4 rfl (by decide) (by decide) ⟨⟨rfl, inI rfl, inI rfl⟩, ⟨rfl, inI rfl, inI rfl⟩, trivial⟩
  have a5 : Sl rInt w w.heap.size (.slice (some ⟨x 5, 0, none⟩) 2 2) [0, 0] := Sl.ofCells h5 rfl (by decide) (by decide) ⟨⟨rfl, inI rfl⟩, ⟨rfl, inI rfl⟩, trivial⟩
  exact ⟨_, _, _, _, _, _, _, _, _, _, _, _, rfl, (show sVest.size ≤ maxLen by decide), Sl.ofCells h6 rfl (Nat.le_refl 1) (by decide) ⟨⟨rfl, by decide⟩, trivial⟩, Sl.ofCells h7 rfl (Nat.le_refl 1) (by decide) ⟨⟨rfl, inI rfl⟩, trivial⟩, Sl.ofCells h8 rfl (Nat.le_refl 1) (by decide) ⟨⟨_, _, _, _, _, _, _, _, rfl, ⟨(show sBack.size ≤ maxLen by decide), inI rfl⟩, a3, Sl.nil _ _, a4, a5⟩, trivial⟩,
    Sl.ofCells h9 rfl (Nat.le_refl 1) (by decide) ⟨⟨rfl, inI rfl, inI rfl⟩, trivial⟩, Sl.nil _ _, two_ops s⟩
theorem two_buns (s : St w0 (twoR x ++ L) w) : Sl rBun w w.heap.size (.slice (some ⟨x 13, 0, none⟩) 1 1) twoBuns := by
  have h13 : w.heap[x 13]? = some (.cells #[.int .i64 7, .int .i64 0, .int .i64 0, .int .i64 0, .int .i64 0, .int .i64 10] 49 (0, 0)) := s.drop.drop.drop.head
  exact Sl.ofCells h13 rfl (by decide) (by decide) ⟨⟨rfl, inI rfl, inI rfl, inI rfl⟩, trivial⟩
theorem two_wrks (s : St w0 (twoR x ++ L) w) : Sl rWrk w w.heap.size (.slice (some ⟨x 15, 0, none⟩) 1 1) twoWrks := by
  have h15 : w.heap[x 15]? = some (.cells #[.string sAnn, .slice (some ⟨x 14, 0, none⟩) 2 2] 87 (0, 0)) := s.drop.head
  have h14 : w.heap[x 14]? = some (.cells #[.int .i64 0, .int .i64 1] 3 (0, 0)) := s.drop.drop.head
  have a14 : Sl rInt w w.heap.size (.slice (some ⟨x 14, 0, none⟩) 2 2) [0, 1] := Sl.ofCells h14 rfl (by decide) (by decide) ⟨⟨rfl, inI rfl⟩, ⟨rfl, inI rfl⟩, trivial⟩
  exact Sl.ofCells h15 rfl (by decide) (by decide) ⟨⟨_, _, rfl, by decide, a14⟩, trivial⟩
theorem two_scns (s : St w0 (twoR x ++ L) w) : Sl rScn w w.heap.size (.slice (some ⟨x 16, 0, none⟩) 3 3) twoScns := by
  have h16 : w.heap[x 16]? = some (.cells #[.int .i64 7, .int .i64 0, .int .i64 0, .int .i64 5, .int .i64 7, .int .i64 0, .int .i64 0, .int .i64 6, .int .i64 7, .int .i64 1, .int .i64 0, .int .i64 9] 51 (0, 0)) := s.head
  exact Sl.ofCells h16 rfl (by decide) (by decide) ⟨⟨rfl, inI rfl, inI rfl, inI rfl, inI rfl⟩, ⟨rfl, inI rfl, inI rfl, inI rfl, inI rfl⟩, ⟨rfl, inI rfl, inI rfl, inI rfl, inI rfl⟩, trivial⟩
end
end Go.Proofs.YtljibjlkjelpbaaGreatDoor

/- The examples of the chapter 57 are met. -/
namespace Go.Proofs.YtljibjlkjelpbaaGreatDoor
open Go.RowKit
set_option maxRecDepth 100000
set_option maxHeartbeats 4000000

theorem same57_ok (w : World) (va vb : Value) (a b : List Pay) (ha : Sl rPay w w.heap.size va a) (hb : Sl rPay w w.heap.size vb b) : Ok Tryz.prog 21 [va, vb].toArray w fun r _ => r = .bool (decide (a = b)) := by
  obtain ⟨A, c, rfl, hac, ham, hacell⟩ := ha.pay
  obtain ⟨B, d, rfl, hbc, hbm, hbcell⟩ := hb.pay
  refine ok_enter Tryz.func21 rfl Tryz.ntmps21 rfl ?_
  focus (refine gc_seq ?_; refine gc_region ?_; apply gw_d; exact det_m rfl rfl (by conv => (lhs; whnf)); refine gw_nil ?_; refine gx_next ?_; refine gc_seq ?_; refine gc_seq ?_; refine gc_region ?_; apply gw_d; exact det_m rfl rfl (by conv => (lhs; whnf)); apply gw_d; exact w_len rfl rfl rfl; apply gw_d; exact det_m rfl rfl (by conv => (lhs; whnf)); apply gw_d; exact w_len rfl rfl rfl; apply gw_d; exact det_cmp rfl rfl rfl rfl rfl; refine gw_nil ?_; refine gx_next ?_)
  refine gc_if_dec rfl (fun h => ?_) (fun h => ?_)
  · focus (refine gc_seq ?_; refine gc_region ?_; apply gw_d; exact det_m rfl rfl (by conv => (lhs; whnf)); refine gw_nil ?_; refine gx_next ?_; refine gc_ret ?_; refine gx_then_ret ?_)
    refine gx_ret1 (v := .bool _) rfl rfl (fun _ _ => ?_)
    have : ¬ a = b := fun hc => h (by rw [hc])
    simp [this]
  have hlen : a.length = b.length := by omega
  focus (refine gc_skip ?_; refine gx_next ?_; refine gc_seq ?_; refine gc_seq ?_; refine gc_region ?_; apply gw_d; exact det_m rfl rfl (by conv => (lhs; whnf)); refine gw_nil ?_; refine gx_next ?_; refine gc_block ?_)
  refine gc_loop (σ := Nat) [11, 12, 13, 14, 17, 18, 19, 20, 21, 22, 23, 24, 25, 4, 15, 16, 5] (fun k => [(5, .int .i64 k)]) (fun _ => []) (fun k => k ≤ a.length ∧ a.take k = b.take k) (fun k => a.length - k) 0 ⟨Nat.zero_le _, rfl⟩ ⟨rfl, trivial⟩ .nil ?_
  rintro k base ⟨hk, hI⟩
  focus (refine gc_seq ?_; refine gc_seq ?_; refine gc_region ?_; apply gw_d; exact det_m rfl rfl (by conv => (lhs; whnf)); apply gw_d; exact det_m rfl rfl (by conv => (lhs; whnf)); apply gw_d; exact w_len rfl rfl rfl; apply gw_d; exact det_cmp rfl rfl rfl rfl rfl; refine gw_nil ?_; refine gx_next ?_)
  refine gc_if_dec rfl (fun h => ?_) (fun h => ?_)
  · have hka : k < a.length := by omega
    have hkb : k < b.length := by omega
    obtain ⟨ad1, rfl, hb1, hce1, _⟩ := hacell k hka
    obtain ⟨ad2, rfl, hb2, hce2, _⟩ := hbcell k hkb
    focus (refine gc_skip ?_; refine gx_next ?_; refine gc_seq ?_; refine gc_block ?_; refine gc_seq ?_)
    refine gc_draw 9 (by kernel_rfl) (by kernel_rfl) ?_
    focus (apply gd_d; exact det_m rfl rfl (by conv => (lhs; whnf)); apply gd_d; exact det_m rfl rfl (by conv => (lhs; whnf)); apply gd_d; exact w_index rfl rfl rfl rfl (by with_reducible exact rfl) (by omega); apply gd_d; exact w_load_elem rfl rfl rfl (by assumption) (by assumption) (by rfl); apply gd_d; exact det_m rfl rfl (by conv => (lhs; whnf)); apply gd_d; exact det_m rfl rfl (by conv => (lhs; whnf)); apply gd_d; exact w_index rfl rfl rfl rfl (by with_reducible exact rfl) (by omega); apply gd_d; exact w_load_elem rfl rfl rfl (by assumption) (by assumption) (by rfl); apply gd_d; exact w_nes (xs := [a[k].who, a[k].work, a[k].top]) (ys := [b[k].who, b[k].work, b[k].top]) rfl rfl rfl rfl rfl rfl; refine gd_nil ?_; refine gw_nil ?_; refine gx_next ?_)
    refine gc_if_dec rfl (fun h3 => ?_) (fun h3 => ?_)
    · focus (refine gc_seq ?_; refine gc_region ?_; apply gw_d; exact det_m rfl rfl (by conv => (lhs; whnf)); refine gw_nil ?_; refine gx_next ?_; refine gc_ret ?_; refine gx_block_ret ?_; refine gx_then_ret ?_; refine gx_then_ret ?_; refine gx_block_ret ?_; refine gx_then_ret ?_)
      refine gx_ret1 (v := .bool _) rfl rfl (fun _ _ => ?_)
      have : ¬ a = b := fun hc => h3 (by subst hc; rfl)
      simp [this]
    · focus (refine gc_skip ?_; refine gx_block ?_; refine gx_next ?_; refine gc_region ?_; apply gw_d; exact det_m rfl rfl (by conv => (lhs; whnf)); apply gw_d; exact det_ar rfl rfl rfl rfl rfl (by omega); apply gw_d; exact det_m rfl rfl (by conv => (lhs; whnf)); refine gw_nil ?_)
      refine gx_round (k + 1) ⟨hka, ?_⟩ (by omega) (by repeat (first | exact Keeps.refl | refine Keeps.upd rfl ?_ | refine Keeps.sets rfl ?_ | refine Keeps.havoc rfl ?_)) ⟨rfl, trivial⟩ .nil
      have h4 := Classical.not_not.1 h3
      have h5 : a[k] = b[k] := by
        simp only [List.cons.injEq, and_true] at h4
        cases ha5 : a[k]; cases hb5 : b[k]
        rw [ha5, hb5] at h4
        simp only at h4
        obtain ⟨q1, q2, q3⟩ := h4
        rw [q1, q2, q3]
      rw [List.take_succ_eq_append_getElem hka, List.take_succ_eq_append_getElem hkb, hI, h5]
  · obtain rfl : k = a.length := by omega
    rw [List.take_length, List.take_of_length_le (by omega)] at hI
    focus (refine gc_exit ?_; refine gx_then_exit ?_; refine gx_then_exit ?_; refine gx_block_exit ?_; refine gx_next ?_; refine gc_seq ?_; refine gc_region ?_; apply gw_d; exact det_m rfl rfl (by conv => (lhs; whnf)); refine gw_nil ?_; refine gx_next ?_; refine gc_ret ?_)
    refine gx_ret1 (v := .bool _) rfl rfl (fun _ _ => ?_)
    simp [hI]

theorem e57a : amtV 250 60 120 10 = 30 ∧ amtE 250 60 120 10 = 0 := by exact ⟨by kernel_rfl, by kernel_rfl⟩
theorem e57b : opCheckE twoSty pl0 = 0 := by kernel_rfl
theorem e57c : paysE 250 60 0 twoBuns twoWrks 3 = 0 := by kernel_rfl
theorem e57d : paysE 250 60 0 twoBuns twoWrks 0 = 0 := by kernel_rfl
theorem e57e : paysL 250 60 twoOps twoBuns twoWrks twoScns = [⟨0, 50, 10⟩] := by kernel_rfl
theorem e57f : paysL 250 60 twoOps twoBuns twoWrks [] = [] := by kernel_rfl
theorem e57g : shL 10 4 = [3, 3, 2, 2] := by kernel_rfl
theorem e57h : totF [⟨0, 1, 2⟩, ⟨1, 3, 0⟩] 0 0 = some (4, 2) := by kernel_rfl
theorem e57i : totF [⟨0, -1, 0⟩] 0 0 = none := by kernel_rfl
theorem e57j : tarE (-1) 0 = 3 := by kernel_rfl
theorem two_small : Small twoOps := ⟨by decide, fun k hk a ha => by
  have hk2 : k < 2 := hk
  obtain rfl | rfl : k = 0 ∨ k = 1 := by omega
  · cases ha
  · have : a = 0 := by simpa [twoOps] using ha
    subst this
    decide⟩
theorem two_min : ∀ k (hk : k < twoOps.length), 0 ≤ twoOps[k].minutes ∧ twoOps[k].minutes ≤ 10000 := fun k hk => by
  have hk2 : k < 2 := hk
  obtain rfl | rfl : k = 0 ∨ k = 1 := by omega
  · show (0 : Int) ≤ 120 ∧ (120 : Int) ≤ 10000
    decide
  · show (0 : Int) ≤ 80 ∧ (80 : Int) ≤ 10000
    decide
section
variable {w0 w : World} {L : List Res} {x : Nat → Nat}
theorem two_check (s : St w0 (twoR x ++ L) w) : ∀ (L' : List Res) (w' : World), St w L' w' → Ok Tryz.prog 53 [twoStyV x].toArray w' fun r _ => r = .int .i64 0 := fun L' w' s' => by
  have h := opCheck0_ok w' _ _ (StyV.later s' (two_sty s)) (fun p hp => by rw [show p = _ from List.mem_singleton.1 hp])
  rw [e57b] at h
  exact h
theorem two_pays (s : St w0 (twoR x ++ L) w) (hL : Lay w) : OkM Tryz.prog 17 [twoStyV x, .slice (some ⟨x 13, 0, none⟩) 1 1, .slice (some ⟨x 15, 0, none⟩) 1 1, .slice (some ⟨x 16, 0, none⟩) 3 3, .agg #[.int .i64 250, .int .i64 60]].toArray w (fun y : Option Addr × Nat => .tuple #[.slice y.1 1 y.2, .int .i64 0]) (fun y => [Own y.1 1 y.2 44 3 [.int .i64 0, .int .i64 50, .int .i64 10]]) := by
  have h := Pays_ok (two_check s) hL (two_ops s) (two_buns s) (two_wrks s) (two_scns s) two_small two_min e57c
  rw [e57e] at h
  exact h
theorem two_none (s : St w0 (twoR x ++ L) w) (hL : Lay w) : OkM Tryz.prog 17 [twoStyV x, .slice (some ⟨x 13, 0, none⟩) 1 1, .slice (some ⟨x 15, 0, none⟩) 1 1, .slice none 0 0, .agg #[.int .i64 250, .int .i64 60]].toArray w (fun y : Option Addr × Nat => .tuple #[.slice y.1 0 y.2, .int .i64 0]) (fun y => [Own y.1 0 y.2 44 3 []]) := by
  have h := Pays_ok (xs := []) (two_check s) hL (two_ops s) (two_buns s) (two_wrks s) (Sl.nil _ _) two_small two_min e57d
  rw [e57f] at h
  exact h
end
theorem share_ten (w : World) : OkM Tryz.prog 36 [.int .i64 10, .int .i64 4].toArray w (fun b : Nat => .tuple #[.slice (some ⟨b, 0, none⟩) 4 4, .int .i64 0]) (fun b => [Box b 3 #[.int .i64 3, .int .i64 3, .int .i64 2, .int .i64 2]]) := by
  have h := wShare_good w 10 4 (by kernel_rfl)
  rw [e57g] at h
  exact h
theorem awake57_ok (w : World) (hL : Lay w) : Ok Tryz.prog 16 [].toArray w fun r _ => r = .bool true := by
  have hAm : ∀ (L : List Res) (w' : World), St w L w' → Ok Tryz.prog 30 [.agg #[.int .i64 250, .int .i64 60], .int .i64 120, .int .i64 10].toArray w' fun y _ => y = .tuple #[.int .i64 30, .int .i64 0] := fun L w' s => by
    have := wAmount_ok w' 250 60 120 10 (hL.later s)
    rw [e57a.1, e57a.2] at this
    exact this
  refine ok_enter Tryz.func16 rfl Tryz.ntmps16 rfl ?_
  focus (refine gc_seq ?_; refine gc_region ?_; apply gw_d; exact det_m rfl rfl (by conv => (lhs; whnf)); refine gw_nil ?_; refine gx_next ?_; refine gc_seq ?_; refine gc_region ?_; apply gw_d; exact w_buildP [(0, .int .i64 250), (1, .int .i64 60)] (cells := #[.int .i64 250, .int .i64 60]) (by kernel_rfl) rfl rfl rfl; refine w_alloc rfl (fun _ => ?_); refine w_store_all rfl rfl rfl rfl rfl .here rfl ?_; refine gw_nil ?_; refine gx_next ?_; refine gc_seq ?_; refine gc_region ?_)
  rename_i bt
  refine gw_callm rfl (fun w s => two_ok w) rfl (fun x => ?_)
  focus (refine w_alloc rfl (fun _ => ?_); refine w_store_all rfl rfl rfl rfl rfl .here rfl ?_; refine gw_nil ?_; refine gx_next ?_; refine gc_seq ?_; refine gc_region ?_)
  rename_i bc
  refine gw_ent (K := Box bt 36 #[.int .i64 250, .int .i64 60] :: Box bc 34 (twoV x).cells :: (twoR x ++ [])) (Sub.ent (.cons (.there (.there (.there (.there (.there (.there (.there (.there (.there (.there (.there (.there (.there (.there (.there (.there (.there .here))))))))))))))))) (.cons .here (Sub.all _)))) ?_
  focus (apply gw_d; exact w_load_boxN rfl rfl rfl .here rfl; apply gw_d; exact w_call rfl rfl (hAm _) rfl; apply gw_d; exact det_m rfl rfl (by conv => (lhs; whnf)); apply gw_d; exact det_extract rfl rfl rfl (by conv => (lhs; whnf)); apply gw_d; exact det_extract rfl rfl rfl (by conv => (lhs; whnf)); apply gw_d; exact det_m rfl rfl (by conv => (lhs; whnf)); apply gw_d; exact det_m rfl rfl (by conv => (lhs; whnf)); refine gw_nil ?_; refine gx_next ?_; refine gc_seq ?_; refine gc_region ?_; apply gw_d; exact w_field rfl rfl rfl; apply gw_d; exact w_load_part rfl rfl rfl (.there .here) rfl rfl; apply gw_d; exact w_field rfl rfl rfl; apply gw_d; exact w_load_box rfl rfl rfl (.there .here) rfl; apply gw_d; exact w_field rfl rfl rfl; apply gw_d; exact w_load_box rfl rfl rfl (.there .here) rfl; apply gw_d; exact w_field rfl rfl rfl; apply gw_d; exact w_load_box rfl rfl rfl (.there .here) rfl; apply gw_d; exact w_load_boxN rfl rfl rfl .here rfl)
  refine gw_callm rfl (fun w s => two_pays s.drop.drop (hL.later s)) rfl (fun y => ?_)
  focus (apply gw_d; exact det_m rfl rfl (by conv => (lhs; whnf)); apply gw_d; exact det_extract rfl rfl rfl (by conv => (lhs; whnf)); apply gw_d; exact det_extract rfl rfl rfl (by conv => (lhs; whnf)); apply gw_d; exact det_m rfl rfl (by conv => (lhs; whnf)); apply gw_d; exact det_m rfl rfl (by conv => (lhs; whnf)); refine gw_nil ?_; refine gx_next ?_; refine gc_seq ?_; refine gc_region ?_; apply gw_d; exact w_field rfl rfl rfl; apply gw_d; exact w_load_part rfl rfl rfl (.there (.there .here)) rfl rfl; apply gw_d; exact w_field rfl rfl rfl; apply gw_d; exact w_load_box rfl rfl rfl (.there (.there .here)) rfl; apply gw_d; exact w_field rfl rfl rfl; apply gw_d; exact w_load_box rfl rfl rfl (.there (.there .here)) rfl; apply gw_d; exact w_load_boxN rfl rfl rfl (.there .here) rfl)
  refine gw_callm rfl (fun w s => two_none s.drop.drop.drop (hL.later s)) rfl (fun z => ?_)
  refine gw_ent (K := [Own y.1 1 y.2 44 3 [.int .i64 0, .int .i64 50, .int .i64 10]]) (Sub.ent (.cons (.there .here) .nil)) ?_
  focus (apply gw_d; exact det_m rfl rfl (by conv => (lhs; whnf)); apply gw_d; exact det_extract rfl rfl rfl (by conv => (lhs; whnf)); apply gw_d; exact det_extract rfl rfl rfl (by conv => (lhs; whnf)); apply gw_d; exact det_m rfl rfl (by conv => (lhs; whnf)); apply gw_d; exact det_m rfl rfl (by conv => (lhs; whnf)); refine gw_nil ?_; refine gx_next ?_; refine gc_seq ?_; refine gc_region ?_)
  refine gw_callm rfl (fun w s => share_ten w) rfl (fun bs => ?_)
  focus (apply gw_d; exact det_m rfl rfl (by conv => (lhs; whnf)); apply gw_d; exact det_extract rfl rfl rfl (by conv => (lhs; whnf)); apply gw_d; exact det_extract rfl rfl rfl (by conv => (lhs; whnf)); apply gw_d; exact det_m rfl rfl (by conv => (lhs; whnf)); apply gw_d; exact det_m rfl rfl (by conv => (lhs; whnf)); refine gw_nil ?_; refine gx_next ?_; refine gc_seq ?_; refine gc_region ?_; apply gw_d; exact w_buildP [(1, .int .i64 1), (2, .int .i64 2)] (cells := #[.int .i64 0, .int .i64 1, .int .i64 2]) (by kernel_rfl) rfl rfl rfl; apply gw_d; exact w_buildP [(0, .int .i64 1), (1, .int .i64 3)] (cells := #[.int .i64 1, .int .i64 3, .int .i64 0]) (by kernel_rfl) rfl rfl rfl)
  refine gw_bslice (cells := #[.int .i64 0, .int .i64 1, .int .i64 2, .int .i64 1, .int .i64 3, .int .i64 0]) rfl ?_ ?_ ?_ (fun b1 => ?_)
  · rfl
  · rfl
  · kernel_rfl
  have hT1 : ∀ (L : List Res) (w' : World), St w (Box b1 44 #[.int .i64 0, .int .i64 1, .int .i64 2, .int .i64 1, .int .i64 3, .int .i64 0] :: L) w' → Ok Tryz.prog 19 [.slice (some ⟨b1, 0, none⟩) 2 2].toArray w' fun y _ => y = .tuple #[.int .i64 4, .int .i64 2, .int .i64 0] := fun L w' s => by
    have h := wTotal_ok w' (.slice (some ⟨b1, 0, none⟩) 2 2) [⟨0, 1, 2⟩, ⟨1, 3, 0⟩] (Sl.ofCells s.head rfl (by decide) (by decide) ⟨⟨rfl, inI rfl, inI rfl, inI rfl⟩, ⟨rfl, inI rfl, inI rfl, inI rfl⟩, trivial⟩)
    rw [e57h] at h
    exact h
  focus (apply gw_d; exact w_call rfl rfl (hT1 _) rfl; apply gw_d; exact det_m rfl rfl (by conv => (lhs; whnf)); apply gw_d; exact det_extract rfl rfl rfl (by conv => (lhs; whnf)); apply gw_d; exact det_extract rfl rfl rfl (by conv => (lhs; whnf)); apply gw_d; exact det_extract rfl rfl rfl (by conv => (lhs; whnf)); apply gw_d; exact det_m rfl rfl (by conv => (lhs; whnf)); apply gw_d; exact det_m rfl rfl (by conv => (lhs; whnf)); apply gw_d; exact det_m rfl rfl (by conv => (lhs; whnf)); refine gw_nil ?_; refine gx_next ?_; refine gc_seq ?_; refine gc_region ?_; apply gw_d; exact w_buildP [(1, .int .i64 (-1))] (cells := #[.int .i64 0, .int .i64 (-1), .int .i64 0]) (by kernel_rfl) rfl rfl rfl)
  refine gw_bslice1 (v := .agg #[.int .i64 0, .int .i64 (-1), .int .i64 0]) rfl rfl rfl rfl rfl (fun b2 => ?_)
  have hT2 : ∀ (L : List Res) (w' : World), St w (Box b2 44 #[.int .i64 0, .int .i64 (-1), .int .i64 0] :: L) w' → Ok Tryz.prog 19 [.slice (some ⟨b2, 0, none⟩) 1 1].toArray w' fun y _ => y = .tuple #[.int .i64 0, .int .i64 0, .int .i64 3] := fun L w' s => by
    have h := wTotal_ok w' (.slice (some ⟨b2, 0, none⟩) 1 1) [⟨0, -1, 0⟩] (Sl.ofCells s.head rfl (by decide) (by decide) ⟨⟨rfl, inI rfl, inI rfl, inI rfl⟩, trivial⟩)
    rw [e57i] at h
    exact h
  focus (apply gw_d; exact w_call rfl rfl (hT2 _) rfl; apply gw_d; exact det_m rfl rfl (by conv => (lhs; whnf)); apply gw_d; exact det_extract rfl rfl rfl (by conv => (lhs; whnf)); apply gw_d; exact det_extract rfl rfl rfl (by conv => (lhs; whnf)); apply gw_d; exact det_extract rfl rfl rfl (by conv => (lhs; whnf)); apply gw_d; exact det_m rfl rfl (by conv => (lhs; whnf)); apply gw_d; exact det_m rfl rfl (by conv => (lhs; whnf)); apply gw_d; exact det_m rfl rfl (by conv => (lhs; whnf)); refine gw_nil ?_; refine gx_next ?_; refine gc_seq ?_; refine gc_seq ?_; refine gc_region ?_; apply gw_d; exact det_m rfl rfl (by conv => (lhs; whnf)); apply gw_d; exact det_cmp rfl rfl rfl rfl rfl; apply gw_d; exact det_m rfl rfl (by conv => (lhs; whnf)); apply gw_d; exact det_m rfl rfl (by conv => (lhs; whnf)); apply gw_d; exact det_cmp rfl rfl rfl rfl rfl; apply gw_d; exact det_pick_f (v := .bool _) rfl rfl rfl rfl; apply gw_d; exact det_m rfl rfl (by conv => (lhs; whnf)); apply gw_d; exact det_m rfl rfl (by conv => (lhs; whnf)); apply gw_d; exact det_cmp rfl rfl rfl rfl rfl; apply gw_d; exact det_pick_f (v := .bool _) rfl rfl rfl rfl; apply gw_d; exact det_m rfl rfl (by conv => (lhs; whnf)); apply gw_d; exact det_m rfl rfl (by conv => (lhs; whnf)); apply gw_d; exact det_cmp rfl rfl rfl rfl rfl; apply gw_d; exact det_pick_f (v := .bool _) rfl rfl rfl rfl; apply gw_d; exact det_m rfl rfl (by conv => (lhs; whnf)); apply gw_d; exact det_m rfl rfl (by conv => (lhs; whnf)); apply gw_d; exact det_cmp rfl rfl rfl rfl rfl; apply gw_d; exact det_pick_f (v := .bool _) rfl rfl rfl rfl; apply gw_d; exact det_m rfl rfl (by conv => (lhs; whnf)); apply gw_d; exact det_m rfl rfl (by conv => (lhs; whnf)); apply gw_d; exact det_cmp rfl rfl rfl rfl rfl; apply gw_d; exact det_pick_f (v := .bool _) rfl rfl rfl rfl; refine gw_nil ?_; refine gx_next ?_)
  refine gc_if_false rfl ?_
  refine gc_ent (K := [Box bs 3 #[.int .i64 3, .int .i64 3, .int .i64 2, .int .i64 2], Own y.1 1 y.2 44 3 [.int .i64 0, .int .i64 50, .int .i64 10]]) (Sub.ent (.cons (.there (.there .here)) (.cons (.there (.there .here)) .nil))) ?_
  focus (refine gc_skip ?_; refine gx_next ?_; refine gc_seq ?_; refine gc_region ?_; apply gw_d; exact det_m rfl rfl (by conv => (lhs; whnf)); apply gw_d; exact det_cmp rfl rfl rfl rfl rfl; apply gw_d; exact det_m rfl rfl (by conv => (lhs; whnf)); apply gw_d; exact det_m rfl rfl (by conv => (lhs; whnf)); apply gw_d; exact w_buildP [(1, .int .i64 50), (2, .int .i64 10)] (cells := #[.int .i64 0, .int .i64 50, .int .i64 10]) (by kernel_rfl) rfl rfl rfl)
  refine gw_bslice1 (v := .agg #[.int .i64 0, .int .i64 50, .int .i64 10]) rfl rfl rfl rfl rfl (fun b3 => ?_)
  have hS1 : ∀ (L : List Res) (w' : World), St w (Box b3 44 #[.int .i64 0, .int .i64 50, .int .i64 10] :: Box bs 3 #[.int .i64 3, .int .i64 3, .int .i64 2, .int .i64 2] :: Own y.1 1 y.2 44 3 [.int .i64 0, .int .i64 50, .int .i64 10] :: L) w' → Ok Tryz.prog 21 [.slice y.1 1 y.2, .slice (some ⟨b3, 0, none⟩) 1 1].toArray w' fun r _ => r = .bool true := fun L w' s => by
    have h1 : Sl rPay w' w'.heap.size (.slice y.1 1 y.2) [⟨0, 50, 10⟩] := Sl.own (R := rPay) (enc := encP) (l := [⟨0, 50, 10⟩]) s (.there (.there .here)) rfl (fun q hq => by rw [List.mem_singleton] at hq; subst hq; exact ⟨rfl, inI rfl, inI rfl, inI rfl⟩)
    have h2 : Sl rPay w' w'.heap.size (.slice (some ⟨b3, 0, none⟩) 1 1) [⟨0, 50, 10⟩] := Sl.ofCells s.head rfl (by decide) (by decide) ⟨⟨rfl, inI rfl, inI rfl, inI rfl⟩, trivial⟩
    exact same57_ok w' _ _ [⟨0, 50, 10⟩] [⟨0, 50, 10⟩] h1 h2
  have hCk : ∀ (L : List Res) (w' : World), St w L w' → Ok Tryz.prog 33 [.agg #[.int .i64 (-1), .int .i64 0]].toArray w' fun y _ => y = .int .i64 3 := fun L w' s => by
    have h := wCheck_ok w' (-1) 0 (hL.later s)
    rw [e57j] at h
    exact h
  focus (apply gw_d; exact w_call rfl rfl (hS1 _) rfl; apply gw_d; exact det_pick_t (v := .bool _) rfl rfl rfl rfl; apply gw_d; exact det_m rfl rfl (by conv => (lhs; whnf)); apply gw_d; exact det_m rfl rfl (by conv => (lhs; whnf)); apply gw_d; exact w_len rfl rfl rfl; apply gw_d; exact det_cmp rfl rfl rfl rfl rfl; apply gw_d; exact det_pick_t (v := .bool _) rfl rfl rfl rfl; apply gw_d; exact det_m rfl rfl (by conv => (lhs; whnf)); apply gw_d; exact det_m rfl rfl (by conv => (lhs; whnf)); apply gw_d; exact w_len rfl rfl rfl; apply gw_d; exact det_cmp rfl rfl rfl rfl rfl; apply gw_d; exact det_pick_t (v := .bool _) rfl rfl rfl rfl; apply gw_d; exact det_m rfl rfl (by conv => (lhs; whnf)); apply gw_d; exact det_m rfl rfl (by conv => (lhs; whnf)); apply gw_d; exact w_index (m := 0) rfl rfl rfl rfl rfl (by decide); apply gw_d; exact w_load_box rfl rfl rfl (.there .here) rfl; apply gw_d; exact det_cmp rfl rfl rfl rfl rfl; apply gw_d; exact det_pick_t (v := .bool _) rfl rfl rfl rfl; apply gw_d; exact det_m rfl rfl (by conv => (lhs; whnf)); apply gw_d; exact det_m rfl rfl (by conv => (lhs; whnf)); apply gw_d; exact w_index (m := 1) rfl rfl rfl rfl rfl (by decide); apply gw_d; exact w_load_box rfl rfl rfl (.there .here) rfl; apply gw_d; exact det_cmp rfl rfl rfl rfl rfl; apply gw_d; exact det_pick_t (v := .bool _) rfl rfl rfl rfl; apply gw_d; exact det_m rfl rfl (by conv => (lhs; whnf)); apply gw_d; exact det_m rfl rfl (by conv => (lhs; whnf)); apply gw_d; exact w_index (m := 2) rfl rfl rfl rfl rfl (by decide); apply gw_d; exact w_load_box rfl rfl rfl (.there .here) rfl; apply gw_d; exact det_cmp rfl rfl rfl rfl rfl; apply gw_d; exact det_pick_t (v := .bool _) rfl rfl rfl rfl; apply gw_d; exact det_m rfl rfl (by conv => (lhs; whnf)); apply gw_d; exact det_m rfl rfl (by conv => (lhs; whnf)); apply gw_d; exact w_index (m := 3) rfl rfl rfl rfl rfl (by decide); apply gw_d; exact w_load_box rfl rfl rfl (.there .here) rfl; apply gw_d; exact det_cmp rfl rfl rfl rfl rfl; apply gw_d; exact det_pick_t (v := .bool _) rfl rfl rfl rfl; apply gw_d; exact det_m rfl rfl (by conv => (lhs; whnf)); apply gw_d; exact det_m rfl rfl (by conv => (lhs; whnf)); apply gw_d; exact det_cmp rfl rfl rfl rfl rfl; apply gw_d; exact det_pick_t (v := .bool _) rfl rfl rfl rfl; apply gw_d; exact det_m rfl rfl (by conv => (lhs; whnf)); apply gw_d; exact det_m rfl rfl (by conv => (lhs; whnf)); apply gw_d; exact det_cmp rfl rfl rfl rfl rfl; apply gw_d; exact det_pick_t (v := .bool _) rfl rfl rfl rfl; apply gw_d; exact det_m rfl rfl (by conv => (lhs; whnf)); apply gw_d; exact w_buildP [(0, .int .i64 (-1))] (cells := #[.int .i64 (-1), .int .i64 0]) (by kernel_rfl) rfl rfl rfl; apply gw_d; exact w_call rfl rfl (hCk _) rfl; apply gw_d; exact det_cmp rfl rfl rfl rfl rfl; apply gw_d; exact det_pick_t (v := .bool _) rfl rfl rfl rfl; apply gw_d; exact det_m rfl rfl (by conv => (lhs; whnf)); refine gw_nil ?_; refine gx_next ?_; refine gc_ret ?_)
  refine gx_ret1 (v := .bool _) rfl rfl (fun _ _ => ?_)
  rfl
end Go.Proofs.YtljibjlkjelpbaaGreatDoor

/- Plain facts of the law OperationStyles: a style without the uses of its operations. -/
namespace Go.Proofs.YtljibjlkjelpbaaGreatDoor
open Go.RowKit

def bare (l : List Opn) : List Opn := l.map fun o => { o with uses := [] }
theorem bare_len (l : List Opn) : (bare l).length = l.length := by simp [bare]
theorem bare_at (l : List Opn) (i : Nat) : (bare l)[i]? = (l[i]?).map fun o => { o with uses := [] } := by unfold bare; rw [List.getElem?_map]
theorem op_parts {l : List Opn} {n : Int} {i : Nat} {o : Opn} (ho : l[i]? = some o) (h : opE l n i = 0) : ¬ (¬ nameB o.name = true) ∧ ¬ ((l.take i).any fun x => eqS x.name o.name) = true ∧ ¬ (o.machine < 0 ∨ o.machine ≥ 8 ∨ o.minutes < 1 ∨ o.minutes > 10000) ∧
    ¬ (areIx o.after l.length = false ∨ (0 ≤ n ∧ areIx o.uses n = false)) ∧ ¬ (dupL o.after o.after.length = true ∨ (0 ≤ n ∧ dupL o.uses o.uses.length = true)) := by
  unfold opE at h
  rw [ho] at h
  dsimp only at h
  split at h
  · cases h
  rename_i c1
  split at h
  · cases h
  rename_i c2
  split at h
  · cases h
  rename_i c3
  split at h
  · cases h
  rename_i c4
  split at h
  · cases h
  rename_i c5
  exact ⟨c1, c2, c3, c4, c5⟩
theorem op_mk {l : List Opn} {n : Int} {i : Nat} {o : Opn} (ho : l[i]? = some o) (c1 : ¬ (¬ nameB o.name = true)) (c2 : ¬ ((l.take i).any fun x => eqS x.name o.name) = true) (c3 : ¬ (o.machine < 0 ∨ o.machine ≥ 8 ∨ o.minutes < 1 ∨ o.minutes > 10000)) :
    opE l n i = if areIx o.after l.length = false ∨ (0 ≤ n ∧ areIx o.uses n = false) then 3 else if dupL o.after o.after.length = true ∨ (0 ≤ n ∧ dupL o.uses o.uses.length = true) then 7 else 0 := by
  unfold opE
  rw [ho]
  dsimp only
  rw [if_neg c1, if_neg c2, if_neg c3]
theorem opE_none {l : List Opn} {n : Int} {i : Nat} (h : l[i]? = none) : opE l n i = 0 := by unfold opE; rw [h]
theorem opE_bare (l : List Opn) (n : Int) (i : Nat) (h : opE l n i = 0) : opE (bare l) n i = 0 := by
  cases hi : l[i]? with
  | none => exact opE_none (by rw [bare_at, hi]; rfl)
  | some o =>
    obtain ⟨c1, c2, c3, c4, c5⟩ := op_parts hi h
    have e1 : (((bare l).take i).any fun x => eqS x.name o.name) = ((l.take i).any fun x => eqS x.name o.name) := by
      unfold bare
      rw [← List.map_take, List.any_map]
      rfl
    rw [op_mk (l := bare l) (o := { o with uses := [] }) (by rw [bare_at, hi]; rfl) c1 (by rw [e1]; exact c2) c3, bare_len, if_neg, if_neg]
    · exact fun h => h.elim (fun a => c5 (.inl a)) (fun b => Bool.noConfusion (show false = true from b.2))
    · exact fun h => h.elim (fun a => c4 (.inl a)) (fun b => Bool.noConfusion (show true = false from b.2))
theorem opE_drop (l : List Opn) (n : Int) (i : Nat) (h : opE l n i = 0) : opE l (-1) i = 0 := by
  cases hi : l[i]? with
  | none => exact opE_none hi
  | some o =>
    obtain ⟨c1, c2, c3, c4, c5⟩ := op_parts hi h
    rw [op_mk hi c1 c2 c3, if_neg, if_neg]
    · exact fun h => h.elim (fun a => c5 (.inl a)) (fun b => by omega)
    · exact fun h => h.elim (fun a => c4 (.inl a)) (fun b => by omega)
theorem opE_37 (l : List Opn) (n : Int) (i : Nat) (h : opE l (-1) i = 0) : opE l n i = 0 ∨ opE l n i = 3 ∨ opE l n i = 7 := by
  cases hi : l[i]? with
  | none => exact .inl (opE_none hi)
  | some o =>
    obtain ⟨c1, c2, c3, c4, c5⟩ := op_parts hi h
    rw [op_mk hi c1 c2 c3]
    split
    · exact .inr (.inl rfl)
    · split
      · exact .inr (.inr rfl)
      · exact .inl rfl
theorem firstE_all {f : Nat → Int} : ∀ n, (∀ k, k < n → f k = 0) → firstE f n = 0
  | 0, _ => rfl
  | n + 1, h => firstE_snoc (firstE_all n fun k hk => h k (by omega)) (h n (by omega))
theorem firstE_mem {f : Nat → Int} : ∀ n, firstE f n = 0 ∨ ∃ k, k < n ∧ firstE f n = f k
  | 0 => .inl rfl
  | n + 1 => by
    show (if firstE f n = 0 then f n else firstE f n) = 0 ∨ ∃ k, k < n + 1 ∧ (if firstE f n = 0 then f n else firstE f n) = f k
    split
    · exact .inr ⟨n, by omega, rfl⟩
    · rcases firstE_mem (f := f) n with h | ⟨k, hk, h⟩
      · exact .inl h
      · exact .inr ⟨k, by omega, h⟩
theorem list_parts {l : List Opn} {n : Int} (h : listE l n = 0) : ¬ 16 < l.length ∧ firstE (opE l n) l.length = 0 ∧ fullB l = true := by
  unfold listE at h
  split at h
  · cases h
  rename_i c1
  split at h
  · rename_i c2; exact absurd h c2
  rename_i c2
  split at h
  · rename_i c3; exact ⟨c1, Classical.not_not.1 c2, c3⟩
  · cases h
theorem list_mk {l : List Opn} {n : Int} (h1 : ¬ 16 < l.length) (h3 : fullB l = true) : listE l n = firstE (opE l n) l.length := by
  unfold listE
  rw [if_neg h1, if_pos h3]
  split
  · rfl
  · rename_i h; exact (Classical.not_not.1 h).symm
theorem list_drop {l : List Opn} {n : Int} (h : listE l n = 0) : listE l (-1) = 0 := by
  obtain ⟨h1, h2, h3⟩ := list_parts h
  rw [list_mk h1 h3]
  exact firstE_all _ fun k hk => opE_drop l n k (firstE_at h2 k hk)
theorem list_37 {l : List Opn} {n : Int} (h : listE l (-1) = 0) : listE l n = 0 ∨ listE l n = 3 ∨ listE l n = 7 := by
  obtain ⟨h1, h2, h3⟩ := list_parts h
  rw [list_mk h1 h3]
  rcases firstE_mem (f := opE l n) l.length with h4 | ⟨k, hk, h4⟩
  · exact .inl h4
  · rw [h4]
    exact opE_37 l n k (firstE_at h2 k hk)
theorem afterOf_bare (l : List Opn) (i : Nat) : afterOf (bare l) i = afterOf l i := by
  unfold afterOf
  rw [bare_at]
  cases l[i]? <;> rfl
theorem nextOf_bare (l : List Opn) (o : List Int) : nextOf (bare l) o = nextOf l o := by
  have : readyB (bare l) o = readyB l o := by funext i; unfold readyB; rw [afterOf_bare]
  unfold nextOf
  rw [this, bare_len]
theorem arr_bare (l : List Opn) : ∀ (f : Nat) (o : List Int), arr (bare l) f o = arr l f o
  | 0, _ => rfl
  | f + 1, o => by
    show (match nextOf (bare l) o with | some i => arr (bare l) f (o ++ [(i : Int)]) | none => o) = (match nextOf l o with | some i => arr l f (o ++ [(i : Int)]) | none => o)
    rw [nextOf_bare]
    cases nextOf l o with
    | none => rfl
    | some i => exact arr_bare l f _
theorem full_bare (l : List Opn) : fullB (bare l) = fullB l := by
  have : sortedL (bare l) = sortedL l := by unfold sortedL; rw [arr_bare, bare_len]
  unfold fullB
  rw [this, bare_len]
theorem list_bare {l : List Opn} {n : Int} (h : listE l n = 0) : listE (bare l) n = 0 := by
  obtain ⟨h1, h2, h3⟩ := list_parts h
  rw [list_mk (by rw [bare_len]; exact h1) (by rw [full_bare]; exact h3), bare_len]
  exact firstE_all _ fun k hk => opE_bare l n k (firstE_at h2 k hk)
theorem marks_bare (n : Nat) (l : List Opn) : marks n (bare l) = List.replicate n false := by
  unfold marks bare
  rw [List.foldl_map]
  suffices h : ∀ (l : List Opn) (bs : List Bool), l.foldl (fun bs (o : Opn) => markIn bs ({ o with uses := [] } : Opn).uses) bs = bs by exact h l _
  intro l
  induction l with
  | nil => intro bs; rfl
  | cons x l ih => intro bs; exact ih bs
def bareS (s : Sty) : Sty := { s with ops := bare s.ops }
theorem style_bare (s : Sty) (pl : Pc → Int) : styleE (bareS s) pl = styleE s pl := by
  have h1 : wholeE (bareS s) = wholeE s := by
    unfold wholeE bareS
    simp only [bare_len]
  unfold styleE
  rw [h1]
  rfl
theorem check_parts {s : Sty} {pl : Pc → Int} (h : opCheckE s pl = 0) : styleE s pl = 0 ∧ listE s.ops s.uses.length = 0 ∧ (marks s.uses.length s.ops).all id = true := by
  unfold opCheckE at h
  split at h
  · rename_i c; exact absurd h c
  rename_i c1
  split at h
  · rename_i c; exact absurd h c
  rename_i c2
  split at h
  · rename_i c3; exact ⟨Classical.not_not.1 c1, Classical.not_not.1 c2, c3⟩
  · cases h
theorem check_bare {s : Sty} {pl : Pc → Int} (h : opCheckE s pl = 0) : opCheckE (bareS s) pl = if s.uses.length = 0 then 0 else 20 := by
  obtain ⟨h1, h2, h3⟩ := check_parts h
  unfold opCheckE
  rw [style_bare, if_neg (by rw [h1]; decide)]
  have e1 : listE (bareS s).ops (bareS s).uses.length = 0 := list_bare h2
  have e2 : marks (bareS s).uses.length (bareS s).ops = List.replicate s.uses.length false := marks_bare _ _
  rw [if_neg (by rw [e1]; decide), e2]
  by_cases hz : s.uses.length = 0
  · rw [hz]; rfl
  · rw [if_neg hz, if_neg]
    obtain ⟨m, hm⟩ : ∃ m, s.uses.length = m + 1 := ⟨s.uses.length - 1, by omega⟩
    rw [hm]
    simp
theorem check_bad {s : Sty} {pl : Pc → Int} (h : ¬ opCheckE s pl = 0) : (styleE s pl = 0 ∨ opCheckE s pl = styleE s pl) ∧ (¬ styleE s pl = 0 ∨ ¬ listE s.ops (-1) = 0 ∨ opCheckE s pl = 3 ∨ opCheckE s pl = 7 ∨ opCheckE s pl = 20) := by
  by_cases h1 : styleE s pl = 0
  · refine ⟨.inl h1, .inr ?_⟩
    by_cases h2 : listE s.ops (-1) = 0
    · have h3 := list_37 (n := s.uses.length) h2
      unfold opCheckE at h ⊢
      rw [if_neg (by rw [h1]; decide)] at h ⊢
      split
      · omega
      · rename_i c
        rw [if_neg c] at h
        split
        · rename_i c2; rw [if_pos c2] at h; exact absurd rfl h
        · omega
    · exact .inl h2
  · refine ⟨.inr ?_, .inl h1⟩
    unfold opCheckE
    rw [if_pos h1]
/-! ### The cells, as they are cleared one by one -/
def clr : Nat → List Value → List Value
  | 0, cs => cs
  | k + 1, cs => (clr k cs).set (k * 5 + 4) (.slice none 0 0)
theorem clr_len : ∀ k cs, (clr k cs).length = cs.length
  | 0, _ => rfl
  | k + 1, cs => by
    show ((clr k cs).set _ _).length = _
    rw [List.length_set, clr_len k cs]
theorem clr_take {m : Nat} : ∀ k cs, (clr k cs).take m = clr k (cs.take m)
  | 0, _ => rfl
  | k + 1, cs => by
    show ((clr k cs).set _ _).take m = (clr k (cs.take m)).set _ _
    rw [List.take_set, clr_take k cs]
theorem clr_at : ∀ k (cs : List Value) i, i < cs.length → (clr k cs)[i]? = if i % 5 = 4 ∧ i / 5 < k then some (.slice none 0 0) else cs[i]?
  | 0, cs, i, _ => by rw [if_neg (by omega)]; rfl
  | k + 1, cs, i, hi => by
    show ((clr k cs).set _ _)[i]? = _
    rw [List.getElem?_set, clr_len, clr_at k cs i hi]
    by_cases h : k * 5 + 4 = i
    · rw [if_pos h, if_pos (by omega), if_pos (by omega)]
    · rw [if_neg h]
      by_cases h2 : i % 5 = 4 ∧ i / 5 < k
      · rw [if_pos h2, if_pos (by omega)]
      · rw [if_neg h2, if_neg (by omega)]
theorem clr_chunk {n k : Nat} {cs : List Value} (hl : cs.length = n * 5) (hk : k < n) {a b c d f : Value} (h : (cs.drop (k * 5)).take 5 = [a, b, c, d, f]) : ((clr n cs).drop (k * 5)).take 5 = [a, b, c, d, .slice none 0 0] := by
  have hc : ∀ j, j < 5 → cs[k * 5 + j]? = [a, b, c, d, f][j]? := fun j hj => by
    rw [← h, List.getElem?_take, if_pos hj, List.getElem?_drop]
  apply List.ext_getElem?
  intro j
  rw [List.getElem?_take]
  by_cases hj : j < 5
  · rw [if_pos hj, List.getElem?_drop, clr_at _ _ _ (by omega), hc j hj]
    match j, hj with
    | 0, _ => rw [if_neg (by omega)]; rfl
    | 1, _ => rw [if_neg (by omega)]; rfl
    | 2, _ => rw [if_neg (by omega)]; rfl
    | 3, _ => rw [if_neg (by omega)]; rfl
    | 4, _ => rw [if_pos (by omega)]; rfl
  · rw [if_neg hj, List.getElem?_eq_none (by simp; omega)]
end Go.Proofs.YtljibjlkjelpbaaGreatDoor

/- Contracts: scan.Paid, given what operation.Check answers. -/
namespace Go.Proofs.YtljibjlkjelpbaaGreatDoor
open Go.RowKit
set_option maxRecDepth 100000
set_option maxHeartbeats 4000000

def encX (x : Scn) : List Value := [.int .i64 x.tick, .int .i64 x.op, .int .i64 x.who, .int .i64 x.time]
section
variable {w : World} {v0 v1 v2 v3 v4 v5 v6 vb vw vx : Value} {e : Int} {l : List Opn} {bs : List Bun} {ws : List Wrk} {xs : List Scn} (hO : ∀ (L : List Res) (w' : World), St w L w' → Ok Tryz.prog 53 [.agg #[v0, v1, v2, v3, v4, v5, v6]].toArray w' fun x _ => x = .int .i64 e)
include hO
theorem Paid_bad (hb : Sl rBun w w.heap.size vb bs) (hw : Sl rWrk w w.heap.size vw ws) (hx : Sl rScn w w.heap.size vx xs) (he : ¬ judgeAllE e bs ws xs.length = 0) : Ok Tryz.prog 20 [.agg #[v0, v1, v2, v3, v4, v5, v6], vb, vw, vx].toArray w fun x _ => x = .tuple #[.slice none 0 0, .int .i64 (judgeAllE e bs ws xs.length)] := by
  have hJ : ∀ (L : List Res) (w' : World), St w L w' → Ok Tryz.prog 37 [.agg #[v0, v1, v2, v3, v4, v5, v6], vb, vw, vx].toArray w' fun x _ => x = .tuple #[.slice none 0 0, .int .i64 (judgeAllE e bs ws xs.length)] := fun L w' s => Judge_bad (hO_later hO s) (hb.later s) (hw.later s) (hx.later s) he
  refine ok_enter Tryz.func20 rfl Tryz.ntmps20 rfl ?_
  focus (refine gc_seq ?_; refine gc_region ?_; refine gw_boxd (v := .agg _) rfl rfl (fun _ => ?_); apply gw_d; exact det_m rfl rfl (by conv => (lhs; whnf)); apply gw_d; exact det_m rfl rfl (by conv => (lhs; whnf)); refine gw_nil ?_; refine gx_next ?_; refine gc_seq ?_; refine gc_region ?_; apply gw_d; exact w_load_boxN rfl rfl rfl .here rfl; apply gw_d; exact det_m rfl rfl (by conv => (lhs; whnf)); apply gw_d; exact det_m rfl rfl (by conv => (lhs; whnf)); apply gw_d; exact det_m rfl rfl (by conv => (lhs; whnf)); apply gw_d; exact w_call rfl rfl (hJ _) rfl; apply gw_d; exact det_m rfl rfl (by conv => (lhs; whnf)); apply gw_d; exact det_extract rfl rfl rfl (by conv => (lhs; whnf)); apply gw_d; exact det_extract rfl rfl rfl (by conv => (lhs; whnf)); apply gw_d; exact det_m rfl rfl (by conv => (lhs; whnf)); apply gw_d; exact det_m rfl rfl (by conv => (lhs; whnf)); refine gw_nil ?_; refine gx_next ?_; refine gc_seq ?_; refine gc_seq ?_; refine gc_region ?_; apply gw_d; exact det_m rfl rfl (by conv => (lhs; whnf)); apply gw_d; exact det_cmp rfl rfl rfl rfl rfl; refine gw_nil ?_; refine gx_next ?_)
  refine gc_if_dec rfl (fun _ => ?_) (fun h => absurd he h)
  focus (refine gc_seq ?_; refine gc_region ?_; apply gw_d; exact det_m rfl rfl (by conv => (lhs; whnf)); apply gw_d; exact det_m rfl rfl (by conv => (lhs; whnf)); apply gw_d; exact det_m rfl rfl (by conv => (lhs; whnf)); refine gw_nil ?_; refine gx_next ?_; refine gc_ret ?_; refine gx_then_ret ?_)
  refine gx_ret2 (u := .slice _ _ _) (v := .int _ _) rfl rfl rfl (fun _ _ => ?_)
  rfl
theorem Paid_ok (hl : Sl rOp w w.heap.size v6 l) (hb : Sl rBun w w.heap.size vb bs) (hw : Sl rWrk w w.heap.size vw ws) (hx : Sl rScn w w.heap.size vx xs) (hS : Small l) (he : judgeAllE e bs ws xs.length = 0) :
    OkM Tryz.prog 20 [.agg #[v0, v1, v2, v3, v4, v5, v6], vb, vw, vx].toArray w (fun x : Option Addr × Nat => .tuple #[.slice x.1 (paidL l ws (ticks bs) xs).length x.2, .int .i64 0]) (fun x => [Own x.1 (paidL l ws (ticks bs) xs).length x.2 51 4 ((paidL l ws (ticks bs) xs).flatMap encX)]) := by
  have hJ : ∀ (L : List Res) (w' : World), St w L w' → OkM Tryz.prog 37 [.agg #[v0, v1, v2, v3, v4, v5, v6], vb, vw, vx].toArray w' (fun x : Nat => .tuple #[.slice (some ⟨x, 0, none⟩) xs.length xs.length, .int .i64 0]) (fun x => [Box x 3 ((outs l ws (ticks bs) [] xs).map (Value.int .i64)).toArray]) := fun L w' s => Judge_ok (hO_later hO s) (hl.later s) (hb.later s) (hw.later s) (hx.later s) hS he
  have h300 : xs.length ≤ 300 := by
    unfold judgeAllE at he
    split at he
    · rename_i h; exact absurd he h
    · split at he
      · cases he
      · omega
  have hol := outs_len l ws (ticks bs) xs []
  have hoa : ∀ k (hk : k < xs.length), (outs l ws (ticks bs) [] xs).getD k 0 = outE l ws (ticks bs) (paidL l ws (ticks bs) (xs.take k)) xs[k] := fun k hk => outs_at hk
  obtain ⟨A0, c0, rfl, hxc, hxm, hxcell⟩ := hx.scn
  generalize hos : outs l ws (ticks bs) [] xs = os at hJ hol hoa
  unfold OkM
  refine ok_enter Tryz.func20 rfl Tryz.ntmps20 rfl ?_
  focus (refine gc_seq ?_; refine gc_region ?_; refine gw_boxd (v := .agg _) rfl rfl (fun _ => ?_); apply gw_d; exact det_m rfl rfl (by conv => (lhs; whnf)); apply gw_d; exact det_m rfl rfl (by conv => (lhs; whnf)); refine gw_nil ?_; refine gx_next ?_; refine gc_seq ?_; refine gc_region ?_; apply gw_d; exact w_load_boxN rfl rfl rfl .here rfl; apply gw_d; exact det_m rfl rfl (by conv => (lhs; whnf)); apply gw_d; exact det_m rfl rfl (by conv => (lhs; whnf)); apply gw_d; exact det_m rfl rfl (by conv => (lhs; whnf)))
  refine gw_callm rfl (hJ _) rfl (fun g => ?_)
  focus (apply gw_d; exact det_m rfl rfl (by conv => (lhs; whnf)); apply gw_d; exact det_extract rfl rfl rfl (by conv => (lhs; whnf)); apply gw_d; exact det_extract rfl rfl rfl (by conv => (lhs; whnf)); apply gw_d; exact det_m rfl rfl (by conv => (lhs; whnf)); apply gw_d; exact det_m rfl rfl (by conv => (lhs; whnf)); refine gw_nil ?_; refine gx_next ?_; refine gc_seq ?_; refine gc_seq ?_; refine gc_region ?_; apply gw_d; exact det_m rfl rfl (by conv => (lhs; whnf)); apply gw_d; exact det_cmp rfl rfl rfl rfl rfl; refine gw_nil ?_; refine gx_next ?_)
  refine gc_if_dec rfl (fun h => absurd rfl h) (fun _ => ?_)
  focus (refine gc_skip ?_; refine gx_next ?_; refine gc_seq ?_; refine gc_region ?_; apply gw_d; exact det_m rfl rfl (by conv => (lhs; whnf)); refine gw_nil ?_; refine gx_next ?_; refine gc_seq ?_; refine gc_seq ?_; refine gc_region ?_; apply gw_d; exact det_m rfl rfl (by conv => (lhs; whnf)); apply gw_d; exact w_len rfl rfl rfl; apply gw_d; exact det_m rfl rfl (by conv => (lhs; whnf)); refine gw_nil ?_; refine gx_next ?_; refine gc_block ?_)
  refine gc_own0 51 4 ?_
  refine gc_loop (σ := Nat × Option Addr × Nat) [29, 30, 31, 32, 14, 13, 33, 34, 35, 36, 37, 38, 39, 40, 41, 12, 42, 28] (fun s => [(28, .int .i64 s.1), (12, .slice s.2.1 (paidL l ws (ticks bs) (xs.take s.1)).length s.2.2)]) (fun s => [Own s.2.1 (paidL l ws (ticks bs) (xs.take s.1)).length s.2.2 51 4 ((paidL l ws (ticks bs) (xs.take s.1)).flatMap encX), Box g 3 (os.map (Value.int .i64)).toArray]) (fun s => s.1 ≤ xs.length) (fun s => xs.length - s.1) (0, none, 0) (Nat.zero_le _) ⟨rfl, rfl, trivial⟩ (.cons .here (.cons .here .nil)) ?_
  rintro ⟨k, A, c⟩ base hk
  dsimp only at hk ⊢
  focus (refine gc_seq ?_; refine gc_region ?_; apply gw_d; exact det_cmp rfl rfl rfl rfl rfl; refine gw_nil ?_; refine gx_next ?_; refine gc_seq ?_)
  refine gc_if_dec rfl (fun h => ?_) (fun h => ?_)
  · have hlt : k < xs.length := by omega
    obtain ⟨ad, rfl, hb1, hce, _⟩ := hxcell k hlt
    have hpc : (os.map (Value.int .i64)).toArray[k * 1]? = some (.int .i64 (os.getD k 0)) := row_get (Value.int .i64) 0 (by omega)
    have hsn : paidL l ws (ticks bs) (xs.take (k + 1)) = nextP l ws (ticks bs) (paidL l ws (ticks bs) (xs.take k)) xs[k] := by rw [List.take_succ_eq_append_getElem hlt, paidL_snoc]
    have hpl := paidL_len l ws (ticks bs) (xs.take k)
    rw [List.length_take] at hpl
    rw [hoa k hlt] at hpc
    unfold nextP at hsn
    generalize paidL l ws (ticks bs) (xs.take k) = ps at hpc hsn hpl ⊢
    focus (refine gc_skip ?_; refine gx_next ?_; refine gc_seq ?_; refine gc_block ?_; refine gc_seq ?_; refine gc_region ?_; apply gw_d; exact det_m rfl rfl (by conv => (lhs; whnf)); apply gw_d; exact w_index rfl rfl rfl rfl (by with_reducible exact rfl) (by omega); apply gw_d; exact w_load_elem rfl rfl rfl (by assumption) (by assumption) (by rfl); refine w_alloc rfl (fun _ => ?_); apply gw_d; exact det_m rfl rfl (by conv => (lhs; whnf)); refine w_store_all rfl rfl rfl rfl rfl .here rfl ?_; refine gw_nil ?_; refine gx_next ?_; refine gc_seq ?_; refine gc_region ?_; apply gw_d; exact det_m rfl rfl (by conv => (lhs; whnf)); apply gw_d; exact det_m rfl rfl (by conv => (lhs; whnf)); apply gw_d; exact w_index rfl rfl rfl rfl (by with_reducible exact rfl) (by omega); apply gw_d; exact w_load_row rfl rfl rfl (.there (.there .here)) hpc; apply gw_d; exact det_cmp rfl rfl rfl rfl rfl; refine gw_nil ?_; refine gx_next ?_)
    refine gc_if_dec rfl (fun h2 => ?_) (fun h2 => ?_)
    · rw [if_pos h2] at hsn
      focus (refine gc_region ?_; apply gw_d; exact det_m rfl rfl (by conv => (lhs; whnf)); apply gw_d; exact w_load_boxN rfl rfl rfl .here rfl)
      refine gw_bslice1 (v := .agg #[.int .i64 xs[k].tick, .int .i64 xs[k].op, .int .i64 xs[k].who, .int .i64 xs[k].time]) rfl rfl rfl rfl rfl (fun bb => ?_)
      refine gw_append (news := encX xs[k]) rfl rfl rfl (.there (.there .here)) rfl (fun w' s _ => ?_) (fun u hu => ?_) (by unfold maxLen; omega) (by omega) (by decide) rfl (fun A3 c3 => ?_)
      · refine ⟨⟨bb, 0, none⟩, rfl, fun i u hu => ?_⟩
        rw [add_zero]
        refine (Box.cell s.head i).trans ?_
        change (#[Value.int .i64 xs[k].tick, .int .i64 xs[k].op, .int .i64 xs[k].who, .int .i64 xs[k].time] : Array Value)[i]? = some u
        rw [List.getElem?_toArray]
        exact hu
      · unfold encX at hu
        simp only [List.mem_cons, List.not_mem_nil, or_false] at hu
        rcases hu with rfl | rfl | rfl | rfl <;> rfl
      · focus (apply gw_d; exact det_m rfl rfl (by conv => (lhs; whnf)); refine gw_nil ?_; refine gx_block ?_; refine gx_next ?_; refine gc_region ?_; apply gw_d; exact det_ar rfl rfl rfl rfl rfl (by omega); apply gw_d; exact det_m rfl rfl (by conv => (lhs; whnf)); refine gw_nil ?_)
        refine gx_round (k + 1, A3, c3) hlt (by dsimp only; omega) (by repeat (first | exact Keeps.refl | refine Keeps.upd rfl ?_ | refine Keeps.sets rfl ?_ | refine Keeps.havoc rfl ?_)) ⟨rfl, by rw [hsn, List.length_append]; rfl, trivial⟩ ?_
        dsimp only
        rw [hsn, List.length_append, List.flatMap_append]
        exact .cons .here (.cons (.there (.there .here)) .nil)
    · rw [if_neg h2] at hsn
      focus (refine gc_skip ?_; refine gx_block ?_; refine gx_next ?_; refine gc_region ?_; apply gw_d; exact det_ar rfl rfl rfl rfl rfl (by omega); apply gw_d; exact det_m rfl rfl (by conv => (lhs; whnf)); refine gw_nil ?_)
      refine gx_round (k + 1, A, c) hlt (by dsimp only; omega) (by repeat (first | exact Keeps.refl | refine Keeps.upd rfl ?_ | refine Keeps.sets rfl ?_ | refine Keeps.havoc rfl ?_)) ⟨rfl, by rw [hsn]; rfl, trivial⟩ ?_
      dsimp only
      rw [hsn]
      exact .cons (.there .here) (.cons (.there .here) .nil)
  · obtain rfl : k = xs.length := by omega
    rw [List.take_length]
    focus (refine gc_exit ?_; refine gx_then_exit ?_; refine gx_then_exit ?_; refine gx_block_exit ?_; refine gx_next ?_; refine gc_seq ?_; refine gc_region ?_; apply gw_d; exact det_m rfl rfl (by conv => (lhs; whnf)); apply gw_d; exact det_m rfl rfl (by conv => (lhs; whnf)); apply gw_d; exact det_m rfl rfl (by conv => (lhs; whnf)); refine gw_nil ?_; refine gx_next ?_; refine gc_ret ?_)
    exact gx_ret2 (u := .slice _ _ _) (v := .int _ _) rfl rfl rfl (fun w' s => ⟨(A, c), rfl, (St.sub (K := [Own A (paidL l ws (ticks bs) xs).length c 51 4 ((paidL l ws (ticks bs) xs).flatMap encX)]) (.cons .here .nil) s).sep⟩)
end
end Go.Proofs.YtljibjlkjelpbaaGreatDoor

/- Cases: how they lie; what a good case is. -/
namespace Go.Proofs.YtljibjlkjelpbaaGreatDoor
open Go.RowKit
set_option maxRecDepth 100000
set_option maxHeartbeats 4000000

structure Cse where
  (sty : Sty) (bs : List Bun) (ws : List Wrk) (xs : List Scn)
def CaseV (w : World) (v : Value) (c : Cse) : Prop :=
  ∃ v0 v1 v2 v3 v4 v5 v6 vb vw vx, v = .agg #[v0, v1, v2, v3, v4, v5, v6, vb, vw, vx] ∧ StyV w w.heap.size (.agg #[v0, v1, v2, v3, v4, v5, v6]) c.sty ∧ Sl rBun w w.heap.size vb c.bs ∧ Sl rWrk w w.heap.size vw c.ws ∧ Sl rScn w w.heap.size vx c.xs
theorem CaseV.later {w0 w : World} {L : List Res} {v : Value} {c : Cse} (s : St w0 L w) (h : CaseV w0 v c) : CaseV w v c := by
  obtain ⟨v0, v1, v2, v3, v4, v5, v6, vb, vw, vx, rfl, h1, h2, h3, h4⟩ := h
  exact ⟨v0, v1, v2, v3, v4, v5, v6, vb, vw, vx, rfl, StyV.later s h1, h2.later s, h3.later s, h4.later s⟩

def rU8 : Rp Int where
  size := 1
  rep _ _ i cs := cs = [.int .u8 i] ∧ (0 ≤ i ∧ i ≤ 255)
  len h := by rw [h.1]; rfl
  mono _ h := h
  grow _ h := h
theorem Sl.u8 {w : World} {B : Nat} {v : Value} {l : List Int} (h : Sl rU8 w B v l) : ∃ A c, v = .slice A l.length c ∧ l.length ≤ c ∧ l.length ≤ 9223372036854775807 ∧
    ∀ k (hk : k < l.length), ∃ ad, A = some ad ∧ ad.block < B ∧ w.cell? (ad.add (k * 1)) = some (.int .u8 l[k]) ∧ (0 ≤ l[k] ∧ l[k] ≤ 255) := by
  obtain ⟨A, c, hv, h1, h2, h3⟩ := h
  refine ⟨A, c, hv, h1, by unfold maxLen at h2; omega, fun k hk => ?_⟩
  obtain ⟨ad, cs, ha, hlt, hc, rfl, hr⟩ := h3 k hk
  exact ⟨ad, ha, hlt, hc 0 _ rfl, hr⟩

theorem paid_rep {w0 w : World} {B : Nat} {v : Value} {xs : List Scn} {S : Nat → Prop} (hx : Sl rScn w0 B v xs) {q : Scn} (hq : q ∈ xs) : rScn.rep w S q (encX q) := by
  obtain ⟨k, hk, rfl⟩ := List.getElem_of_mem hq
  obtain ⟨A, c, _, _, _, hcell⟩ := hx.scn
  obtain ⟨_, _, _, _, h⟩ := hcell k hk
  exact ⟨rfl, h⟩
theorem pay_rep {w : World} {S : Nat → Prop} {le : Int} {n : Nat} {q : Pay} (hle : 0 ≤ le ∧ le ≤ 1073741824) (h : (0 ≤ q.who ∧ q.who < n) ∧ (0 ≤ q.work ∧ q.work ≤ 300000000000) ∧ q.top = max (le - q.work) 0) (hn : n ≤ 12 := by assumption) : rPay.rep w S q (encP q) := by
  refine ⟨rfl, ?_, ?_, ?_⟩ <;> unfold inI64 <;> omega

/-! ### What no error means -/
theorem list_small {l : List Opn} {n : Int} (h : listE l n = 0) : Small l ∧ ∀ k (hk : k < l.length), 0 ≤ l[k].minutes ∧ l[k].minutes ≤ 10000 := by
  obtain ⟨h1, h2, _⟩ := list_parts h
  have hp : ∀ k (hk : k < l.length), _ := fun k hk => op_parts (l := l) (n := n) (List.getElem?_eq_getElem hk) (firstE_at h2 k hk)
  refine ⟨⟨by omega, fun k hk a ha => ?_⟩, fun k hk => ?_⟩
  · obtain ⟨_, _, _, c4, _⟩ := hp k hk
    have h3 : areIx l[k].after l.length = true := by
      cases hx : areIx l[k].after l.length with
      | true => rfl
      | false => exact absurd (.inl hx) c4
    exact areIx_at h3 a ha
  · obtain ⟨_, _, c3, _⟩ := hp k hk
    omega
theorem judge_zero {e : Int} {bs : List Bun} {ws : List Wrk} {n : Nat} (h : judgeAllE e bs ws n = 0) : ScanOk e bs ws ∧ n ≤ 300 := by
  unfold judgeAllE at h
  split at h
  · rename_i h1; exact absurd h h1
  · rename_i h1
    split at h
    · cases h
    · exact ⟨scan_good (Classical.not_not.1 h1), by omega⟩
theorem judge_fewer {e : Int} {bs : List Bun} {ws : List Wrk} {n m : Nat} (h : judgeAllE e bs ws n = 0) (hm : m ≤ 300) : judgeAllE e bs ws m = 0 := by
  unfold judgeAllE at h ⊢
  split at h
  · rename_i h1; exact absurd h h1
  · rename_i h1
    rw [if_neg h1, if_neg (by omega)]
theorem pays_zero {r le e : Int} {bs : List Bun} {ws : List Wrk} {n : Nat} (h : paysE r le e bs ws n = 0) : tarE r le = 0 ∧ judgeAllE e bs ws n = 0 := by
  unfold paysE at h
  split at h
  · rename_i h1; exact absurd h h1
  · rename_i h1; exact ⟨Classical.not_not.1 h1, h⟩
theorem pays_mk {r le e : Int} {bs : List Bun} {ws : List Wrk} {n : Nat} (h1 : tarE r le = 0) (h2 : judgeAllE e bs ws n = 0) : paysE r le e bs ws n = 0 := by
  unfold paysE
  rw [if_neg (by rw [h1]; decide)]
  exact h2
theorem skill_len {ws : List Wrk} (h : skillE ws = 0) : ws.length ≤ 12 := by
  unfold skillE at h
  split at h
  · cases h
  · omega
theorem scan_ops {s : Sty} {bs : List Bun} {ws : List Wrk} (h : ScanOk (opCheckE s plE) bs ws) : Small s.ops ∧ ∀ k (hk : k < s.ops.length), 0 ≤ s.ops[k].minutes ∧ s.ops[k].minutes ≤ 10000 := list_small (check_parts h.op).2.1
theorem sty_ops {w : World} {v0 v1 v2 v3 v4 v5 v6 : Value} {s : Sty} (h : StyV w w.heap.size (.agg #[v0, v1, v2, v3, v4, v5, v6]) s) : Sl rOp w w.heap.size v6 s.ops := by
  obtain ⟨As, cs, Am, cm, Ap, cp, Au, cu, Ae, ce, Ao, co, he, _, _, _, _, _, _, h6⟩ := h
  injection he with he
  have : (#[v0, v1, v2, v3, v4, v5, v6] : Array Value)[6]? = some v6 := rfl
  rw [he] at this
  injection this with this
  rw [← this]
  exact h6
theorem case_check {w : World} {v : Value} {s : Sty} (h : StyV w w.heap.size v s) : ∀ (L : List Res) (w' : World), St w L w' → Ok Tryz.prog 53 [v].toArray w' fun x _ => x = .int .i64 (opCheckE s plE) := fun _ w' s' => opCheck_ok w' v s (StyV.later s' h)

section
variable {w : World} {v0 v1 v2 v3 v4 v5 v6 vb vw vx : Value} {r le : Int} {s : Sty} {bs : List Bun} {ws : List Wrk} {xs : List Scn}
theorem cPays_bad (hL : Lay w) (hs : StyV w w.heap.size (.agg #[v0, v1, v2, v3, v4, v5, v6]) s) (hb : Sl rBun w w.heap.size vb bs) (hw : Sl rWrk w w.heap.size vw ws) (hx : Sl rScn w w.heap.size vx xs) (he : ¬ paysE r le (opCheckE s plE) bs ws xs.length = 0) :
    Ok Tryz.prog 17 [.agg #[v0, v1, v2, v3, v4, v5, v6], vb, vw, vx, .agg #[.int .i64 r, .int .i64 le]].toArray w fun x _ => x = .tuple #[.slice none 0 0, .int .i64 (paysE r le (opCheckE s plE) bs ws xs.length)] := Pays_bad (case_check hs) hL hb hw hx he
theorem cPays_ok (hL : Lay w) (hs : StyV w w.heap.size (.agg #[v0, v1, v2, v3, v4, v5, v6]) s) (hb : Sl rBun w w.heap.size vb bs) (hw : Sl rWrk w w.heap.size vw ws) (hx : Sl rScn w w.heap.size vx xs) (he : paysE r le (opCheckE s plE) bs ws xs.length = 0) :
    OkM Tryz.prog 17 [.agg #[v0, v1, v2, v3, v4, v5, v6], vb, vw, vx, .agg #[.int .i64 r, .int .i64 le]].toArray w (fun x : Option Addr × Nat => .tuple #[.slice x.1 (paysL r le s.ops bs ws xs).length x.2, .int .i64 0]) (fun x => [Own x.1 (paysL r le s.ops bs ws xs).length x.2 44 3 ((paysL r le s.ops bs ws xs).flatMap encP)]) := by
  have h1 := scan_ops (judge_zero (pays_zero he).2).1
  exact Pays_ok (case_check hs) hL (sty_ops hs) hb hw hx h1.1 h1.2 he
theorem cPaid_bad (hs : StyV w w.heap.size (.agg #[v0, v1, v2, v3, v4, v5, v6]) s) (hb : Sl rBun w w.heap.size vb bs) (hw : Sl rWrk w w.heap.size vw ws) (hx : Sl rScn w w.heap.size vx xs) (he : ¬ judgeAllE (opCheckE s plE) bs ws xs.length = 0) :
    Ok Tryz.prog 20 [.agg #[v0, v1, v2, v3, v4, v5, v6], vb, vw, vx].toArray w fun x _ => x = .tuple #[.slice none 0 0, .int .i64 (judgeAllE (opCheckE s plE) bs ws xs.length)] := Paid_bad (case_check hs) hb hw hx he
theorem cPaid_ok (hs : StyV w w.heap.size (.agg #[v0, v1, v2, v3, v4, v5, v6]) s) (hb : Sl rBun w w.heap.size vb bs) (hw : Sl rWrk w w.heap.size vw ws) (hx : Sl rScn w w.heap.size vx xs) (he : judgeAllE (opCheckE s plE) bs ws xs.length = 0) :
    OkM Tryz.prog 20 [.agg #[v0, v1, v2, v3, v4, v5, v6], vb, vw, vx].toArray w (fun x : Option Addr × Nat => .tuple #[.slice x.1 (paidL s.ops ws (ticks bs) xs).length x.2, .int .i64 0]) (fun x => [Own x.1 (paidL s.ops ws (ticks bs) xs).length x.2 51 4 ((paidL s.ops ws (ticks bs) xs).flatMap encX)]) :=
  Paid_ok (case_check hs) (sty_ops hs) hb hw hx (scan_ops (judge_zero he).1).1 he
end
end Go.Proofs.YtljibjlkjelpbaaGreatDoor

/- Arguments of the laws: operations, as they came in. -/
namespace Go.Proofs.YtljibjlkjelpbaaGreatDoor
open Go.ChangeShapes Go.WideShapes Go.ChangeAt Go.RowKit
section
variable {H : Type} {enc : TypeId × Value → H} {w : World} {base : Nat} {spare : Nat → Bool} {held : Bool}
theorem ints23 {n : Nat} {c : Value} {x : DataW H × List MemPlace} (h : DataW.trod enc Tryz.prog w base spare held n 23 [c] = some x) : ∃ l, Sl rInt w w.heap.size c l :=
  ints_trod (e := 3) (by kernel_rfl) (by kernel_rfl) (by kernel_rfl) h
theorem op_trod {n : Nat} {cs : List Value} {x : DataW H × List MemPlace} (hl : cs.length = 5) (h : DataW.trod enc Tryz.prog w base spare held n 89 cs = some x) : ∃ o, rOp.rep w (fun b => b < w.heap.size) o cs := by
  match cs, hl with
  | [c0, c1, c2, c3, c4], _ =>
    obtain ⟨_, _, h0⟩ := field_trod (i := 0) (ft := 9) h (by kernel_rfl) rfl
    obtain ⟨_, _, h1⟩ := field_trod (i := 1) (ft := 3) h (by kernel_rfl) rfl
    obtain ⟨_, _, h2⟩ := field_trod (i := 2) (ft := 3) h (by kernel_rfl) rfl
    obtain ⟨_, _, h3⟩ := field_trod (i := 3) (ft := 23) h (by kernel_rfl) rfl
    obtain ⟨_, _, h4⟩ := field_trod (i := 4) (ft := 23) h (by kernel_rfl) rfl
    obtain ⟨s, rfl, hs⟩ := str_trod (by kernel_rfl) h0
    obtain ⟨i1, rfl, hi1⟩ := int_trod (by kernel_rfl) h1
    obtain ⟨i2, rfl, hi2⟩ := int_trod (by kernel_rfl) h2
    obtain ⟨la, ha⟩ := ints23 h3
    obtain ⟨lu, hu⟩ := ints23 h4
    obtain ⟨Aa, ca, rfl, _⟩ := len_small ha
    obtain ⟨Au, cu, rfl, _⟩ := len_small hu
    exact ⟨⟨s, i1, i2, la, lu⟩, Aa, ca, Au, cu, rfl, ⟨hs, hi1, hi2⟩, ha, hu⟩
theorem ops_trod {n : Nat} {c : Value} {x : DataW H × List MemPlace} (h : DataW.trod enc Tryz.prog w base spare held n 27 [c] = some x) : ∃ l, Sl rOp w w.heap.size c l :=
  sl_of_trod (R := rOp) (e := 89) (by kernel_rfl) (by kernel_rfl) (by decide) (fun _ _ _ hl hy => op_trod hl hy) h
theorem ops_Trod {v : Value} {d : DataW H} {p : List MemPlace} {A : Option Addr} {n c : Nat} (hv : v = .slice A n c) (h : DataW.Trod enc Tryz.prog w base spare held 27 v d p) : ∃ l, Sl rOp w w.heap.size v l := by
  subst hv
  obtain ⟨fuel, hf⟩ := h
  exact ops_trod hf
end
end Go.Proofs.YtljibjlkjelpbaaGreatDoor

/- Arguments of the laws of chapter 57: tariffs, pays, as they came in; what the package-level variable holds. -/
namespace Go.Proofs.YtljibjlkjelpbaaGreatDoor
open Go.ChangeShapes Go.WideShapes Go.ChangeAt Go.RowKit
section
variable {H : Type} {enc : TypeId × Value → H} {w : World} {base : Nat} {spare : Nat → Bool} {held : Bool}
theorem tariff_trod {n : Nat} {cs : List Value} {x : DataW H × List MemPlace} (hl : cs.length = 2) (h : DataW.trod enc Tryz.prog w base spare held n 36 cs = some x) : ∃ r l, cs = [.int .i64 r, .int .i64 l] ∧ inI64 r ∧ inI64 l := by
  match cs, hl with
  | [c0, c1], _ =>
    obtain ⟨_, _, h0⟩ := field_trod (i := 0) (ft := 3) h (by kernel_rfl) rfl
    obtain ⟨_, _, h1⟩ := field_trod (i := 1) (ft := 3) h (by kernel_rfl) rfl
    obtain ⟨i0, rfl, hi0⟩ := int_trod (by kernel_rfl) h0
    obtain ⟨i1, rfl, hi1⟩ := int_trod (by kernel_rfl) h1
    exact ⟨i0, i1, rfl, hi0, hi1⟩
theorem pay_trod {n : Nat} {cs : List Value} {x : DataW H × List MemPlace} (hl : cs.length = 3) (h : DataW.trod enc Tryz.prog w base spare held n 44 cs = some x) : ∃ o, rPay.rep w (fun b => b < w.heap.size) o cs := by
  match cs, hl with
  | [c0, c1, c2], _ =>
    obtain ⟨_, _, h0⟩ := field_trod (i := 0) (ft := 3) h (by kernel_rfl) rfl
    obtain ⟨_, _, h1⟩ := field_trod (i := 1) (ft := 3) h (by kernel_rfl) rfl
    obtain ⟨_, _, h2⟩ := field_trod (i := 2) (ft := 3) h (by kernel_rfl) rfl
    obtain ⟨i0, rfl, hi0⟩ := int_trod (by kernel_rfl) h0
    obtain ⟨i1, rfl, hi1⟩ := int_trod (by kernel_rfl) h1
    obtain ⟨i2, rfl, hi2⟩ := int_trod (by kernel_rfl) h2
    exact ⟨⟨i0, i1, i2⟩, rfl, hi0, hi1, hi2⟩
theorem pays_Trod {v : Value} {d : DataW H} {p : List MemPlace} {A : Option Addr} {n c : Nat} (hv : v = .slice A n c) (h : DataW.Trod enc Tryz.prog w base spare held 39 v d p) : ∃ l, Sl rPay w w.heap.size v l := by
  subst hv
  obtain ⟨fuel, hf⟩ := h
  exact sl_of_trod (R := rPay) (e := 44) (by kernel_rfl) (by kernel_rfl) (by decide) (fun _ _ _ hl hy => pay_trod hl hy) hf
theorem tariff_Trod {v : Value} {d : DataW H} {p : List MemPlace} {cs : Array Value} (hv : v = .agg cs) (hn : cs.size = 2) (h : DataW.Trod enc Tryz.prog w base spare held 36 v d p) : ∃ r l, v = .agg #[.int .i64 r, .int .i64 l] ∧ inI64 r ∧ inI64 l := by
  subst hv
  obtain ⟨fuel, hf⟩ := h
  obtain ⟨r, l, h1, h2⟩ := tariff_trod (cs := cs.toList) (by simpa using hn) hf
  refine ⟨r, l, ?_, h2⟩
  congr 1
  apply Array.ext'
  exact h1
end
theorem gTab : Tryz.prog.globalNamed "garment/wage.bounds" = some 0 := by kernel_rfl
theorem gTabType : (Tryz.prog.globals[0]?).map (·.type) = some 110 := by kernel_rfl
theorem cellsTab : Tryz.prog.cellsOf 110 = 2 := by kernel_rfl
theorem cellsInt : Tryz.prog.cellsOf 3 = 1 := by kernel_rfl
/-- What the row's list gives. -/
theorem lay_of {W : World} (h : laidMetH Tryz.prog [("garment/wage.bounds", .agg [.lit (.int .i64 100000), .lit (.int .i64 1073741824)])] W) : Lay W := by
  have ht : Lib.TabIs Tryz.prog W "garment/wage.bounds" .i64 [100000, 1073741824] := Lib.tabIs_of_head (rest := []) gTab gTabType (by kernel_rfl) (by kernel_rfl) cellsInt cellsTab h
  have c0 : W.cell? ⟨0, 0, none⟩ = some (.int .i64 100000) := ht.cell gTab 0 (by decide)
  have c1 : W.cell? ⟨0, 1, none⟩ = some (.int .i64 1073741824) := ht.cell gTab 1 (by decide)
  exact ⟨cell_lt c0, c0, c1⟩
end Go.Proofs.YtljibjlkjelpbaaGreatDoor

/- Arguments of the laws: styles, as they came in. -/
namespace Go.Proofs.YtljibjlkjelpbaaGreatDoor
open Go.ChangeShapes Go.WideShapes Go.ChangeAt Go.RowKit
section
variable {H : Type} {enc : TypeId × Value → H} {P : Program} {w : World} {base : Nat} {spare : Nat → Bool} {held : Bool}
/-- The type of a field of k cells, at its place. -/
def fieldK (P : Program) (e : TypeId) (i o k : Nat) : Option TypeId := match P.underlying e with
  | some (.struct fs) => match fs[i]? with
    | some f => bif Nat.beq f.offset o && Nat.beq (P.cellsOf f.type) k then some f.type else none
    | none => none
  | _ => none
theorem fieldK_trod {e ft : TypeId} {i o k n : Nat} {cs ds : List Value} {x : DataW H × List MemPlace} (h : DataW.trod enc P w base spare held n e cs = some x) (hf : fieldK P e i o k = some ft) (hc : (cs.drop o).take k = ds) :
    ∃ m y, DataW.trod enc P w base spare held m ft ds = some y := by
  unfold fieldK at hf
  split at hf
  · rename_i fs hu
    split at hf
    · rename_i f hfi
      cases hb : (Nat.beq f.offset o && Nat.beq (P.cellsOf f.type) k) with
      | false => rw [hb] at hf; cases hf
      | true =>
        rw [hb] at hf
        simp only [cond_true, Option.some.injEq] at hf
        subst hf
        rw [Bool.and_eq_true] at hb
        have h1 : f.offset = o := Nat.eq_of_beq_eq_true hb.1
        have h2 : P.cellsOf f.type = k := Nat.eq_of_beq_eq_true hb.2
        obtain ⟨xs, m, _, _, _, hlen, hg⟩ := DataW.trod_struct hu h
        have h3 := hg i f hfi
        have hi : i < fs.size := (Array.getElem?_eq_some_iff.1 hfi).1
        rw [h1, h2, List.getElem?_eq_getElem (by omega), hc] at h3
        exact ⟨m, _, h3⟩
    · cases hf
  · cases hf
end
section
variable {H : Type} {enc : TypeId × Value → H} {w : World} {base : Nat} {spare : Nat → Bool} {held : Bool}
theorem strs_trod {n : Nat} {c : Value} {x : DataW H × List MemPlace} (h : DataW.trod enc Tryz.prog w base spare held n 22 [c] = some x) : ∃ l, Sl rStr w w.heap.size c l :=
  sl_of_trod (R := rStr) (e := 9) (by kernel_rfl) (by kernel_rfl) (by decide) (fun _ cs _ hl hy => by
    match cs, hl with
    | [c0], _ =>
      obtain ⟨s, rfl, hs⟩ := str_trod (by kernel_rfl) hy
      exact ⟨s, rfl, hs⟩) h
theorem spots_trod {n : Nat} {c : Value} {x : DataW H × List MemPlace} (h : DataW.trod enc Tryz.prog w base spare held n 113 [c] = some x) : ∃ l, Sl rSpot w w.heap.size c l :=
  sl_of_trod (R := rSpot) (e := 121) (by kernel_rfl) (by kernel_rfl) (by decide) (fun _ cs _ hl hy => by
    match cs, hl with
    | [c0, c1], _ =>
      obtain ⟨_, _, h0⟩ := field_trod (i := 0) (ft := 3) hy (by kernel_rfl) rfl
      obtain ⟨_, _, h1⟩ := field_trod (i := 1) (ft := 3) hy (by kernel_rfl) rfl
      obtain ⟨i0, rfl, hi0⟩ := int_trod (by kernel_rfl) h0
      obtain ⟨i1, rfl, hi1⟩ := int_trod (by kernel_rfl) h1
      exact ⟨(i0, i1), rfl, hi0, hi1⟩) h
theorem notches_trod {n : Nat} {c : Value} {x : DataW H × List MemPlace} (h : DataW.trod enc Tryz.prog w base spare held n 112 [c] = some x) : ∃ l, Sl rSpot w w.heap.size c l :=
  sl_of_trod (R := rSpot) (e := 196) (by kernel_rfl) (by kernel_rfl) (by decide) (fun _ cs _ hl hy => by
    match cs, hl with
    | [c0, c1], _ =>
      obtain ⟨_, _, h0⟩ := field_trod (i := 0) (ft := 3) hy (by kernel_rfl) rfl
      obtain ⟨_, _, h1⟩ := field_trod (i := 1) (ft := 3) hy (by kernel_rfl) rfl
      obtain ⟨i0, rfl, hi0⟩ := int_trod (by kernel_rfl) h0
      obtain ⟨i1, rfl, hi1⟩ := int_trod (by kernel_rfl) h1
      exact ⟨(i0, i1), rfl, hi0, hi1⟩) h
theorem edges_trod {n : Nat} {c : Value} {x : DataW H × List MemPlace} (h : DataW.trod enc Tryz.prog w base spare held n 111 [c] = some x) : ∃ l, Sl rEdge w w.heap.size c l :=
  sl_of_trod (R := rEdge) (e := 117) (by kernel_rfl) (by kernel_rfl) (by decide) (fun _ cs _ hl hy => by
    match cs, hl with
    | [c0, c1], _ =>
      obtain ⟨_, _, h0⟩ := field_trod (i := 0) (ft := 9) hy (by kernel_rfl) rfl
      obtain ⟨_, _, h1⟩ := field_trod (i := 1) (ft := 113) hy (by kernel_rfl) rfl
      obtain ⟨s, rfl, hs⟩ := str_trod (by kernel_rfl) h0
      obtain ⟨l, hl⟩ := spots_trod h1
      exact ⟨(s, l), c1, rfl, hs, hl⟩) h
theorem piece_trod {n : Nat} {cs : List Value} {x : DataW H × List MemPlace} (hl : cs.length = 7) (h : DataW.trod enc Tryz.prog w base spare held n 115 cs = some x) : ∃ o, rPiece.rep w (fun b => b < w.heap.size) o cs := by
  match cs, hl with
  | [c0, c1, c2, c3, c4, c5, c6], _ =>
    obtain ⟨_, _, h0⟩ := field_trod (i := 0) (ft := 9) h (by kernel_rfl) rfl
    obtain ⟨_, _, h1⟩ := field_trod (i := 1) (ft := 111) h (by kernel_rfl) rfl
    obtain ⟨_, _, h2⟩ := field_trod (i := 2) (ft := 3) h (by kernel_rfl) rfl
    obtain ⟨_, _, h3⟩ := field_trod (i := 3) (ft := 112) h (by kernel_rfl) rfl
    obtain ⟨_, _, h4⟩ := field_trod (i := 4) (ft := 113) h (by kernel_rfl) rfl
    obtain ⟨_, _, h5⟩ := field_trod (i := 5) (ft := 23) h (by kernel_rfl) rfl
    obtain ⟨_, _, h6⟩ := field_trod (i := 6) (ft := 4) h (by kernel_rfl) rfl
    obtain ⟨s, rfl, hs⟩ := str_trod (by kernel_rfl) h0
    obtain ⟨le, he⟩ := edges_trod h1
    obtain ⟨i2, rfl, hi2⟩ := int_trod (by kernel_rfl) h2
    obtain ⟨ln, hn⟩ := notches_trod h3
    obtain ⟨lc, hc⟩ := spots_trod h4
    obtain ⟨lw, hw⟩ := ints23 h5
    obtain ⟨b6, rfl⟩ := bool_trod (by kernel_rfl) h6
    obtain ⟨Ae, ce, rfl, _⟩ := len_small he
    obtain ⟨An, cn, rfl, _⟩ := len_small hn
    obtain ⟨Ac, cc, rfl, _⟩ := len_small hc
    obtain ⟨Aw, cw, rfl, _⟩ := len_small hw
    exact ⟨⟨s, le, i2, ln, lc, lw, b6⟩, Ae, ce, An, cn, Ac, cc, Aw, cw, rfl, ⟨hs, hi2⟩, he, hn, hc, hw⟩
theorem use_trod {n : Nat} {cs : List Value} {x : DataW H × List MemPlace} (hl : cs.length = 3) (h : DataW.trod enc Tryz.prog w base spare held n 119 cs = some x) : ∃ o, rUse.rep w (fun b => b < w.heap.size) o cs := by
  match cs, hl with
  | [c0, c1, c2], _ =>
    obtain ⟨_, _, h0⟩ := field_trod (i := 0) (ft := 3) h (by kernel_rfl) rfl
    obtain ⟨_, _, h1⟩ := field_trod (i := 1) (ft := 3) h (by kernel_rfl) rfl
    obtain ⟨_, _, h2⟩ := field_trod (i := 2) (ft := 4) h (by kernel_rfl) rfl
    obtain ⟨i0, rfl, hi0⟩ := int_trod (by kernel_rfl) h0
    obtain ⟨i1, rfl, hi1⟩ := int_trod (by kernel_rfl) h1
    obtain ⟨b2, rfl⟩ := bool_trod (by kernel_rfl) h2
    exact ⟨(i0, i1, b2), rfl, hi0, hi1⟩
theorem seam_trod {n : Nat} {cs : List Value} {x : DataW H × List MemPlace} (hl : cs.length = 6) (h : DataW.trod enc Tryz.prog w base spare held n 154 cs = some x) : ∃ o, rSeam.rep w (fun b => b < w.heap.size) o cs := by
  match cs, hl with
  | [c0, c1, c2, c3, c4, c5], _ =>
    obtain ⟨_, _, h0⟩ := field_trod (i := 0) (ft := 3) h (by kernel_rfl) rfl
    obtain ⟨_, _, h1⟩ := field_trod (i := 1) (ft := 3) h (by kernel_rfl) rfl
    obtain ⟨_, _, h2⟩ := field_trod (i := 2) (ft := 3) h (by kernel_rfl) rfl
    obtain ⟨_, _, h3⟩ := field_trod (i := 3) (ft := 3) h (by kernel_rfl) rfl
    obtain ⟨_, _, h4⟩ := field_trod (i := 4) (ft := 4) h (by kernel_rfl) rfl
    obtain ⟨_, _, h5⟩ := field_trod (i := 5) (ft := 3) h (by kernel_rfl) rfl
    obtain ⟨i0, rfl, hi0⟩ := int_trod (by kernel_rfl) h0
    obtain ⟨i1, rfl, hi1⟩ := int_trod (by kernel_rfl) h1
    obtain ⟨i2, rfl, hi2⟩ := int_trod (by kernel_rfl) h2
    obtain ⟨i3, rfl, hi3⟩ := int_trod (by kernel_rfl) h3
    obtain ⟨b4, rfl⟩ := bool_trod (by kernel_rfl) h4
    obtain ⟨i5, rfl, hi5⟩ := int_trod (by kernel_rfl) h5
    exact ⟨(i0, i1, i2, i3, b4, i5), rfl⟩
theorem sty_trod {n : Nat} {cs : List Value} {x : DataW H × List MemPlace} (hl : cs.length = 7) (h : DataW.trod enc Tryz.prog w base spare held n 29 cs = some x) : ∃ s, StyV w w.heap.size (.agg cs.toArray) s := by
  match cs, hl with
  | [c0, c1, c2, c3, c4, c5, c6], _ =>
    obtain ⟨_, _, h0⟩ := field_trod (i := 0) (ft := 9) h (by kernel_rfl) rfl
    obtain ⟨_, _, h1⟩ := field_trod (i := 1) (ft := 22) h (by kernel_rfl) rfl
    obtain ⟨_, _, h2⟩ := field_trod (i := 2) (ft := 23) h (by kernel_rfl) rfl
    obtain ⟨_, _, h3⟩ := field_trod (i := 3) (ft := 24) h (by kernel_rfl) rfl
    obtain ⟨_, _, h4⟩ := field_trod (i := 4) (ft := 25) h (by kernel_rfl) rfl
    obtain ⟨_, _, h5⟩ := field_trod (i := 5) (ft := 26) h (by kernel_rfl) rfl
    obtain ⟨_, _, h6⟩ := field_trod (i := 6) (ft := 27) h (by kernel_rfl) rfl
    obtain ⟨s, rfl, hs⟩ := str_trod (by kernel_rfl) h0
    obtain ⟨l1, k1⟩ := strs_trod h1
    obtain ⟨l2, k2⟩ := ints23 h2
    obtain ⟨l3, k3⟩ := sl_of_trod (R := rPiece) (e := 115) (by kernel_rfl) (by kernel_rfl) (by decide) (fun _ _ _ hl hy => piece_trod hl hy) h3
    obtain ⟨l4, k4⟩ := sl_of_trod (R := rUse) (e := 119) (by kernel_rfl) (by kernel_rfl) (by decide) (fun _ _ _ hl hy => use_trod hl hy) h4
    obtain ⟨l5, k5⟩ := sl_of_trod (R := rSeam) (e := 154) (by kernel_rfl) (by kernel_rfl) (by decide) (fun _ _ _ hl hy => seam_trod hl hy) h5
    obtain ⟨l6, k6⟩ := ops_trod h6
    obtain ⟨A1, d1, rfl, _⟩ := len_small k1
    obtain ⟨A2, d2, rfl, _⟩ := len_small k2
    obtain ⟨A3, d3, rfl, _⟩ := len_small k3
    obtain ⟨A4, d4, rfl, _⟩ := len_small k4
    obtain ⟨A5, d5, rfl, _⟩ := len_small k5
    obtain ⟨A6, d6, rfl, _⟩ := len_small k6
    exact ⟨⟨s, l1, l2, l3, l4, l5, l6⟩, A1, d1, A2, d2, A3, d3, A4, d4, A5, d5, A6, d6, rfl, hs, k1, k2, k3, k4, k5, k6⟩
theorem sty_Trod {v : Value} {d : DataW H} {p : List MemPlace} {cs : Array Value} (hv : v = .agg cs) (hn : cs.size = 7) (h : DataW.Trod enc Tryz.prog w base spare held 29 v d p) : ∃ s, StyV w w.heap.size v s := by
  subst hv
  obtain ⟨fuel, hf⟩ := h
  exact sty_trod (cs := cs.toList) (by simpa using hn) hf
end
end Go.Proofs.YtljibjlkjelpbaaGreatDoor

/- Arguments of the laws of chapter 57: cases, lists of bytes, as they came in. -/
namespace Go.Proofs.YtljibjlkjelpbaaGreatDoor
open Go.ChangeShapes Go.WideShapes Go.ChangeAt Go.RowKit
section
variable {H : Type} {enc : TypeId × Value → H} {w : World} {base : Nat} {spare : Nat → Bool} {held : Bool}
theorem u8_trod {P : Program} {t : TypeId} {n : Nat} {c : Value} {x : DataW H × List MemPlace} (ht : P.underlying t = some (.int .u8)) (h : DataW.trod enc P w base spare held n t [c] = some x) : ∃ i, c = .int .u8 i ∧ (0 ≤ i ∧ i ≤ 255) := by
  obtain ⟨i, hc, _, hw⟩ := DataW.trod_int ht h
  injection hc with hc
  refine ⟨i, hc, ?_⟩
  unfold Lit.wf at hw
  simp only [Bool.and_eq_true, decide_eq_true_eq] at hw
  exact hw
theorem bun_trod {n : Nat} {cs : List Value} {x : DataW H × List MemPlace} (hl : cs.length = 6) (h : DataW.trod enc Tryz.prog w base spare held n 49 cs = some x) : ∃ o, rBun.rep w (fun b => b < w.heap.size) o cs := by
  match cs, hl with
  | [c0, c1, c2, c3, c4, c5], _ =>
    obtain ⟨_, _, h0⟩ := field_trod (i := 0) (ft := 3) h (by kernel_rfl) rfl
    obtain ⟨_, _, h1⟩ := field_trod (i := 1) (ft := 3) h (by kernel_rfl) rfl
    obtain ⟨_, _, h2⟩ := field_trod (i := 2) (ft := 3) h (by kernel_rfl) rfl
    obtain ⟨_, _, h3⟩ := field_trod (i := 3) (ft := 3) h (by kernel_rfl) rfl
    obtain ⟨_, _, h4⟩ := field_trod (i := 4) (ft := 3) h (by kernel_rfl) rfl
    obtain ⟨_, _, h5⟩ := field_trod (i := 5) (ft := 3) h (by kernel_rfl) rfl
    obtain ⟨i0, rfl, hi0⟩ := int_trod (by kernel_rfl) h0
    obtain ⟨i1, rfl, hi1⟩ := int_trod (by kernel_rfl) h1
    obtain ⟨i2, rfl, hi2⟩ := int_trod (by kernel_rfl) h2
    obtain ⟨i3, rfl, hi3⟩ := int_trod (by kernel_rfl) h3
    obtain ⟨i4, rfl, hi4⟩ := int_trod (by kernel_rfl) h4
    obtain ⟨i5, rfl, hi5⟩ := int_trod (by kernel_rfl) h5
    exact ⟨⟨i0, i1, i2, i3, i4, i5⟩, rfl, hi0, hi4, hi5⟩
theorem wrk_trod {n : Nat} {cs : List Value} {x : DataW H × List MemPlace} (hl : cs.length = 2) (h : DataW.trod enc Tryz.prog w base spare held n 87 cs = some x) : ∃ o, rWrk.rep w (fun b => b < w.heap.size) o cs := by
  match cs, hl with
  | [c0, c1], _ =>
    obtain ⟨_, _, h0⟩ := field_trod (i := 0) (ft := 9) h (by kernel_rfl) rfl
    obtain ⟨_, _, h1⟩ := field_trod (i := 1) (ft := 23) h (by kernel_rfl) rfl
    obtain ⟨s, rfl, hs⟩ := str_trod (by kernel_rfl) h0
    obtain ⟨l1, k1⟩ := ints23 h1
    obtain ⟨A1, d1, rfl, _⟩ := len_small k1
    exact ⟨⟨s, l1⟩, A1, d1, rfl, hs, k1⟩
theorem scn_trod {n : Nat} {cs : List Value} {x : DataW H × List MemPlace} (hl : cs.length = 4) (h : DataW.trod enc Tryz.prog w base spare held n 51 cs = some x) : ∃ o, rScn.rep w (fun b => b < w.heap.size) o cs := by
  match cs, hl with
  | [c0, c1, c2, c3], _ =>
    obtain ⟨_, _, h0⟩ := field_trod (i := 0) (ft := 3) h (by kernel_rfl) rfl
    obtain ⟨_, _, h1⟩ := field_trod (i := 1) (ft := 3) h (by kernel_rfl) rfl
    obtain ⟨_, _, h2⟩ := field_trod (i := 2) (ft := 3) h (by kernel_rfl) rfl
    obtain ⟨_, _, h3⟩ := field_trod (i := 3) (ft := 3) h (by kernel_rfl) rfl
    obtain ⟨i0, rfl, hi0⟩ := int_trod (by kernel_rfl) h0
    obtain ⟨i1, rfl, hi1⟩ := int_trod (by kernel_rfl) h1
    obtain ⟨i2, rfl, hi2⟩ := int_trod (by kernel_rfl) h2
    obtain ⟨i3, rfl, hi3⟩ := int_trod (by kernel_rfl) h3
    exact ⟨⟨i0, i1, i2, i3⟩, rfl, hi0, hi1, hi2, hi3⟩
theorem case_trod {n : Nat} {cs : List Value} {x : DataW H × List MemPlace} (hl : cs.length = 10) (h : DataW.trod enc Tryz.prog w base spare held n 34 cs = some x) : ∃ c, CaseV w (.agg cs.toArray) c := by
  match cs, hl with
  | [c0, c1, c2, c3, c4, c5, c6, c7, c8, c9], _ =>
    obtain ⟨_, _, h0⟩ := fieldK_trod (i := 0) (o := 0) (k := 7) (ft := 29) h (by kernel_rfl) rfl
    obtain ⟨_, _, h1⟩ := fieldK_trod (i := 1) (o := 7) (k := 1) (ft := 30) h (by kernel_rfl) rfl
    obtain ⟨_, _, h2⟩ := fieldK_trod (i := 2) (o := 8) (k := 1) (ft := 31) h (by kernel_rfl) rfl
    obtain ⟨_, _, h3⟩ := fieldK_trod (i := 3) (o := 9) (k := 1) (ft := 32) h (by kernel_rfl) rfl
    obtain ⟨s, hs⟩ := sty_trod rfl h0
    obtain ⟨l1, k1⟩ := sl_of_trod (R := rBun) (e := 49) (by kernel_rfl) (by kernel_rfl) (by decide) (fun _ _ _ hl hy => bun_trod hl hy) h1
    obtain ⟨l2, k2⟩ := sl_of_trod (R := rWrk) (e := 87) (by kernel_rfl) (by kernel_rfl) (by decide) (fun _ _ _ hl hy => wrk_trod hl hy) h2
    obtain ⟨l3, k3⟩ := sl_of_trod (R := rScn) (e := 51) (by kernel_rfl) (by kernel_rfl) (by decide) (fun _ _ _ hl hy => scn_trod hl hy) h3
    exact ⟨⟨s, l1, l2, l3⟩, c0, c1, c2, c3, c4, c5, c6, c7, c8, c9, rfl, hs, k1, k2, k3⟩
theorem case_Trod {v : Value} {d : DataW H} {p : List MemPlace} {cs : Array Value} (hv : v = .agg cs) (hn : cs.size = 10) (h : DataW.Trod enc Tryz.prog w base spare held 34 v d p) : ∃ c, CaseV w v c := by
  subst hv
  obtain ⟨fuel, hf⟩ := h
  exact case_trod (cs := cs.toList) (by simpa using hn) hf
theorem bytes_Trod {v : Value} {d : DataW H} {p : List MemPlace} {A : Option Addr} {n c : Nat} (hv : v = .slice A n c) (h : DataW.Trod enc Tryz.prog w base spare held 57 v d p) : ∃ l, Sl rU8 w w.heap.size v l := by
  subst hv
  obtain ⟨fuel, hf⟩ := h
  exact sl_of_trod (R := rU8) (e := 5) (by kernel_rfl) (by kernel_rfl) (by decide) (fun _ cs _ hl hy => by
    match cs, hl with
    | [c0], _ =>
      obtain ⟨i, rfl, hi⟩ := u8_trod (by kernel_rfl) hy
      exact ⟨i, rfl, hi⟩) hf
end
end Go.Proofs.YtljibjlkjelpbaaGreatDoor
