/- Contracts: scans are judged, given what operation.Check answers. -/
import Derived.Test.YtbglhkngdagmeaaGreatDoorW6
import Derived.Test.YtbglhkngdagmeaaGreatDoorS1
namespace Go.Proofs.YtbglhkngdagmeaaGreatDoor
open Go.RowKit
set_option maxRecDepth 100000
set_option maxHeartbeats 4000000

def ticks (bs : List Bun) : List Int := bs.map (·.tick)
theorem ticks_at {bs : List Bun} {k : Nat} (hk : k < bs.length) : tkAt (ticks bs) k = bs[k].tick := by
  unfold tkAt ticks
  simp [hk]
structure ScanOk (e : Int) (bs : List Bun) (ws : List Wrk) : Prop where
  op : e = 0
  le : bs.length ≤ 60
  tix : Tix (ticks bs)
  plies : ∀ k (hk : k < bs.length), 1 ≤ bs[k].upto - bs[k].fr ∧ bs[k].upto - bs[k].fr ≤ 40
  skill : skillE ws = 0
theorem scan_good {e : Int} {bs : List Bun} {ws : List Wrk} (h : scanE e bs ws = 0) : ScanOk e bs ws := by
  unfold scanE at h
  split at h
  · rename_i h1; exact absurd h h1
  rename_i h1
  split at h
  · cases h
  rename_i h2
  split at h
  · rename_i h3; exact absurd h h3
  rename_i h3
  have h4 : firstE (bunE bs) bs.length = 0 := by simpa using h3
  have h5 : ∀ k (hk : k < bs.length), ¬ (bs[k].fr ≥ bs[k].upto ∨ bs[k].upto - bs[k].fr > 40) ∧ ((bs.take k).any fun y => decide (y.tick = bs[k].tick)) = false := fun k hk => by
    have h6 := firstE_at h4 k hk
    unfold bunE at h6
    rw [List.getElem?_eq_getElem hk] at h6
    dsimp only at h6
    split at h6
    · cases h6
    · rename_i h7
      split at h6
      · cases h6
      · rename_i h8; exact ⟨h7, by simpa using h8⟩
  refine ⟨by simpa using h1, by omega, fun i j hij hj => ?_, fun k hk => by have := (h5 k hk).1; omega, h⟩
  have hj' : j < bs.length := by simpa [ticks] using hj
  rw [ticks_at (by omega), ticks_at hj']
  intro hc
  have := List.any_eq_false.1 (h5 j hj').2 bs[i] (List.mem_take_iff_getElem.2 ⟨i, by omega, rfl⟩)
  simp [hc] at this
theorem Sl.scn {w : World} {B : Nat} {v : Value} {l : List Scn} (h : Sl rScn w B v l) : ∃ A c, v = .slice A l.length c ∧ l.length ≤ c ∧ l.length ≤ 9223372036854775807 ∧
    ∀ k (hk : k < l.length), ∃ ad, A = some ad ∧ ad.block < B ∧ (∀ j u, [Value.int .i64 l[k].tick, .int .i64 l[k].op, .int .i64 l[k].who, .int .i64 l[k].time][j]? = some u → w.cell? (ad.add (k * 4 + j)) = some u) ∧ inI64 l[k].tick ∧ inI64 l[k].op ∧ inI64 l[k].who ∧ inI64 l[k].time := by
  obtain ⟨A, c, hv, h1, h2, h3⟩ := h
  refine ⟨A, c, hv, h1, by unfold maxLen at h2; omega, fun k hk => ?_⟩
  obtain ⟨ad, cs, ha, hlt, hc, rfl, hr⟩ := h3 k hk
  exact ⟨ad, ha, hlt, hc, hr⟩
theorem judgeAll_bad (w : World) (v0 v1 v2 v3 v4 v5 v6 vb vw vx : Value) (e : Int) (bs : List Bun) (ws : List Wrk) (hO : ∀ (L : List Res) (w' : World), St w L w' → Ok Tryz.prog 72 [.agg #[v0, v1, v2, v3, v4, v5, v6]].toArray w' fun x _ => x = .int .i64 e)
    (hb : Sl rBun w w.heap.size vb bs) (hw : Sl rWrk w w.heap.size vw ws) (he : ¬ scanE e bs ws = 0) : Ok Tryz.prog 55 [.agg #[v0, v1, v2, v3, v4, v5, v6], vb, vw, vx].toArray w fun x _ => x = .tuple #[.slice none 0 0, .map none, .int .i64 (scanE e bs ws)] := by
  have hC : ∀ (L : List Res) (w' : World), St w L w' → Ok Tryz.prog 62 [.agg #[v0, v1, v2, v3, v4, v5, v6], vb, vw].toArray w' fun x _ => x = .int .i64 (scanE e bs ws) := fun L w' s => scanCheck_ok w' v0 v1 v2 v3 v4 v5 v6 vb vw e bs ws (fun L' w2 s2 => hO [] w2 ⟨s.below.trans (Below.mono s2.below s.below.size), trivial⟩) (hb.later s) (hw.later s)
  refine ok_enter Tryz.func55 rfl Tryz.ntmps55 rfl ?_
  focus (refine gc_seq ?_; refine gc_region ?_; refine gw_boxd (v := .agg _) rfl rfl (fun _ => ?_); apply gw_d; exact det_m rfl rfl (by conv => (lhs; whnf)); apply gw_d; exact det_m rfl rfl (by conv => (lhs; whnf)); apply gw_d; exact det_m rfl rfl (by conv => (lhs; whnf)); refine gw_nil ?_; refine gx_next ?_; refine gc_seq ?_; refine gc_seq ?_; refine gc_region ?_; apply gw_d; exact w_load_boxN rfl rfl rfl .here rfl; apply gw_d; exact det_m rfl rfl (by conv => (lhs; whnf)); apply gw_d; exact det_m rfl rfl (by conv => (lhs; whnf)); apply gw_d; exact w_call rfl rfl (hC _) rfl; apply gw_d; exact det_m rfl rfl (by conv => (lhs; whnf)); refine gw_nil ?_; refine gx_next ?_; refine gc_seq ?_; refine gc_region ?_; apply gw_d; exact det_m rfl rfl (by conv => (lhs; whnf)); apply gw_d; exact det_cmp rfl rfl rfl rfl rfl; refine gw_nil ?_; refine gx_next ?_)
  refine gc_if_dec rfl (fun h => ?_) (fun h => absurd he h)
  focus (refine gc_seq ?_; refine gc_region ?_; apply gw_d; exact det_m rfl rfl (by conv => (lhs; whnf)); apply gw_d; exact det_m rfl rfl (by conv => (lhs; whnf)); apply gw_d; exact det_m rfl rfl (by conv => (lhs; whnf)); apply gw_d; exact det_m rfl rfl (by conv => (lhs; whnf)); refine gw_nil ?_; refine gx_next ?_; refine gc_ret ?_; refine gx_then_ret ?_)
  refine gx_ret3 (u := .slice _ _ _) (v := .map _) (x := .int _ _) rfl rfl rfl rfl (fun _ _ => ?_)
  rfl
theorem judgeAll_long (w : World) (v0 v1 v2 v3 v4 v5 v6 vb vw vx : Value) (e : Int) (bs : List Bun) (ws : List Wrk) (xs : List Scn) (hO : ∀ (L : List Res) (w' : World), St w L w' → Ok Tryz.prog 72 [.agg #[v0, v1, v2, v3, v4, v5, v6]].toArray w' fun x _ => x = .int .i64 e)
    (hb : Sl rBun w w.heap.size vb bs) (hw : Sl rWrk w w.heap.size vw ws) (hx : Sl rScn w w.heap.size vx xs) (he : scanE e bs ws = 0) (h300 : xs.length > 300) : Ok Tryz.prog 55 [.agg #[v0, v1, v2, v3, v4, v5, v6], vb, vw, vx].toArray w fun x _ => x = .tuple #[.slice none 0 0, .map none, .int .i64 5] := by
  have hC : ∀ (L : List Res) (w' : World), St w L w' → Ok Tryz.prog 62 [.agg #[v0, v1, v2, v3, v4, v5, v6], vb, vw].toArray w' fun x _ => x = .int .i64 0 := fun L w' s => by
    have := scanCheck_ok w' v0 v1 v2 v3 v4 v5 v6 vb vw e bs ws (fun L' w2 s2 => hO [] w2 ⟨s.below.trans (Below.mono s2.below s.below.size), trivial⟩) (hb.later s) (hw.later s)
    rw [he] at this
    exact this
  obtain ⟨Ax, cx, rfl, hxc, hxm, hxcell⟩ := hx.scn
  refine ok_enter Tryz.func55 rfl Tryz.ntmps55 rfl ?_
  focus (refine gc_seq ?_; refine gc_region ?_; refine gw_boxd (v := .agg _) rfl rfl (fun _ => ?_); apply gw_d; exact det_m rfl rfl (by conv => (lhs; whnf)); apply gw_d; exact det_m rfl rfl (by conv => (lhs; whnf)); apply gw_d; exact det_m rfl rfl (by conv => (lhs; whnf)); refine gw_nil ?_; refine gx_next ?_; refine gc_seq ?_; refine gc_seq ?_; refine gc_region ?_; apply gw_d; exact w_load_boxN rfl rfl rfl .here rfl; apply gw_d; exact det_m rfl rfl (by conv => (lhs; whnf)); apply gw_d; exact det_m rfl rfl (by conv => (lhs; whnf)); apply gw_d; exact w_call rfl rfl (hC _) rfl; apply gw_d; exact det_m rfl rfl (by conv => (lhs; whnf)); refine gw_nil ?_; refine gx_next ?_; refine gc_seq ?_; refine gc_region ?_; apply gw_d; exact det_m rfl rfl (by conv => (lhs; whnf)); apply gw_d; exact det_cmp rfl rfl rfl rfl rfl; refine gw_nil ?_; refine gx_next ?_)
  refine gc_if_dec rfl (fun h => absurd rfl h) (fun _ => ?_)
  focus (refine gc_skip ?_; refine gx_next ?_; refine gc_seq ?_; refine gc_seq ?_; refine gc_region ?_; apply gw_d; exact det_m rfl rfl (by conv => (lhs; whnf)); apply gw_d; exact w_len rfl rfl rfl; apply gw_d; exact det_cmp rfl rfl rfl rfl rfl; refine gw_nil ?_; refine gx_next ?_)
  refine gc_if_dec rfl (fun h => ?_) (fun h => by omega)
  focus (refine gc_seq ?_; refine gc_region ?_; apply gw_d; exact det_m rfl rfl (by conv => (lhs; whnf)); apply gw_d; exact det_m rfl rfl (by conv => (lhs; whnf)); apply gw_d; exact det_m rfl rfl (by conv => (lhs; whnf)); refine gw_nil ?_; refine gx_next ?_; refine gc_ret ?_; refine gx_then_ret ?_)
  refine gx_ret3 (u := .slice _ _ _) (v := .map _) (x := .int _ _) rfl rfl rfl rfl (fun _ _ => ?_)
  rfl
theorem judgeAll_ok (w : World) (v0 v1 v2 v3 v4 v5 v6 vb vw vx : Value) (e : Int) (l : List Opn) (bs : List Bun) (ws : List Wrk) (xs : List Scn) (hO : ∀ (L : List Res) (w' : World), St w L w' → Ok Tryz.prog 72 [.agg #[v0, v1, v2, v3, v4, v5, v6]].toArray w' fun x _ => x = .int .i64 e)
    (hl : Sl rOp w w.heap.size v6 l) (hb : Sl rBun w w.heap.size vb bs) (hw : Sl rWrk w w.heap.size vw ws) (hx : Sl rScn w w.heap.size vx xs) (hS : Small l) (he : scanE e bs ws = 0) (h300 : ¬ xs.length > 300) :
    OkM Tryz.prog 55 [.agg #[v0, v1, v2, v3, v4, v5, v6], vb, vw, vx].toArray w (fun x : Nat × Nat => .tuple #[.slice (some ⟨x.1, 0, none⟩) xs.length xs.length, .map (some x.2), .int .i64 0]) (fun x => [Box x.1 3 ((outs l ws (ticks bs) [] xs).map (Value.int .i64)).toArray]) := by
  have hC : ∀ (L : List Res) (w' : World), St w L w' → Ok Tryz.prog 62 [.agg #[v0, v1, v2, v3, v4, v5, v6], vb, vw].toArray w' fun x _ => x = .int .i64 0 := fun L w' s => by
    have := scanCheck_ok w' v0 v1 v2 v3 v4 v5 v6 vb vw e bs ws (fun L' w2 s2 => hO [] w2 ⟨s.below.trans (Below.mono s2.below s.below.size), trivial⟩) (hb.later s) (hw.later s)
    rw [he] at this
    exact this
  have hOk := scan_good he
  have htl : (ticks bs).length = bs.length := by simp [ticks]
  obtain ⟨Al, cl, rfl, hlc, hlm⟩ := len_small hl
  obtain ⟨Ab, cb, rfl, hbc, hbm, hbcell⟩ := hb.bun
  obtain ⟨Aw, cw, rfl, hwc, hwm, _⟩ := hw.wrk
  obtain ⟨Ax, cx, rfl, hxc, hxm, hxcell⟩ := hx.scn
  unfold OkM
  refine ok_enter Tryz.func55 rfl Tryz.ntmps55 rfl ?_
  focus (refine gc_seq ?_; refine gc_region ?_; refine gw_boxd (v := .agg _) rfl rfl (fun _ => ?_); apply gw_d; exact det_m rfl rfl (by conv => (lhs; whnf)); apply gw_d; exact det_m rfl rfl (by conv => (lhs; whnf)); apply gw_d; exact det_m rfl rfl (by conv => (lhs; whnf)); refine gw_nil ?_; refine gx_next ?_; refine gc_seq ?_; refine gc_seq ?_; refine gc_region ?_; apply gw_d; exact w_load_boxN rfl rfl rfl .here rfl; apply gw_d; exact det_m rfl rfl (by conv => (lhs; whnf)); apply gw_d; exact det_m rfl rfl (by conv => (lhs; whnf)); apply gw_d; exact w_call rfl rfl (hC _) rfl; apply gw_d; exact det_m rfl rfl (by conv => (lhs; whnf)); refine gw_nil ?_; refine gx_next ?_; refine gc_seq ?_; refine gc_region ?_; apply gw_d; exact det_m rfl rfl (by conv => (lhs; whnf)); apply gw_d; exact det_cmp rfl rfl rfl rfl rfl; refine gw_nil ?_; refine gx_next ?_)
  rename_i bv
  refine gc_if_dec rfl (fun h => absurd rfl h) (fun _ => ?_)
  focus (refine gc_skip ?_; refine gx_next ?_; refine gc_seq ?_; refine gc_seq ?_; refine gc_region ?_; apply gw_d; exact det_m rfl rfl (by conv => (lhs; whnf)); apply gw_d; exact w_len rfl rfl rfl; apply gw_d; exact det_cmp rfl rfl rfl rfl rfl; refine gw_nil ?_; refine gx_next ?_)
  refine gc_if_dec rfl (fun h => by omega) (fun _ => ?_)
  focus (refine gc_skip ?_; refine gx_next ?_; refine gc_seq ?_; refine gc_region ?_)
  refine gw_makeMap kInt rfl (fun bm => ?_)
  focus (apply gw_d; exact det_m rfl rfl (by conv => (lhs; whnf)); refine gw_nil ?_; refine gx_next ?_; refine gc_seq ?_; refine gc_seq ?_; refine gc_region ?_; apply gw_d; exact det_m rfl rfl (by conv => (lhs; whnf)); apply gw_d; exact w_len rfl rfl rfl; apply gw_d; exact det_m rfl rfl (by conv => (lhs; whnf)); refine gw_nil ?_; refine gx_next ?_; refine gc_block ?_)
  refine gc_ent (coll_nil (F := recF (ticks bs) (fun _ => 0) 136 [])) ?_
  refine gc_loop (σ := Nat × (Nat → Nat)) [33, 34, 35, 14, 36, 37, 38, 39, 40, 41, 32] (fun s => [(32, .int .i64 s.1)]) (fun s => [Coll s.1 (recF (ticks bs) s.2 136 []), MapR bm kInt (mapK (ticks bs) s.2 s.1), Box bv 43 #[v0, v1, v2, v3, v4, v5, .slice Al l.length cl]]) (fun s => s.1 ≤ bs.length) (fun s => bs.length - s.1) (0, fun _ => 0) (Nat.zero_le _) ⟨rfl, trivial⟩ (.cons .here (.cons .here (.cons .here .nil))) ?_
  rintro ⟨k, β⟩ base hk
  dsimp only at hk ⊢
  focus (refine gc_seq ?_; refine gc_region ?_; apply gw_d; exact det_cmp rfl rfl rfl rfl rfl; refine gw_nil ?_; refine gx_next ?_; refine gc_seq ?_)
  refine gc_if_dec rfl (fun h => ?_) (fun h => ?_)
  · have hlt : k < bs.length := by omega
    obtain ⟨ad, rfl, hbk, hce, h1, h2, h3⟩ := hbcell k hlt
    focus (refine gc_skip ?_; refine gx_next ?_; refine gc_seq ?_; refine gc_block ?_; refine gc_seq ?_; refine gc_region ?_; apply gw_d; exact w_index rfl rfl rfl rfl (by with_reducible exact rfl) (by omega); apply gw_d; exact w_load_elem rfl rfl rfl (by assumption) (by assumption) (by rfl); refine w_alloc rfl (fun _ => ?_); refine w_store_all rfl rfl rfl rfl rfl .here rfl ?_; refine gw_nil ?_; refine gx_next ?_; refine gc_region ?_; apply gw_d; exact det_m rfl rfl (by conv => (lhs; whnf)); apply gw_d; exact w_field rfl rfl rfl; apply gw_d; exact w_load_box rfl rfl rfl .here rfl; apply gw_d; exact w_buildP [] (cells := recC [] 0) (by rfl) rfl rfl rfl; refine gw_boxd (v := .agg _) rfl rfl (fun _ => ?_))
    rename_i b1 b2
    refine gw_mapSet (k := bs[k].tick) (v := .pointer (some ⟨b2, 0, none⟩)) intLawC rfl rfl rfl rfl (.there (.there (.there .here))) ?_
    have hmap : aset (mapK (ticks bs) β k) bs[k].tick (.pointer (some ⟨b2, 0, none⟩)) = mapK (ticks bs) (fun i => if i = k then b2 else β i) (k + 1) := by
      show _ = aset (mapK (ticks bs) (fun i => if i = k then b2 else β i) k) (tkAt (ticks bs) k) (ptrAt (fun i => if i = k then b2 else β i) k)
      rw [mapK_congr (β := β) (β' := fun i => if i = k then b2 else β i) k (fun i hi => by rw [if_neg (by omega)]), ticks_at hlt]
      simp [ptrAt]
    rw [hmap]
    focus (refine gw_nil ?_; refine gx_block ?_; refine gx_next ?_; refine gc_region ?_; apply gw_d; exact det_ar rfl rfl rfl rfl rfl (by omega); apply gw_d; exact det_m rfl rfl (by conv => (lhs; whnf)); refine gw_nil ?_)
    refine gx_roundE (k + 1, fun i => if i = k then b2 else β i) hlt (by dsimp only; omega) (by repeat (first | exact Keeps.refl | refine Keeps.upd rfl ?_ | refine Keeps.sets rfl ?_ | refine Keeps.havoc rfl ?_)) ⟨rfl, trivial⟩ ?_
    refine Ent.trans (Sub.ent (K := [Box b2 136 (recC [] (tkAt (ticks bs) k)), Coll k (recF (ticks bs) β 136 []), MapR bm kInt (mapK (ticks bs) (fun i => if i = k then b2 else β i) (k + 1)), Box bv 43 #[v0, v1, v2, v3, v4, v5, .slice Al l.length cl]]) (.cons (.there .here) (.cons (.there (.there .here)) (.cons .here (.cons (.there .here) .nil))))) rec_push
  obtain rfl : k = bs.length := by omega
  focus (refine gc_exit ?_; refine gx_then_exit ?_; refine gx_then_exit ?_; refine gx_block_exit ?_; refine gx_next ?_; refine gc_seq ?_; refine gc_region ?_; apply gw_d; exact det_m rfl rfl (by conv => (lhs; whnf)); apply gw_d; exact w_len rfl rfl rfl)
  refine gw_make1 (n := xs.length) rfl rfl rfl rfl rfl (by omega) (by omega) rfl (fun g => ?_)
  rw [show Array.replicate xs.length ((Value.int .i64 0).cells.getD 0 undef) = ((outRow (outs l ws (ticks bs) [] (xs.take 0)) xs.length).map (Value.int .i64)).toArray from by rw [List.take_zero]; show _ = ((outRow [] xs.length).map (Value.int .i64)).toArray; rw [outRow_nil]; exact row_make (Value.int .i64) xs.length 0]
  focus (apply gw_d; exact det_m rfl rfl (by conv => (lhs; whnf)); refine gw_nil ?_; refine gx_next ?_; refine gc_seq ?_; refine gc_seq ?_; refine gc_region ?_; apply gw_d; exact det_m rfl rfl (by conv => (lhs; whnf)); apply gw_d; exact w_len rfl rfl rfl; apply gw_d; exact det_m rfl rfl (by conv => (lhs; whnf)); refine gw_nil ?_; refine gx_next ?_; refine gc_block ?_)
  refine gc_loop (σ := Nat) [48, 49, 50, 51, 17, 16, 52, 53, 54, 55, 18, 56, 57, 58, 59, 60, 61, 62, 63, 64, 65, 66, 67, 68, 69, 70, 71, 72, 73, 74, 75, 76, 77, 78, 79, 80, 81, 47] (fun i => [(47, .int .i64 i)]) (fun i => [Box g 3 ((outRow (outs l ws (ticks bs) [] (xs.take i)) xs.length).map (Value.int .i64)).toArray, Coll (ticks bs).length (recF (ticks bs) β 136 (paidL l ws (ticks bs) (xs.take i))), MapR bm kInt (mapK (ticks bs) β (ticks bs).length), Box bv 43 #[v0, v1, v2, v3, v4, v5, .slice Al l.length cl]]) (fun i => i ≤ xs.length) (fun i => xs.length - i) 0 (Nat.zero_le _) ⟨rfl, trivial⟩ (by rw [htl]; exact (.cons .here (.cons .here (.cons .here (.cons .here .nil))))) ?_
  rintro i base2 hi
  focus (refine gc_seq ?_; refine gc_region ?_; apply gw_d; exact det_cmp rfl rfl rfl rfl rfl; refine gw_nil ?_; refine gx_next ?_; refine gc_seq ?_)
  refine gc_if_dec rfl (fun h2 => ?_) (fun h2 => ?_)
  · have hil : i < xs.length := by omega
    obtain ⟨ad2, rfl, hxk, hcx, x1, x2, x3, x4⟩ := hxcell i hil
    have hol := outs_len l ws (ticks bs) (xs.take i) []
    rw [List.length_take, Nat.min_eq_left (by omega)] at hol
    have hosn := outs_snoc l ws (ticks bs) xs[i] (xs.take i) []
    have hpsn := paidL_snoc l ws (ticks bs) (xs.take i) xs[i]
    rw [← List.take_succ_eq_append_getElem hil] at hosn hpsn
    change _ = _ ++ [outE l ws (ticks bs) (paidL l ws (ticks bs) (xs.take i)) xs[i]] at hosn
    generalize paidL l ws (ticks bs) (xs.take i) = ps at *
    generalize outs l ws (ticks bs) [] (xs.take i) = os at *
    have hrl := outRow_len (l := os) (n := xs.length) (by omega)
    generalize xs[i] = x at *
    focus (refine gc_skip ?_; refine gx_next ?_; refine gc_seq ?_; refine gc_block ?_; refine gc_seq ?_; refine gc_region ?_; apply gw_d; exact det_m rfl rfl (by conv => (lhs; whnf)); apply gw_d; exact w_index rfl rfl rfl rfl (by with_reducible exact rfl) (by omega); apply gw_d; exact w_load_elem rfl rfl rfl (by assumption) (by assumption) (by rfl); refine w_alloc rfl (fun _ => ?_); apply gw_d; exact det_m rfl rfl (by conv => (lhs; whnf)); refine w_store_all rfl rfl rfl rfl rfl .here rfl ?_; refine gw_nil ?_; refine gx_next ?_; refine gc_seq ?_; refine gc_region ?_; apply gw_d; exact det_m rfl rfl (by conv => (lhs; whnf)); apply gw_d; exact w_field rfl rfl rfl; apply gw_d; exact w_load_box rfl rfl rfl .here rfl)
    rename_i bx
    have hset : ∀ v : Int, (outRow os xs.length).set i v = outRow (os ++ [v]) xs.length := fun v => by
      have := outRow_set (l := os) (n := xs.length) (by omega) v
      rw [hol] at this
      exact this
    have hgot : ∀ v : Int, (((outRow (os ++ [v]) xs.length).map (Value.int .i64)).toArray)[i * 1]? = some (.int .i64 v) := fun v => by
      rw [← hset v, row_get (Value.int .i64) 0 (by rw [List.length_set]; omega)]
      simp [hrl, hil]
    cases hT : hasB (ticks bs) x.tick with
    | false =>
      have hget := mapK_none (β := β) (ticks bs).length (tk_not hT)
      have hE : outE l ws (ticks bs) ps x = 3 := by unfold outE; rw [if_pos hT]
      have hN : nextP l ws (ticks bs) ps x = ps := by unfold nextP; rw [hE]; rfl
      rw [hE] at hosn
      rw [hN] at hpsn
      focus (apply gw_d; exact det_eq (c' := .pointer none) (w_lookup (k := x.tick) intLawC rfl rfl rfl rfl (.there (.there (.there .here)))) (by rw [hget]; rfl); apply gw_d; exact det_m rfl rfl (by conv => (lhs; whnf)); refine gw_nil ?_; refine gx_next ?_; refine gc_seq ?_; refine gc_region ?_; apply gw_d; exact det_m rfl rfl (by conv => (lhs; whnf)); apply gw_d; exact det_m rfl rfl (by conv => (lhs; whnf)); apply gw_d; exact w_field rfl rfl rfl; apply gw_d; exact w_load_box rfl rfl rfl (.there (.there (.there (.there .here)))) rfl; apply gw_d; exact det_m rfl rfl (by conv => (lhs; whnf)); apply gw_d; exact det_m rfl rfl (by conv => (lhs; whnf)); apply gw_d; exact w_load_boxN rfl rfl rfl .here rfl; apply gw_d; exact w_call rfl rfl (fun w' _ => judge_nil w' _ _ x) rfl; apply gw_d; exact w_index rfl rfl rfl rfl (by with_reducible exact rfl) (by omega))
      refine w_store_row (n := 1) (v := .int .i64 3) rfl rfl rfl rfl rfl (.there .here) (by simp; omega) (row_set (Value.int .i64) (by omega) _) ?_
      rw [hset 3]
      focus (refine gw_nil ?_; refine gx_next ?_; refine gc_seq ?_; refine gc_region ?_; apply gw_d; exact det_m rfl rfl (by conv => (lhs; whnf)); apply gw_d; exact det_m rfl rfl (by conv => (lhs; whnf)); apply gw_d; exact w_index rfl rfl rfl rfl (by with_reducible exact rfl) (by omega); apply gw_d; exact w_load_row rfl rfl rfl .here (hgot 3); apply gw_d; exact det_cmp rfl rfl rfl rfl rfl; refine gw_nil ?_; refine gx_next ?_)
      refine gc_if_dec rfl (fun h => absurd h (by decide)) (fun _ => ?_)
      focus (refine gc_skip ?_; refine gx_block ?_; refine gx_next ?_; refine gc_region ?_; apply gw_d; exact det_ar rfl rfl rfl rfl rfl (by omega); apply gw_d; exact det_m rfl rfl (by conv => (lhs; whnf)); refine gw_nil ?_)
      refine gx_round (i + 1) hil (by omega) (by repeat (first | exact Keeps.refl | refine Keeps.upd rfl ?_ | refine Keeps.sets rfl ?_ | refine Keeps.havoc rfl ?_)) ⟨rfl, trivial⟩ ?_
      rw [hosn, hpsn]
      exact .cons .here (.cons (.there .here) (.cons (.there .here) (.cons (.there .here) .nil)))
    | true =>
      obtain ⟨j, hj, hjt⟩ := tk_has hT
      have hget := mapK_old (β := β) hOk.tix (ticks bs).length (Nat.le_refl _) j hj
      rw [hjt] at hget
      have hE : outE l ws (ticks bs) ps x = judgeE l ws ps x := by unfold outE; rw [if_neg (by rw [hT]; decide)]
      focus (apply gw_d; exact det_eq (c' := .pointer (some ⟨β j, 0, none⟩)) (w_lookup (k := x.tick) intLawC rfl rfl rfl rfl (.there (.there (.there .here)))) (by rw [hget]; rfl); apply gw_d; exact det_m rfl rfl (by conv => (lhs; whnf)); refine gw_nil ?_; refine gx_next ?_; refine gc_seq ?_; refine gc_region ?_; apply gw_d; exact det_m rfl rfl (by conv => (lhs; whnf)); apply gw_d; exact det_m rfl rfl (by conv => (lhs; whnf)); apply gw_d; exact w_field rfl rfl rfl; apply gw_d; exact w_load_box rfl rfl rfl (.there (.there (.there (.there .here)))) rfl; apply gw_d; exact det_m rfl rfl (by conv => (lhs; whnf)); apply gw_d; exact det_m rfl rfl (by conv => (lhs; whnf)); apply gw_d; exact w_load_boxN rfl rfl rfl .here rfl; apply gw_d; exact w_call rfl rfl (fun w' s => judge_ok w' (.slice Al l.length cl) (.slice Aw ws.length cw) (β j) 136 l ws ps x (hl.later s) (hw.later s) hS (by have h9 := (s.pick (.there (.there .here))).head.1 j hj; unfold recF at h9; rw [hjt] at h9; exact h9)) rfl; apply gw_d; exact w_index rfl rfl rfl rfl (by with_reducible exact rfl) (by omega))
      refine w_store_row (n := 1) (v := .int .i64 (judgeE l ws ps x)) rfl rfl rfl rfl rfl (.there .here) (by simp; omega) (row_set (Value.int .i64) (by omega) _) ?_
      rw [hset]
      rw [hE] at hosn
      focus (refine gw_nil ?_; refine gx_next ?_; refine gc_seq ?_; refine gc_region ?_; apply gw_d; exact det_m rfl rfl (by conv => (lhs; whnf)); apply gw_d; exact det_m rfl rfl (by conv => (lhs; whnf)); apply gw_d; exact w_index rfl rfl rfl rfl (by with_reducible exact rfl) (by omega); apply gw_d; exact w_load_row rfl rfl rfl .here (hgot _); apply gw_d; exact det_cmp rfl rfl rfl rfl rfl; refine gw_nil ?_; refine gx_next ?_)
      refine gc_if_dec rfl (fun h1 => ?_) (fun h1 => ?_)
      · have hN : nextP l ws (ticks bs) ps x = ps ++ [x] := by unfold nextP; rw [hE, if_pos h1]
        rw [hN] at hpsn
        have hkn : 0 ≤ x.op ∧ x.op < l.length := by
          unfold judgeE at h1
          split at h1
          · cases h1
          · rename_i h9
            have : knownB l ws x = true := by simpa using h9
            unfold knownB at this
            have := of_decide_eq_true this
            exact ⟨this.1, this.2.1⟩
        obtain ⟨o, ho⟩ : ∃ o : Nat, x.op = (o : Int) := ⟨x.op.toNat, by omega⟩
        have ho16 : o < 16 := by have := hS.1; omega
        have hrs := recC_size ps x.tick
        refine gc_ent (Ent.trans (Sub.ent (K := [Coll (ticks bs).length (recF (ticks bs) β 136 ps), Box g 3 ((outRow (os ++ [judgeE l ws ps x]) xs.length).map (Value.int .i64)).toArray, Box bx 61 #[.int .i64 x.tick, .int .i64 x.op, .int .i64 x.who, .int .i64 x.time], MapR bm kInt (mapK (ticks bs) β (ticks bs).length), Box bv 43 #[v0, v1, v2, v3, v4, v5, .slice Al l.length cl]]) (.cons (.there (.there .here)) (.cons .here (.cons .here (.cons .here (.cons .here .nil)))))) (rec_take hj)) ?_
        rw [hjt]
        refine gc_seq ?_
        refine gc_block_draw Nat 5 (fun i => ([[], [], [1], [0], [0, 3]] : List (List Nat)).getD i []) rfl (by kernel_rfl) ?_
        focus (apply gb_d; (intro γ; exact det_m rfl rfl (by conv => (lhs; whnf))); (intros; rfl); (intros; rfl); apply gb_d; (intro γ; exact w_field rfl rfl rfl); (intros; rfl); (intros; rfl); apply gb_d; (intro γ; exact w_load_box rfl rfl rfl (.there (.there (.there .here))) rfl); (intros; rfl); (intros; rfl); apply gb_d; (intro γ; exact w_nilcheck rfl rfl rfl); (intros; rfl); (intros; rfl); apply gb_d; (intro γ; exact w_field rfl rfl rfl); (intros; rfl); (intros; rfl))
        refine GB.nil (fun _ => ?_)
        focus (apply gw_d; exact w_index_arr (m := o) rfl rfl rfl rfl ho ho16)
        refine w_store_row (b := β j) (bt := 136) (cs := recC ps x.tick) (n := 1) (v := .bool true) (i := 0 + o * 1) (cs' := ((recC ps x.tick).toList.set o (.bool true)).toArray) rfl (congrArg (fun x => Value.pointer (some x)) (add_add ⟨β j, 0, none⟩ 0 (o * 1))) rfl rfl rfl .here (by omega) (by rw [Nat.zero_add, Nat.mul_one]; exact set_row (by omega) rfl) ?_
        focus (refine gw_nil ?_; refine gx_next ?_; refine gc_region ?_; apply gw_d; exact det_m rfl rfl (by conv => (lhs; whnf)); apply gw_d; exact w_field rfl rfl rfl; apply gw_d; exact w_load_box rfl rfl rfl (.there (.there (.there .here))) rfl; apply gw_d; exact w_nilcheck rfl rfl rfl; apply gw_d; exact w_field rfl rfl rfl)
        refine w_store_row (b := β j) (bt := 136) (cs := ((recC ps x.tick).toList.set o (.bool true)).toArray) (n := 1) (v := .int .i64 x.time) (i := 16) (cs' := recC (ps ++ [x]) x.tick) rfl rfl rfl rfl rfl .here (by simp; omega) (by rw [set_row (by simp; omega) rfl]; show (((recC ps x.tick).toList.set o (.bool true)).set 16 (.int .i64 x.time)).toArray = _; rw [recC_pay ps x ho ho16]) ?_
        focus (refine gw_nil ?_; refine gx_block ?_; refine gx_next ?_; refine gc_region ?_; apply gw_d; exact det_ar rfl rfl rfl rfl rfl (by omega); apply gw_d; exact det_m rfl rfl (by conv => (lhs; whnf)); refine gw_nil ?_)
        refine gx_roundE (i + 1) hil (by omega) (by repeat (first | exact Keeps.refl | refine Keeps.upd rfl ?_ | refine Keeps.sets rfl ?_ | refine Keeps.havoc rfl ?_)) ⟨rfl, trivial⟩ ?_
        rw [hosn, hpsn]
        exact Ent.trans (rec_put hOk.tix hj hjt) (Sub.ent (.cons (.there .here) (.cons .here (.cons (.there .here) (.cons (.there .here) .nil)))))
      · have hN : nextP l ws (ticks bs) ps x = ps := by unfold nextP; rw [hE, if_neg h1]
        rw [hN] at hpsn
        focus (refine gc_skip ?_; refine gx_block ?_; refine gx_next ?_; refine gc_region ?_; apply gw_d; exact det_ar rfl rfl rfl rfl rfl (by omega); apply gw_d; exact det_m rfl rfl (by conv => (lhs; whnf)); refine gw_nil ?_)
        refine gx_round (i + 1) hil (by omega) (by repeat (first | exact Keeps.refl | refine Keeps.upd rfl ?_ | refine Keeps.sets rfl ?_ | refine Keeps.havoc rfl ?_)) ⟨rfl, trivial⟩ ?_
        rw [hosn, hpsn]
        exact .cons .here (.cons (.there .here) (.cons (.there .here) (.cons (.there .here) .nil)))
  · obtain rfl : i = xs.length := by omega
    rw [List.take_length]
    have hol := outs_len l ws (ticks bs) xs []
    have hrow : outRow (outs l ws (ticks bs) [] xs) xs.length = outs l ws (ticks bs) [] xs := by
      have := outRow_full (l := outs l ws (ticks bs) [] xs)
      rw [hol] at this
      exact this
    rw [hrow]
    focus (refine gc_exit ?_; refine gx_then_exit ?_; refine gx_then_exit ?_; refine gx_block_exit ?_; refine gx_next ?_; refine gc_seq ?_; refine gc_region ?_; apply gw_d; exact det_m rfl rfl (by conv => (lhs; whnf)); apply gw_d; exact det_m rfl rfl (by conv => (lhs; whnf)); apply gw_d; exact det_m rfl rfl (by conv => (lhs; whnf)); apply gw_d; exact det_m rfl rfl (by conv => (lhs; whnf)); apply gw_d; exact det_m rfl rfl (by conv => (lhs; whnf)); refine gw_nil ?_; refine gx_next ?_; refine gc_ret ?_)
    exact gx_ret3 (u := .slice _ _ _) (v := .map _) (x := .int _ _) rfl rfl rfl rfl (fun w' s => ⟨(g, bm), rfl, (St.sub (K := [Box g 3 ((outs l ws (ticks bs) [] xs).map (Value.int .i64)).toArray]) (.cons .here .nil) s).sep⟩)
end Go.Proofs.YtbglhkngdagmeaaGreatDoor
