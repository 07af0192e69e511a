/- Texts in one file: W7 W1 W2 W8 S3 Q57 W12 W9 W3 C16 C23 W10 W11 Q10 FwK Case QB S58 Shop QR V1 V2 QT. -/
import Derived.Test.YtckhibfbdnoigaaGreatDoorTR4
import Derived.Test.YtckhibfbdnoigaaGreatDoorTR2
/- Contracts: scans are judged, given what operation.Check answers. -/
namespace Go.Proofs.YtckhibfbdnoigaaGreatDoor
open Go.RowKit
set_option maxRecDepth 100000
set_option maxHeartbeats 4000000

def ticks (bs : List Bun) : List Int := bs.map (·.tick)
theorem ticks_at {bs : List Bun} {k : Nat} (hk : k < bs.length) : tkAt (ticks bs) k = bs[k].tick := by
  unfold tkAt ticks
  simp [hk]
structure ScanOk (e : Int) (bs : List Bun) (ws : List Wrk) : Prop where
  op : e = 0
  le : bs.length ≤ 60
  tix : Tix (ticks bs)
  plies : ∀ k (hk : k < bs.length), 1 ≤ bs[k].upto - bs[k].fr ∧ bs[k].upto - bs[k].fr ≤ 40
  skill : skillE ws = 0
theorem scan_good {e : Int} {bs : List Bun} {ws : List Wrk} (h : scanE e bs ws = 0) : ScanOk e bs ws := by
  unfold scanE at h
  split at h
  · rename_i h1; exact absurd h h1
  rename_i h1
  split at h
  · cases h
  rename_i h2
  split at h
  · rename_i h3; exact absurd h h3
  rename_i h3
  have h4 : firstE (bunE bs) bs.length = 0 := by simpa using h3
  have h5 : ∀ k (hk : k < bs.length), ¬ (bs[k].fr ≥ bs[k].upto ∨ bs[k].upto - bs[k].fr > 40) ∧ ((bs.take k).any fun y => decide (y.tick = bs[k].tick)) = false := fun k hk => by
    have h6 := firstE_at h4 k hk
    unfold bunE at h6
    rw [List.getElem?_eq_getElem hk] at h6
    dsimp only at h6
    split at h6
    · cases h6
    · rename_i h7
      split at h6
      · cases h6
      · rename_i h8; exact ⟨h7, by simpa using h8⟩
  refine ⟨by simpa using h1, by omega, fun i j hij hj => ?_, fun k hk => by have := (h5 k hk).1; omega, h⟩
  have hj' : j < bs.length := by simpa [ticks] using hj
  rw [ticks_at (by omega), ticks_at hj']
  intro hc
  have := List.any_eq_false.1 (h5 j hj').2 bs[i] (List.mem_take_iff_getElem.2 ⟨i, by omega, rfl⟩)
  simp [hc] at this
theorem Sl.scn {w : World} {B : Nat} {v : Value} {l : List Scn} (h : Sl rScn w B v l) : ∃ A c, v = .slice A l.length c ∧ l.length ≤ c ∧ l.length ≤ 9223372036854775807 ∧
    ∀ k (hk : k < l.length), ∃ ad, A = some ad ∧ ad.block < B ∧ (∀ j u, [Value.int .i64 l[k].tick, .int .i64 l[k].op, .int .i64 l[k].who, .int .i64 l[k].time][j]? = some u → w.cell? (ad.add (k * 4 + j)) = some u) ∧ inI64 l[k].tick ∧ inI64 l[k].op ∧ inI64 l[k].who ∧ inI64 l[k].time := by
  obtain ⟨A, c, hv, h1, h2, h3⟩ := h
  refine ⟨A, c, hv, h1, by unfold maxLen at h2; omega, fun k hk => ?_⟩
  obtain ⟨ad, cs, ha, hlt, hc, rfl, hr⟩ := h3 k hk
  exact ⟨ad, ha, hlt, hc, hr⟩
theorem judgeAll_bad (w : World) (v0 v1 v2 v3 v4 v5 v6 vb vw vx : Value) (e : Int) (bs : List Bun) (ws : List Wrk) (hO : ∀ (L : List Res) (w' : World), St w L w' → Ok Tryz.prog 63 [.agg #[v0, v1, v2, v3, v4, v5, v6]].toArray w' fun x _ => x = .int .i64 e)
    (hb : Sl rBun w w.heap.size vb bs) (hw : Sl rWrk w w.heap.size vw ws) (he : ¬ scanE e bs ws = 0) : Ok Tryz.prog 43 [.agg #[v0, v1, v2, v3, v4, v5, v6], vb, vw, vx].toArray w fun x _ => x = .tuple #[.slice none 0 0, .map none, .int .i64 (scanE e bs ws)] := by
  have hC : ∀ (L : List Res) (w' : World), St w L w' → Ok Tryz.prog 53 [.agg #[v0, v1, v2, v3, v4, v5, v6], vb, vw].toArray w' fun x _ => x = .int .i64 (scanE e bs ws) := fun L w' s => scanCheck_ok w' v0 v1 v2 v3 v4 v5 v6 vb vw e bs ws (fun L' w2 s2 => hO [] w2 ⟨s.below.trans (Below.mono s2.below s.below.size), trivial⟩) (hb.later s) (hw.later s)
  refine ok_enter Tryz.func43 rfl Tryz.ntmps43 rfl ?_
  focus (refine gc_seq ?_; refine gc_region ?_; refine gw_boxd (v := .agg _) rfl rfl (fun _ => ?_); refine gM rfl rfl (by conv => (lhs; whnf)) ?_; refine gM rfl rfl (by conv => (lhs; whnf)) ?_; refine gM rfl rfl (by conv => (lhs; whnf)) ?_; refine gO ?_; refine gc_seq ?_; refine gc_seq ?_; refine gc_region ?_; apply gw_d; exact w_load_boxN rfl rfl rfl .here rfl; refine gM rfl rfl (by conv => (lhs; whnf)) ?_; refine gM rfl rfl (by conv => (lhs; whnf)) ?_; apply gw_d; exact w_call rfl rfl (hC _) rfl; refine gM rfl rfl (by conv => (lhs; whnf)) ?_; refine gN ?_; refine gM rfl rfl (by conv => (lhs; whnf)) ?_; refine gC rfl rfl rfl rfl rfl ?_; refine gO ?_)
  refine gc_if_dec rfl (fun h => ?_) (fun h => absurd he h)
  focus (refine gc_seq ?_; refine gc_region ?_; refine gM rfl rfl (by conv => (lhs; whnf)) ?_; refine gM rfl rfl (by conv => (lhs; whnf)) ?_; refine gM rfl rfl (by conv => (lhs; whnf)) ?_; refine gM rfl rfl (by conv => (lhs; whnf)) ?_; refine gO ?_; refine gc_ret ?_; refine gx_then_ret ?_)
  refine gx_ret3 (u := .slice _ _ _) (v := .map _) (x := .int _ _) rfl rfl rfl rfl (fun _ _ => ?_)
  rfl
theorem judgeAll_long (w : World) (v0 v1 v2 v3 v4 v5 v6 vb vw vx : Value) (e : Int) (bs : List Bun) (ws : List Wrk) (xs : List Scn) (hO : ∀ (L : List Res) (w' : World), St w L w' → Ok Tryz.prog 63 [.agg #[v0, v1, v2, v3, v4, v5, v6]].toArray w' fun x _ => x = .int .i64 e)
    (hb : Sl rBun w w.heap.size vb bs) (hw : Sl rWrk w w.heap.size vw ws) (hx : Sl rScn w w.heap.size vx xs) (he : scanE e bs ws = 0) (h300 : xs.length > 300) : Ok Tryz.prog 43 [.agg #[v0, v1, v2, v3, v4, v5, v6], vb, vw, vx].toArray w fun x _ => x = .tuple #[.slice none 0 0, .map none, .int .i64 5] := by
  have hC : ∀ (L : List Res) (w' : World), St w L w' → Ok Tryz.prog 53 [.agg #[v0, v1, v2, v3, v4, v5, v6], vb, vw].toArray w' fun x _ => x = .int .i64 0 := fun L w' s => by
    have := scanCheck_ok w' v0 v1 v2 v3 v4 v5 v6 vb vw e bs ws (fun L' w2 s2 => hO [] w2 ⟨s.below.trans (Below.mono s2.below s.below.size), trivial⟩) (hb.later s) (hw.later s)
    rw [he] at this
    exact this
  obtain ⟨Ax, cx, rfl, hxc, hxm, hxcell⟩ := hx.scn
  refine ok_enter Tryz.func43 rfl Tryz.ntmps43 rfl ?_
  focus (refine gc_seq ?_; refine gc_region ?_; refine gw_boxd (v := .agg _) rfl rfl (fun _ => ?_); refine gM rfl rfl (by conv => (lhs; whnf)) ?_; refine gM rfl rfl (by conv => (lhs; whnf)) ?_; refine gM rfl rfl (by conv => (lhs; whnf)) ?_; refine gO ?_; refine gc_seq ?_; refine gc_seq ?_; refine gc_region ?_; apply gw_d; exact w_load_boxN rfl rfl rfl .here rfl; refine gM rfl rfl (by conv => (lhs; whnf)) ?_; refine gM rfl rfl (by conv => (lhs; whnf)) ?_; apply gw_d; exact w_call rfl rfl (hC _) rfl; refine gM rfl rfl (by conv => (lhs; whnf)) ?_; refine gN ?_; refine gM rfl rfl (by conv => (lhs; whnf)) ?_; refine gC rfl rfl rfl rfl rfl ?_; refine gO ?_)
  refine gc_if_dec rfl (fun h => absurd rfl h) (fun _ => ?_)
  focus (refine gc_skip ?_; refine gx_next ?_; refine gc_seq ?_; refine gc_seq ?_; refine gc_region ?_; refine gM rfl rfl (by conv => (lhs; whnf)) ?_; refine gL rfl rfl rfl ?_; refine gC rfl rfl rfl rfl rfl ?_; refine gO ?_)
  refine gc_if_dec rfl (fun h => ?_) (fun h => by omega)
  focus (refine gc_seq ?_; refine gc_region ?_; refine gM rfl rfl (by conv => (lhs; whnf)) ?_; refine gM rfl rfl (by conv => (lhs; whnf)) ?_; refine gM rfl rfl (by conv => (lhs; whnf)) ?_; refine gO ?_; refine gc_ret ?_; refine gx_then_ret ?_)
  refine gx_ret3 (u := .slice _ _ _) (v := .map _) (x := .int _ _) rfl rfl rfl rfl (fun _ _ => ?_)
  rfl
theorem judgeAll_ok (w : World) (v0 v1 v2 v3 v4 v5 v6 vb vw vx : Value) (e : Int) (l : List Opn) (bs : List Bun) (ws : List Wrk) (xs : List Scn) (hO : ∀ (L : List Res) (w' : World), St w L w' → Ok Tryz.prog 63 [.agg #[v0, v1, v2, v3, v4, v5, v6]].toArray w' fun x _ => x = .int .i64 e)
    (hl : Sl rOp w w.heap.size v6 l) (hb : Sl rBun w w.heap.size vb bs) (hw : Sl rWrk w w.heap.size vw ws) (hx : Sl rScn w w.heap.size vx xs) (hS : Small l) (he : scanE e bs ws = 0) (h300 : ¬ xs.length > 300) :
    OkM Tryz.prog 43 [.agg #[v0, v1, v2, v3, v4, v5, v6], vb, vw, vx].toArray w (fun x : Nat × Nat => .tuple #[.slice (some ⟨x.1, 0, none⟩) xs.length xs.length, .map (some x.2), .int .i64 0]) (fun x => [Box x.1 3 ((outs l ws (ticks bs) [] xs).map (Value.int .i64)).toArray]) := by
  have hC : ∀ (L : List Res) (w' : World), St w L w' → Ok Tryz.prog 53 [.agg #[v0, v1, v2, v3, v4, v5, v6], vb, vw].toArray w' fun x _ => x = .int .i64 0 := fun L w' s => by
    have := scanCheck_ok w' v0 v1 v2 v3 v4 v5 v6 vb vw e bs ws (fun L' w2 s2 => hO [] w2 ⟨s.below.trans (Below.mono s2.below s.below.size), trivial⟩) (hb.later s) (hw.later s)
    rw [he] at this
    exact this
  have hOk := scan_good he
  have htl : (ticks bs).length = bs.length := by simp [ticks]
  obtain ⟨Al, cl, rfl, hlc, hlm⟩ := len_small hl
  obtain ⟨Ab, cb, rfl, hbc, hbm, hbcell⟩ := hb.bun
  obtain ⟨Aw, cw, rfl, hwc, hwm, _⟩ := hw.wrk
  obtain ⟨Ax, cx, rfl, hxc, hxm, hxcell⟩ := hx.scn
  unfold OkM
  refine ok_enter Tryz.func43 rfl Tryz.ntmps43 rfl ?_
  focus (refine gc_seq ?_; refine gc_region ?_; refine gw_boxd (v := .agg _) rfl rfl (fun _ => ?_); refine gM rfl rfl (by conv => (lhs; whnf)) ?_; refine gM rfl rfl (by conv => (lhs; whnf)) ?_; refine gM rfl rfl (by conv => (lhs; whnf)) ?_; refine gO ?_; refine gc_seq ?_; refine gc_seq ?_; refine gc_region ?_; apply gw_d; exact w_load_boxN rfl rfl rfl .here rfl; refine gM rfl rfl (by conv => (lhs; whnf)) ?_; refine gM rfl rfl (by conv => (lhs; whnf)) ?_; apply gw_d; exact w_call rfl rfl (hC _) rfl; refine gM rfl rfl (by conv => (lhs; whnf)) ?_; refine gN ?_; refine gM rfl rfl (by conv => (lhs; whnf)) ?_; refine gC rfl rfl rfl rfl rfl ?_; refine gO ?_)
  rename_i bv
  refine gc_if_dec rfl (fun h => absurd rfl h) (fun _ => ?_)
  focus (refine gc_skip ?_; refine gx_next ?_; refine gc_seq ?_; refine gc_seq ?_; refine gc_region ?_; refine gM rfl rfl (by conv => (lhs; whnf)) ?_; refine gL rfl rfl rfl ?_; refine gC rfl rfl rfl rfl rfl ?_; refine gO ?_)
  refine gc_if_dec rfl (fun h => by omega) (fun _ => ?_)
  focus (refine gc_skip ?_; refine gx_next ?_; refine gc_seq ?_; refine gc_region ?_)
  refine gw_makeMap kInt rfl (fun bm => ?_)
  focus (refine gM rfl rfl (by conv => (lhs; whnf)) ?_; refine gO ?_; refine gc_seq ?_; refine gc_seq ?_; refine gc_region ?_; refine gM rfl rfl (by conv => (lhs; whnf)) ?_; refine gL rfl rfl rfl ?_; refine gM rfl rfl (by conv => (lhs; whnf)) ?_; refine gO ?_; refine gc_block ?_)
  refine gc_ent (coll_nil (F := recF (ticks bs) (fun _ => 0) 130 [])) ?_
  refine gc_loop (σ := Nat × (Nat → Nat)) [33, 34, 35, 14, 36, 37, 38, 39, 40, 41, 32] (fun s => [(32, .int .i64 s.1)]) (fun s => [Coll s.1 (recF (ticks bs) s.2 130 []), MapR bm kInt (mapK (ticks bs) s.2 s.1), Box bv 29 #[v0, v1, v2, v3, v4, v5, .slice Al l.length cl]]) (fun s => s.1 ≤ bs.length) (fun s => bs.length - s.1) (0, fun _ => 0) (Nat.zero_le _) ⟨rfl, trivial⟩ (.cons .here (.cons .here (.cons .here .nil))) ?_
  rintro ⟨k, β⟩ base hk
  dsimp only at hk ⊢
  focus (refine gc_seq ?_; refine gc_region ?_; refine gC rfl rfl rfl rfl rfl ?_; refine gO ?_; refine gc_seq ?_)
  refine gc_if_dec rfl (fun h => ?_) (fun h => ?_)
  · have hlt : k < bs.length := by omega
    obtain ⟨ad, rfl, hbk, hce, h1, h2, h3⟩ := hbcell k hlt
    focus (refine gc_skip ?_; refine gx_next ?_; refine gc_seq ?_; refine gc_block ?_; refine gc_seq ?_; refine gc_region ?_; apply gw_d; exact w_index rfl rfl rfl rfl (by with_reducible exact rfl) (by omega); apply gw_d; exact w_load_elem rfl rfl rfl (by assumption) (by assumption) (by rfl); refine w_alloc rfl (fun _ => ?_); refine w_store_all rfl rfl rfl rfl rfl .here rfl ?_; refine gO ?_; refine gc_region ?_; refine gM rfl rfl (by conv => (lhs; whnf)) ?_; refine gF rfl rfl rfl ?_; apply gw_d; exact w_load_box rfl rfl rfl .here rfl; apply gw_d; exact w_buildP [] (cells := recC [] 0) (by rfl) rfl rfl rfl; refine gw_boxd (v := .agg _) rfl rfl (fun _ => ?_))
    rename_i b1 b2
    refine gw_mapSet (k := bs[k].tick) (v := .pointer (some ⟨b2, 0, none⟩)) intLawC rfl rfl rfl rfl (.there (.there (.there .here))) ?_
    have hmap : aset (mapK (ticks bs) β k) bs[k].tick (.pointer (some ⟨b2, 0, none⟩)) = mapK (ticks bs) (fun i => if i = k then b2 else β i) (k + 1) := by
      show _ = aset (mapK (ticks bs) (fun i => if i = k then b2 else β i) k) (tkAt (ticks bs) k) (ptrAt (fun i => if i = k then b2 else β i) k)
      rw [mapK_congr (β := β) (β' := fun i => if i = k then b2 else β i) k (fun i hi => by rw [if_neg (by omega)]), ticks_at hlt]
      simp [ptrAt]
    rw [hmap]
    focus (refine gw_nil ?_; refine gx_block ?_; refine gx_next ?_; refine gc_region ?_; apply gw_d; exact det_ar rfl rfl rfl rfl rfl (by omega); refine gM rfl rfl (by conv => (lhs; whnf)) ?_; refine gw_nil ?_)
    refine gx_roundE (k + 1, fun i => if i = k then b2 else β i) hlt (by dsimp only; omega) (by repeat (first | exact Keeps.refl | refine Keeps.upd rfl ?_ | refine Keeps.sets rfl ?_ | refine Keeps.havoc rfl ?_)) ⟨rfl, trivial⟩ ?_
    refine Ent.trans (Sub.ent (K := [Box b2 130 (recC [] (tkAt (ticks bs) k)), Coll k (recF (ticks bs) β 130 []), MapR bm kInt (mapK (ticks bs) (fun i => if i = k then b2 else β i) (k + 1)), Box bv 29 #[v0, v1, v2, v3, v4, v5, .slice Al l.length cl]]) (.cons (.there .here) (.cons (.there (.there .here)) (.cons .here (.cons (.there .here) .nil))))) rec_push
  obtain rfl : k = bs.length := by omega
  focus (refine gc_exit ?_; refine gx_then_exit ?_; refine gx_then_exit ?_; refine gx_block_exit ?_; refine gx_next ?_; refine gc_seq ?_; refine gc_region ?_; refine gM rfl rfl (by conv => (lhs; whnf)) ?_; refine gL rfl rfl rfl ?_)
  refine gw_make1 (n := xs.length) rfl rfl rfl rfl rfl (by omega) (by omega) rfl (fun g => ?_)
  rw [show Array.replicate xs.length ((Value.int .i64 0).cells.getD 0 undef) = ((outRow (outs l ws (ticks bs) [] (xs.take 0)) xs.length).map (Value.int .i64)).toArray from by rw [List.take_zero]; show _ = ((outRow [] xs.length).map (Value.int .i64)).toArray; rw [outRow_nil]; exact row_make (Value.int .i64) xs.length 0]
  focus (refine gM rfl rfl (by conv => (lhs; whnf)) ?_; refine gO ?_; refine gc_seq ?_; refine gc_seq ?_; refine gc_region ?_; refine gM rfl rfl (by conv => (lhs; whnf)) ?_; refine gL rfl rfl rfl ?_; refine gM rfl rfl (by conv => (lhs; whnf)) ?_; refine gO ?_; refine gc_block ?_)
  refine gc_loop (σ := Nat) [48, 49, 50, 51, 17, 16, 52, 53, 54, 55, 18, 56, 57, 58, 59, 60, 61, 62, 63, 64, 65, 66, 67, 68, 69, 70, 71, 72, 73, 74, 75, 76, 77, 78, 79, 80, 81, 47] (fun i => [(47, .int .i64 i)]) (fun i => [Box g 3 ((outRow (outs l ws (ticks bs) [] (xs.take i)) xs.length).map (Value.int .i64)).toArray, Coll (ticks bs).length (recF (ticks bs) β 130 (paidL l ws (ticks bs) (xs.take i))), MapR bm kInt (mapK (ticks bs) β (ticks bs).length), Box bv 29 #[v0, v1, v2, v3, v4, v5, .slice Al l.length cl]]) (fun i => i ≤ xs.length) (fun i => xs.length - i) 0 (Nat.zero_le _) ⟨rfl, trivial⟩ (by rw [htl]; exact (.cons .here (.cons .here (.cons .here (.cons .here .nil))))) ?_
  rintro i base2 hi
  focus (refine gc_seq ?_; refine gc_region ?_; refine gC rfl rfl rfl rfl rfl ?_; refine gO ?_; refine gc_seq ?_)
  refine gc_if_dec rfl (fun h2 => ?_) (fun h2 => ?_)
  · have hil : i < xs.length := by omega
    obtain ⟨ad2, rfl, hxk, hcx, x1, x2, x3, x4⟩ := hxcell i hil
    have hol := outs_len l ws (ticks bs) (xs.take i) []
    rw [List.length_take, Nat.min_eq_left (by omega)] at hol
    have hosn := outs_snoc l ws (ticks bs) xs[i] (xs.take i) []
    have hpsn := paidL_snoc l ws (ticks bs) (xs.take i) xs[i]
    rw [← List.take_succ_eq_append_getElem hil] at hosn hpsn
    change _ = _ ++ [outE l ws (ticks bs) (paidL l ws (ticks bs) (xs.take i)) xs[i]] at hosn
    generalize paidL l ws (ticks bs) (xs.take i) = ps at *
    generalize outs l ws (ticks bs) [] (xs.take i) = os at *
    have hrl := outRow_len (l := os) (n := xs.length) (by omega)
    generalize xs[i] = x at *
    focus (refine gc_skip ?_; refine gx_next ?_; refine gc_seq ?_; refine gc_block ?_; refine gc_seq ?_; refine gc_region ?_; refine gM rfl rfl (by conv => (lhs; whnf)) ?_; apply gw_d; exact w_index rfl rfl rfl rfl (by with_reducible exact rfl) (by omega); apply gw_d; exact w_load_elem rfl rfl rfl (by assumption) (by assumption) (by rfl); refine w_alloc rfl (fun _ => ?_); refine gM rfl rfl (by conv => (lhs; whnf)) ?_; refine w_store_all rfl rfl rfl rfl rfl .here rfl ?_; refine gN ?_; refine gM rfl rfl (by conv => (lhs; whnf)) ?_; refine gF rfl rfl rfl ?_; apply gw_d; exact w_load_box rfl rfl rfl .here rfl)
    rename_i bx
    have hset : ∀ v : Int, (outRow os xs.length).set i v = outRow (os ++ [v]) xs.length := fun v => by
      have := outRow_set (l := os) (n := xs.length) (by omega) v
      rw [hol] at this
      exact this
    have hgot : ∀ v : Int, (((outRow (os ++ [v]) xs.length).map (Value.int .i64)).toArray)[i * 1]? = some (.int .i64 v) := fun v => by
      rw [← hset v, row_get (Value.int .i64) 0 (by rw [List.length_set]; omega)]
      simp [hrl, hil]
    cases hT : hasB (ticks bs) x.tick with
    | false =>
      have hget := mapK_none (β := β) (ticks bs).length (tk_not hT)
      have hE : outE l ws (ticks bs) ps x = 3 := by unfold outE; rw [if_pos hT]
      have hN : nextP l ws (ticks bs) ps x = ps := by unfold nextP; rw [hE]; rfl
      rw [hE] at hosn
      rw [hN] at hpsn
      focus (apply gw_d; exact det_eq (c' := .pointer none) (w_lookup (k := x.tick) intLawC rfl rfl rfl rfl (.there (.there (.there .here)))) (by rw [hget]; rfl); refine gM rfl rfl (by conv => (lhs; whnf)) ?_; refine gN ?_; refine gM rfl rfl (by conv => (lhs; whnf)) ?_; refine gM rfl rfl (by conv => (lhs; whnf)) ?_; refine gF rfl rfl rfl ?_; apply gw_d; exact w_load_box rfl rfl rfl (.there (.there (.there (.there .here)))) rfl; refine gM rfl rfl (by conv => (lhs; whnf)) ?_; refine gM rfl rfl (by conv => (lhs; whnf)) ?_; apply gw_d; exact w_load_boxN rfl rfl rfl .here rfl; apply gw_d; exact w_call rfl rfl (fun w' _ => judge_nil w' _ _ x) rfl; apply gw_d; exact w_index rfl rfl rfl rfl (by with_reducible exact rfl) (by omega))
      refine w_store_row (n := 1) (v := .int .i64 3) rfl rfl rfl rfl rfl (.there .here) (by simp; omega) (row_set (Value.int .i64) (by omega) _) ?_
      rw [hset 3]
      focus (refine gN ?_; refine gM rfl rfl (by conv => (lhs; whnf)) ?_; refine gM rfl rfl (by conv => (lhs; whnf)) ?_; apply gw_d; exact w_index rfl rfl rfl rfl (by with_reducible exact rfl) (by omega); apply gw_d; exact w_load_row rfl rfl rfl .here (hgot 3); refine gC rfl rfl rfl rfl rfl ?_; refine gO ?_)
      refine gc_if_dec rfl (fun h => absurd h (by decide)) (fun _ => ?_)
      focus (refine gc_skip ?_; refine gx_block ?_; refine gx_next ?_; refine gc_region ?_; apply gw_d; exact det_ar rfl rfl rfl rfl rfl (by omega); refine gM rfl rfl (by conv => (lhs; whnf)) ?_; refine gw_nil ?_)
      refine gx_round (i + 1) hil (by omega) (by repeat (first | exact Keeps.refl | refine Keeps.upd rfl ?_ | refine Keeps.sets rfl ?_ | refine Keeps.havoc rfl ?_)) ⟨rfl, trivial⟩ ?_
      rw [hosn, hpsn]
      exact .cons .here (.cons (.there .here) (.cons (.there .here) (.cons (.there .here) .nil)))
    | true =>
      obtain ⟨j, hj, hjt⟩ := tk_has hT
      have hget := mapK_old (β := β) hOk.tix (ticks bs).length (Nat.le_refl _) j hj
      rw [hjt] at hget
      have hE : outE l ws (ticks bs) ps x = judgeE l ws ps x := by unfold outE; rw [if_neg (by rw [hT]; decide)]
      focus (apply gw_d; exact det_eq (c' := .pointer (some ⟨β j, 0, none⟩)) (w_lookup (k := x.tick) intLawC rfl rfl rfl rfl (.there (.there (.there .here)))) (by rw [hget]; rfl); refine gM rfl rfl (by conv => (lhs; whnf)) ?_; refine gN ?_; refine gM rfl rfl (by conv => (lhs; whnf)) ?_; refine gM rfl rfl (by conv => (lhs; whnf)) ?_; refine gF rfl rfl rfl ?_; apply gw_d; exact w_load_box rfl rfl rfl (.there (.there (.there (.there .here)))) rfl; refine gM rfl rfl (by conv => (lhs; whnf)) ?_; refine gM rfl rfl (by conv => (lhs; whnf)) ?_; apply gw_d; exact w_load_boxN rfl rfl rfl .here rfl; apply gw_d; exact w_call rfl rfl (fun w' s => judge_ok w' (.slice Al l.length cl) (.slice Aw ws.length cw) (β j) 130 l ws ps x (hl.later s) (hw.later s) hS (by have h9 := (s.pick (.there (.there .here))).head.1 j hj; unfold recF at h9; rw [hjt] at h9; exact h9)) rfl; apply gw_d; exact w_index rfl rfl rfl rfl (by with_reducible exact rfl) (by omega))
      refine w_store_row (n := 1) (v := .int .i64 (judgeE l ws ps x)) rfl rfl rfl rfl rfl (.there .here) (by simp; omega) (row_set (Value.int .i64) (by omega) _) ?_
      rw [hset]
      rw [hE] at hosn
      focus (refine gN ?_; refine gM rfl rfl (by conv => (lhs; whnf)) ?_; refine gM rfl rfl (by conv => (lhs; whnf)) ?_; apply gw_d; exact w_index rfl rfl rfl rfl (by with_reducible exact rfl) (by omega); apply gw_d; exact w_load_row rfl rfl rfl .here (hgot _); refine gC rfl rfl rfl rfl rfl ?_; refine gO ?_)
      refine gc_if_dec rfl (fun h1 => ?_) (fun h1 => ?_)
      · have hN : nextP l ws (ticks bs) ps x = ps ++ [x] := by unfold nextP; rw [hE, if_pos h1]
        rw [hN] at hpsn
        have hkn : 0 ≤ x.op ∧ x.op < l.length := by
          unfold judgeE at h1
          split at h1
          · cases h1
          · rename_i h9
            have : knownB l ws x = true := by simpa using h9
            unfold knownB at this
            have := of_decide_eq_true this
            exact ⟨this.1, this.2.1⟩
        obtain ⟨o, ho⟩ : ∃ o : Nat, x.op = (o : Int) := ⟨x.op.toNat, by omega⟩
        have ho16 : o < 16 := by have := hS.1; omega
        have hrs := recC_size ps x.tick
        refine gc_ent (Ent.trans (Sub.ent (K := [Coll (ticks bs).length (recF (ticks bs) β 130 ps), Box g 3 ((outRow (os ++ [judgeE l ws ps x]) xs.length).map (Value.int .i64)).toArray, Box bx 51 #[.int .i64 x.tick, .int .i64 x.op, .int .i64 x.who, .int .i64 x.time], MapR bm kInt (mapK (ticks bs) β (ticks bs).length), Box bv 29 #[v0, v1, v2, v3, v4, v5, .slice Al l.length cl]]) (.cons (.there (.there .here)) (.cons .here (.cons .here (.cons .here (.cons .here .nil)))))) (rec_take hj)) ?_
        rw [hjt]
        refine gc_seq ?_
        refine gc_block_draw Nat 5 (fun i => ([[], [], [1], [0], [0, 3]] : List (List Nat)).getD i []) rfl (by kernel_rfl) ?_
        focus (apply gb_d; (intro γ; exact det_m rfl rfl (by conv => (lhs; whnf))); (intros; rfl); (intros; rfl); apply gb_d; (intro γ; exact w_field rfl rfl rfl); (intros; rfl); (intros; rfl); apply gb_d; (intro γ; exact w_load_box rfl rfl rfl (.there (.there (.there .here))) rfl); (intros; rfl); (intros; rfl); apply gb_d; (intro γ; exact w_nilcheck rfl rfl rfl); (intros; rfl); (intros; rfl); apply gb_d; (intro γ; exact w_field rfl rfl rfl); (intros; rfl); (intros; rfl))
        refine GB.nil (fun _ => ?_)
        focus (apply gw_d; exact w_index_arr (m := o) rfl rfl rfl rfl ho ho16)
        refine w_store_row (b := β j) (bt := 130) (cs := recC ps x.tick) (n := 1) (v := .bool true) (i := 0 + o * 1) (cs' := ((recC ps x.tick).toList.set o (.bool true)).toArray) rfl (congrArg (fun x => Value.pointer (some x)) (add_add ⟨β j, 0, none⟩ 0 (o * 1))) rfl rfl rfl .here (by omega) (by rw [Nat.zero_add, Nat.mul_one]; exact set_row (by omega) rfl) ?_
        focus (refine gO ?_; refine gc_region ?_; refine gM rfl rfl (by conv => (lhs; whnf)) ?_; refine gF rfl rfl rfl ?_; apply gw_d; exact w_load_box rfl rfl rfl (.there (.there (.there .here))) rfl; apply gw_d; exact w_nilcheck rfl rfl rfl; refine gF rfl rfl rfl ?_)
        refine w_store_row (b := β j) (bt := 130) (cs := ((recC ps x.tick).toList.set o (.bool true)).toArray) (n := 1) (v := .int .i64 x.time) (i := 16) (cs' := recC (ps ++ [x]) x.tick) rfl rfl rfl rfl rfl .here (by simp; omega) (by rw [set_row (by simp; omega) rfl]; show (((recC ps x.tick).toList.set o (.bool true)).set 16 (.int .i64 x.time)).toArray = _; rw [recC_pay ps x ho ho16]) ?_
        focus (refine gw_nil ?_; refine gx_block ?_; refine gx_next ?_; refine gc_region ?_; apply gw_d; exact det_ar rfl rfl rfl rfl rfl (by omega); refine gM rfl rfl (by conv => (lhs; whnf)) ?_; refine gw_nil ?_)
        refine gx_roundE (i + 1) hil (by omega) (by repeat (first | exact Keeps.refl | refine Keeps.upd rfl ?_ | refine Keeps.sets rfl ?_ | refine Keeps.havoc rfl ?_)) ⟨rfl, trivial⟩ ?_
        rw [hosn, hpsn]
        exact Ent.trans (rec_put hOk.tix hj hjt) (Sub.ent (.cons (.there .here) (.cons .here (.cons (.there .here) (.cons (.there .here) .nil)))))
      · have hN : nextP l ws (ticks bs) ps x = ps := by unfold nextP; rw [hE, if_neg h1]
        rw [hN] at hpsn
        focus (refine gc_skip ?_; refine gx_block ?_; refine gx_next ?_; refine gc_region ?_; apply gw_d; exact det_ar rfl rfl rfl rfl rfl (by omega); refine gM rfl rfl (by conv => (lhs; whnf)) ?_; refine gw_nil ?_)
        refine gx_round (i + 1) hil (by omega) (by repeat (first | exact Keeps.refl | refine Keeps.upd rfl ?_ | refine Keeps.sets rfl ?_ | refine Keeps.havoc rfl ?_)) ⟨rfl, trivial⟩ ?_
        rw [hosn, hpsn]
        exact .cons .here (.cons (.there .here) (.cons (.there .here) (.cons (.there .here) .nil)))
  · obtain rfl : i = xs.length := by omega
    rw [List.take_length]
    have hol := outs_len l ws (ticks bs) xs []
    have hrow : outRow (outs l ws (ticks bs) [] xs) xs.length = outs l ws (ticks bs) [] xs := by
      have := outRow_full (l := outs l ws (ticks bs) [] xs)
      rw [hol] at this
      exact this
    rw [hrow]
    focus (refine gc_exit ?_; refine gx_then_exit ?_; refine gx_then_exit ?_; refine gx_block_exit ?_; refine gx_next ?_; refine gc_seq ?_; refine gc_region ?_; refine gM rfl rfl (by conv => (lhs; whnf)) ?_; refine gM rfl rfl (by conv => (lhs; whnf)) ?_; refine gM rfl rfl (by conv => (lhs; whnf)) ?_; refine gM rfl rfl (by conv => (lhs; whnf)) ?_; refine gM rfl rfl (by conv => (lhs; whnf)) ?_; refine gO ?_; refine gc_ret ?_)
    exact gx_ret3 (u := .slice _ _ _) (v := .map _) (x := .int _ _) rfl rfl rfl rfl (fun w' s => ⟨(g, bm), rfl, (St.sub (K := [Box g 3 ((outs l ws (ticks bs) [] xs).map (Value.int .i64)).toArray]) (.cons .here .nil) s).sep⟩)
end Go.Proofs.YtckhibfbdnoigaaGreatDoor

/- Contracts: tariffs and amounts, of the program and of the chapter. -/
namespace Go.Proofs.YtckhibfbdnoigaaGreatDoor
open Go.RowKit
set_option maxRecDepth 100000
set_option maxHeartbeats 2000000

/-- What the package-level variable holds. -/
def Lay (w : World) : Prop := 0 < w.heap.size ∧ w.cell? ((⟨0, 0, none⟩ : Addr).add (0 * 1)) = some (.int .i64 100000) ∧ w.cell? ((⟨0, 0, none⟩ : Addr).add (1 * 1)) = some (.int .i64 1073741824)
theorem Lay.later {w0 w : World} {L : List Res} (s : St w0 L w) (h : Lay w0) : Lay w := by
  have hb := s.below.block _ h.1
  exact ⟨Nat.lt_of_lt_of_le h.1 s.below.size, (cell_same (by rw [add_block]; exact hb)).trans h.2.1, (cell_same (by rw [add_block]; exact hb)).trans h.2.2⟩
def tarV (r l : Int) : Value := .agg #[.int .i64 r, .int .i64 l]
def tarE (r l : Int) : Int := if (r < 0 ∨ r > 100000) ∨ (l < 0 ∨ l > 1073741824) then 3 else 0
theorem wCheck_ok (w : World) (r l : Int) (hL : Lay w) : Ok Tryz.prog 9 [tarV r l].toArray w fun x _ => x = .int .i64 (tarE r l) := by
  obtain ⟨hLb, hL0, hL1⟩ := hL
  have hLb' : ((⟨0, 0, none⟩ : Addr)).block < w.heap.size := hLb
  unfold tarV
  refine ok_enter Tryz.func9 rfl Tryz.ntmps9 rfl ?_
  focus (refine gc_seq ?_; refine gc_region ?_; refine gw_boxd (v := .agg _) rfl rfl (fun _ => ?_); refine gM rfl rfl (by conv => (lhs; whnf)) ?_; refine gO ?_; refine gc_seq ?_; refine gc_seq ?_; refine gc_region ?_; refine gF rfl rfl rfl ?_; apply gw_d; exact w_load_box rfl rfl rfl .here rfl; refine gF rfl rfl rfl ?_; apply gw_d; exact w_load_box rfl rfl rfl .here rfl; apply gw_d; exact w_buildA (n := 2) (el := 3) (sz := 1) (cells := #[.int .i64 r, .int .i64 l]) (by kernel_rfl) (by kernel_rfl) rfl rfl (by rfl); refine gM rfl rfl (by conv => (lhs; whnf)) ?_; refine gO ?_; refine gc_block ?_)
  refine gc_loopK (σ := Nat) [11, 12, 13, 3, 4, 14, 15, 16, 17, 18, 19, 20, 21, 22, 2, 23, 10] (fun k => [(10, .int .i64 k)]) (fun k => k ≤ 2 ∧ (1 ≤ k → ¬ (r < 0 ∨ r > 100000)) ∧ (2 ≤ k → ¬ (l < 0 ∨ l > 1073741824))) (fun k => 2 - k) 0 ⟨by omega, by omega, by omega⟩ ⟨rfl, trivial⟩ ?_
  rintro k base ⟨hk, h1, h2⟩
  obtain rfl | rfl | rfl : k = 0 ∨ k = 1 ∨ k = 2 := by omega
  · focus (refine gc_seq ?_; refine gc_region ?_; refine gC rfl rfl rfl rfl rfl ?_; refine gO ?_; refine gc_seq ?_; refine gc_if_dec rfl (fun _ => ?_) (fun _ => ?_); refine gc_skip ?_; refine gx_next ?_; refine gc_seq ?_; refine gc_block ?_; refine gc_seq ?_; refine gc_region ?_; refine gM rfl rfl (by conv => (lhs; whnf)) ?_; apply gw_d; exact w_aidx (n := 2) (el := 3) (m := 0) (v := .int .i64 r) (by kernel_rfl) (by kernel_rfl) (by kernel_rfl) rfl rfl rfl rfl rfl (by decide) rfl; refine gM rfl rfl (by conv => (lhs; whnf)) ?_; refine gM rfl rfl (by conv => (lhs; whnf)) ?_; refine gN ?_; refine gM rfl rfl (by conv => (lhs; whnf)) ?_; refine gC rfl rfl rfl rfl rfl ?_; refine gM rfl rfl (by conv => (lhs; whnf)) ?_; refine gw_guard_dec rfl rfl (fun _ => ?_) (fun _ => ?_); refine gU rfl ?_; refine gU rfl ?_; refine gU rfl ?_; refine gU rfl ?_; refine gU rfl ?_; apply gw_d; exact det_pick_t (v := .bool _) rfl rfl rfl rfl; refine gO ?_; refine gc_if_true rfl ?_; refine gc_seq ?_; refine gc_region ?_; refine gM rfl rfl (by conv => (lhs; whnf)) ?_; refine gO ?_; refine gc_ret ?_; refine gx_block_ret ?_; refine gx_then_ret ?_; refine gx_then_ret ?_; refine gx_block_ret ?_; refine gx_then_ret ?_; rotate_left; refine gM rfl rfl (by conv => (lhs; whnf)) ?_; refine gM rfl rfl (by conv => (lhs; whnf)) ?_; apply gw_d; exact w_index_arr (m := 0) rfl rfl rfl rfl rfl (by decide); apply gw_d; exact w_load_at rfl rfl rfl (by assumption) (by assumption); refine gC rfl rfl rfl rfl rfl ?_; apply gw_d; exact det_pick_f (v := .bool _) rfl rfl rfl rfl; refine gO ?_; refine gc_if_dec rfl (fun _ => ?_) (fun _ => ?_); refine gc_seq ?_; refine gc_region ?_; refine gM rfl rfl (by conv => (lhs; whnf)) ?_; refine gO ?_; refine gc_ret ?_; refine gx_block_ret ?_; refine gx_then_ret ?_; refine gx_then_ret ?_; refine gx_block_ret ?_; refine gx_then_ret ?_; rotate_left; refine gc_skip ?_; refine gx_block ?_; refine gx_next ?_; refine gc_region ?_; apply gw_d; exact det_ar rfl rfl rfl rfl rfl (by omega); refine gM rfl rfl (by conv => (lhs; whnf)) ?_; refine gw_nil ?_; rotate_left; refine gc_exit ?_; refine gx_then_exit ?_; refine gx_then_exit ?_; refine gx_block_exit ?_; refine gx_next ?_; refine gc_seq ?_; refine gc_region ?_; refine gM rfl rfl (by conv => (lhs; whnf)) ?_; refine gO ?_; refine gc_ret ?_; rotate_left)
    all_goals first | (exfalso; omega) | skip
    · refine gx_ret1 (v := .int _ _) rfl rfl (fun _ _ => ?_)
      unfold tarE
      rw [if_pos (by omega)]
    · refine gx_ret1 (v := .int _ _) rfl rfl (fun _ _ => ?_)
      unfold tarE
      rw [if_pos (by omega)]
    · exact gx_round 1 ⟨by omega, by omega, by omega⟩ (by omega) (by repeat (first | exact Keeps.refl | refine Keeps.upd rfl ?_ | refine Keeps.sets rfl ?_ | refine Keeps.havoc rfl ?_)) ⟨rfl, trivial⟩ (Sub.all _)
  · focus (refine gc_seq ?_; refine gc_region ?_; refine gC rfl rfl rfl rfl rfl ?_; refine gO ?_; refine gc_seq ?_; refine gc_if_dec rfl (fun _ => ?_) (fun _ => ?_); refine gc_skip ?_; refine gx_next ?_; refine gc_seq ?_; refine gc_block ?_; refine gc_seq ?_; refine gc_region ?_; refine gM rfl rfl (by conv => (lhs; whnf)) ?_; apply gw_d; exact w_aidx (n := 2) (el := 3) (m := 1) (v := .int .i64 l) (by kernel_rfl) (by kernel_rfl) (by kernel_rfl) rfl rfl rfl rfl rfl (by decide) rfl; refine gM rfl rfl (by conv => (lhs; whnf)) ?_; refine gM rfl rfl (by conv => (lhs; whnf)) ?_; refine gN ?_; refine gM rfl rfl (by conv => (lhs; whnf)) ?_; refine gC rfl rfl rfl rfl rfl ?_; refine gM rfl rfl (by conv => (lhs; whnf)) ?_; refine gw_guard_dec rfl rfl (fun _ => ?_) (fun _ => ?_); refine gU rfl ?_; refine gU rfl ?_; refine gU rfl ?_; refine gU rfl ?_; refine gU rfl ?_; apply gw_d; exact det_pick_t (v := .bool _) rfl rfl rfl rfl; refine gO ?_; refine gc_if_true rfl ?_; refine gc_seq ?_; refine gc_region ?_; refine gM rfl rfl (by conv => (lhs; whnf)) ?_; refine gO ?_; refine gc_ret ?_; refine gx_block_ret ?_; refine gx_then_ret ?_; refine gx_then_ret ?_; refine gx_block_ret ?_; refine gx_then_ret ?_; rotate_left; refine gM rfl rfl (by conv => (lhs; whnf)) ?_; refine gM rfl rfl (by conv => (lhs; whnf)) ?_; apply gw_d; exact w_index_arr (m := 1) rfl rfl rfl rfl rfl (by decide); apply gw_d; exact w_load_at rfl rfl rfl (by assumption) (by assumption); refine gC rfl rfl rfl rfl rfl ?_; apply gw_d; exact det_pick_f (v := .bool _) rfl rfl rfl rfl; refine gO ?_; refine gc_if_dec rfl (fun _ => ?_) (fun _ => ?_); refine gc_seq ?_; refine gc_region ?_; refine gM rfl rfl (by conv => (lhs; whnf)) ?_; refine gO ?_; refine gc_ret ?_; refine gx_block_ret ?_; refine gx_then_ret ?_; refine gx_then_ret ?_; refine gx_block_ret ?_; refine gx_then_ret ?_; rotate_left; refine gc_skip ?_; refine gx_block ?_; refine gx_next ?_; refine gc_region ?_; apply gw_d; exact det_ar rfl rfl rfl rfl rfl (by omega); refine gM rfl rfl (by conv => (lhs; whnf)) ?_; refine gw_nil ?_; rotate_left; refine gc_exit ?_; refine gx_then_exit ?_; refine gx_then_exit ?_; refine gx_block_exit ?_; refine gx_next ?_; refine gc_seq ?_; refine gc_region ?_; refine gM rfl rfl (by conv => (lhs; whnf)) ?_; refine gO ?_; refine gc_ret ?_; rotate_left)
    all_goals first | (exfalso; omega) | skip
    · refine gx_ret1 (v := .int _ _) rfl rfl (fun _ _ => ?_)
      unfold tarE
      rw [if_pos (by omega)]
    · refine gx_ret1 (v := .int _ _) rfl rfl (fun _ _ => ?_)
      unfold tarE
      rw [if_pos (by omega)]
    · exact gx_round 2 ⟨by omega, by omega, by omega⟩ (by omega) (by repeat (first | exact Keeps.refl | refine Keeps.upd rfl ?_ | refine Keeps.sets rfl ?_ | refine Keeps.havoc rfl ?_)) ⟨rfl, trivial⟩ (Sub.all _)
  · focus (refine gc_seq ?_; refine gc_region ?_; refine gC rfl rfl rfl rfl rfl ?_; refine gO ?_; refine gc_seq ?_; refine gc_if_dec rfl (fun _ => ?_) (fun _ => ?_); refine gc_skip ?_; refine gx_next ?_; refine gc_seq ?_; refine gc_block ?_; refine gc_seq ?_; refine gc_region ?_; refine gM rfl rfl (by conv => (lhs; whnf)) ?_; rotate_left; refine gc_exit ?_; refine gx_then_exit ?_; refine gx_then_exit ?_; refine gx_block_exit ?_; refine gx_next ?_; refine gc_seq ?_; refine gc_region ?_; refine gM rfl rfl (by conv => (lhs; whnf)) ?_; refine gO ?_; refine gc_ret ?_; rotate_left)
    all_goals first | (exfalso; omega) | skip
    refine gx_ret1 (v := .int _ _) rfl rfl (fun _ _ => ?_)
    unfold tarE
    rw [if_neg (by omega)]
def amtE (r l m c : Int) : Int := if ¬ tarE r l = 0 then tarE r l else if (m < 0 ∨ m > 10000) ∨ (c < 0 ∨ c > 1000) then 3 else 0
def amtV (r l m c : Int) : Int := if amtE r l m c = 0 then (m * c * r + 5000) / 10000 else 0
theorem tar_zero {r l : Int} (h : tarE r l = 0) : (0 ≤ r ∧ r ≤ 100000) ∧ (0 ≤ l ∧ l ≤ 1073741824) := by
  unfold tarE at h
  split at h
  · cases h
  · omega
theorem amt_zero {r l m c : Int} (h : amtE r l m c = 0) : tarE r l = 0 ∧ (0 ≤ m ∧ m ≤ 10000) ∧ (0 ≤ c ∧ c ≤ 1000) := by
  unfold amtE at h
  split at h
  · rename_i h1; exact absurd h h1
  · rename_i h1
    split at h
    · cases h
    · exact ⟨by simpa using h1, by omega⟩
theorem mul_le {a b A B : Int} (ha : 0 ≤ a) (hA : a ≤ A) (hb : 0 ≤ b) (hB : b ≤ B) : 0 ≤ a * b ∧ a * b ≤ A * B := ⟨Int.mul_nonneg ha hb, Int.le_trans (Int.mul_le_mul_of_nonneg_right hA hb) (Int.mul_le_mul_of_nonneg_left hB (by omega))⟩
theorem amt_range {r l m c : Int} (h : amtE r l m c = 0) : (0 ≤ m * c ∧ m * c ≤ 10000000) ∧ (0 ≤ m * c * r ∧ m * c * r ≤ 1000000000000) := by
  obtain ⟨h1, h2, h3⟩ := amt_zero h
  obtain ⟨h4, _⟩ := tar_zero h1
  have a := mul_le h2.1 h2.2 h3.1 h3.2
  have b := mul_le a.1 a.2 h4.1 h4.2
  exact ⟨by omega, by omega⟩
theorem wAmount_ok (w : World) (r l m c : Int) (hL : Lay w) : Ok Tryz.prog 11 [tarV r l, .int .i64 m, .int .i64 c].toArray w fun x _ => x = .tuple #[.int .i64 (amtV r l m c), .int .i64 (amtE r l m c)] := by
  have hC : ∀ (L : List Res) (w' : World), St w L w' → Ok Tryz.prog 9 [tarV r l].toArray w' fun x _ => x = .int .i64 (tarE r l) := fun L w' s => wCheck_ok w' r l (hL.later s)
  by_cases he : amtE r l m c = 0
  · obtain ⟨h1, h2, h3⟩ := amt_zero he
    obtain ⟨r1, r2⟩ := amt_range he
    rw [h1] at hC
    unfold amtV
    rw [if_pos he, he]
    unfold tarV at hC ⊢
    refine ok_enter Tryz.func11 rfl Tryz.ntmps11 rfl ?_
    focus (refine gc_seq ?_; refine gc_region ?_; refine gw_boxd (v := .agg _) rfl rfl (fun _ => ?_); refine gM rfl rfl (by conv => (lhs; whnf)) ?_; refine gM rfl rfl (by conv => (lhs; whnf)) ?_; refine gO ?_; refine gc_seq ?_; refine gc_seq ?_; refine gc_region ?_; apply gw_d; exact w_load_boxN rfl rfl rfl .here rfl; apply gw_d; exact w_call rfl rfl (hC _) rfl; refine gM rfl rfl (by conv => (lhs; whnf)) ?_; refine gN ?_; refine gM rfl rfl (by conv => (lhs; whnf)) ?_; refine gC rfl rfl rfl rfl rfl ?_; refine gO ?_; refine gc_if_dec rfl (fun _ => ?_) (fun _ => ?_); refine gc_seq ?_; refine gc_region ?_; refine gM rfl rfl (by conv => (lhs; whnf)) ?_; refine gM rfl rfl (by conv => (lhs; whnf)) ?_; refine gM rfl rfl (by conv => (lhs; whnf)) ?_; refine gO ?_; refine gc_ret ?_; refine gx_then_ret ?_; rotate_left; refine gc_skip ?_; refine gx_next ?_; refine gc_seq ?_; refine gc_seq ?_; refine gc_region ?_; refine gM rfl rfl (by conv => (lhs; whnf)) ?_; refine gC rfl rfl rfl rfl rfl ?_; refine gM rfl rfl (by conv => (lhs; whnf)) ?_; refine gw_guard_dec rfl rfl (fun _ => ?_) (fun _ => ?_); refine gU rfl ?_; refine gU rfl ?_; apply gw_d; exact det_pick_t (v := .bool _) rfl rfl rfl rfl; refine gM rfl rfl (by conv => (lhs; whnf)) ?_; refine gU rfl ?_; refine gU rfl ?_; apply gw_d; exact det_pick_t (v := .bool _) rfl rfl rfl rfl; refine gM rfl rfl (by conv => (lhs; whnf)) ?_; refine gU rfl ?_; refine gU rfl ?_; apply gw_d; exact det_pick_t (v := .bool _) rfl rfl rfl rfl; refine gO ?_; refine gc_if_true rfl ?_; refine gc_seq ?_; refine gc_region ?_; refine gM rfl rfl (by conv => (lhs; whnf)) ?_; refine gM rfl rfl (by conv => (lhs; whnf)) ?_; refine gO ?_; refine gc_ret ?_; refine gx_then_ret ?_; rotate_left; refine gM rfl rfl (by conv => (lhs; whnf)) ?_; refine gC rfl rfl rfl rfl rfl ?_; apply gw_d; exact det_pick_f (v := .bool _) rfl rfl rfl rfl; refine gM rfl rfl (by conv => (lhs; whnf)) ?_; refine gw_guard_dec rfl rfl (fun _ => ?_) (fun _ => ?_); refine gU rfl ?_; refine gU rfl ?_; apply gw_d; exact det_pick_t (v := .bool _) rfl rfl rfl rfl; refine gM rfl rfl (by conv => (lhs; whnf)) ?_; refine gU rfl ?_; refine gU rfl ?_; apply gw_d; exact det_pick_t (v := .bool _) rfl rfl rfl rfl; refine gO ?_; refine gc_if_true rfl ?_; refine gc_seq ?_; refine gc_region ?_; refine gM rfl rfl (by conv => (lhs; whnf)) ?_; refine gM rfl rfl (by conv => (lhs; whnf)) ?_; refine gO ?_; refine gc_ret ?_; refine gx_then_ret ?_; rotate_left; refine gM rfl rfl (by conv => (lhs; whnf)) ?_; refine gC rfl rfl rfl rfl rfl ?_; apply gw_d; exact det_pick_f (v := .bool _) rfl rfl rfl rfl; refine gM rfl rfl (by conv => (lhs; whnf)) ?_; refine gw_guard_dec rfl rfl (fun _ => ?_) (fun _ => ?_); refine gU rfl ?_; refine gU rfl ?_; apply gw_d; exact det_pick_t (v := .bool _) rfl rfl rfl rfl; refine gO ?_; refine gc_if_true rfl ?_; refine gc_seq ?_; refine gc_region ?_; refine gM rfl rfl (by conv => (lhs; whnf)) ?_; refine gM rfl rfl (by conv => (lhs; whnf)) ?_; refine gO ?_; refine gc_ret ?_; refine gx_then_ret ?_; rotate_left; refine gM rfl rfl (by conv => (lhs; whnf)) ?_; refine gC rfl rfl rfl rfl rfl ?_; apply gw_d; exact det_pick_f (v := .bool _) rfl rfl rfl rfl; refine gO ?_; refine gc_if_dec rfl (fun _ => ?_) (fun _ => ?_); refine gc_seq ?_; refine gc_region ?_; refine gM rfl rfl (by conv => (lhs; whnf)) ?_; refine gM rfl rfl (by conv => (lhs; whnf)) ?_; refine gO ?_; refine gc_ret ?_; refine gx_then_ret ?_; rotate_left; refine gc_skip ?_; refine gx_next ?_; refine gc_seq ?_; refine gc_region ?_; refine gM rfl rfl (by conv => (lhs; whnf)) ?_; refine gM rfl rfl (by conv => (lhs; whnf)) ?_; apply gw_d; exact det_ar rfl rfl rfl rfl rfl (by omega); refine gF rfl rfl rfl ?_; apply gw_d; exact w_load_box rfl rfl rfl .here rfl; apply gw_d; exact det_ar rfl rfl rfl rfl rfl (by omega); apply gw_d; exact det_ar rfl rfl rfl rfl rfl (by omega); apply gw_d; exact det_quo rfl rfl rfl rfl (by omega) (by omega) (by omega); refine gM rfl rfl (by conv => (lhs; whnf)) ?_; refine gM rfl rfl (by conv => (lhs; whnf)) ?_; refine gO ?_; refine gc_ret ?_; rotate_left)
    all_goals first | (exfalso; omega) | skip
    refine gx_ret2 (u := .int _ _) (v := .int _ _) rfl rfl rfl (fun _ _ => ?_)
    rfl
  · unfold amtV
    rw [if_neg he]
    by_cases h1 : tarE r l = 0
    · have hE : amtE r l m c = 3 ∧ ((m < 0 ∨ m > 10000) ∨ (c < 0 ∨ c > 1000)) := by
        unfold amtE at he ⊢
        rw [if_neg (by rw [h1]; decide)] at he ⊢
        split
        · rename_i h2; exact ⟨rfl, h2⟩
        · rename_i h2; rw [if_neg h2] at he; exact absurd rfl he
      rw [hE.1]
      have h2 := hE.2
      rw [h1] at hC
      unfold tarV at hC ⊢
      refine ok_enter Tryz.func11 rfl Tryz.ntmps11 rfl ?_
      focus (refine gc_seq ?_; refine gc_region ?_; refine gw_boxd (v := .agg _) rfl rfl (fun _ => ?_); refine gM rfl rfl (by conv => (lhs; whnf)) ?_; refine gM rfl rfl (by conv => (lhs; whnf)) ?_; refine gO ?_; refine gc_seq ?_; refine gc_seq ?_; refine gc_region ?_; apply gw_d; exact w_load_boxN rfl rfl rfl .here rfl; apply gw_d; exact w_call rfl rfl (hC _) rfl; refine gM rfl rfl (by conv => (lhs; whnf)) ?_; refine gN ?_; refine gM rfl rfl (by conv => (lhs; whnf)) ?_; refine gC rfl rfl rfl rfl rfl ?_; refine gO ?_; refine gc_if_dec rfl (fun _ => ?_) (fun _ => ?_); refine gc_seq ?_; refine gc_region ?_; refine gM rfl rfl (by conv => (lhs; whnf)) ?_; refine gM rfl rfl (by conv => (lhs; whnf)) ?_; refine gM rfl rfl (by conv => (lhs; whnf)) ?_; refine gO ?_; refine gc_ret ?_; refine gx_then_ret ?_; rotate_left; refine gc_skip ?_; refine gx_next ?_; refine gc_seq ?_; refine gc_seq ?_; refine gc_region ?_; refine gM rfl rfl (by conv => (lhs; whnf)) ?_; refine gC rfl rfl rfl rfl rfl ?_; refine gM rfl rfl (by conv => (lhs; whnf)) ?_; refine gw_guard_dec rfl rfl (fun _ => ?_) (fun _ => ?_); refine gU rfl ?_; refine gU rfl ?_; apply gw_d; exact det_pick_t (v := .bool _) rfl rfl rfl rfl; refine gM rfl rfl (by conv => (lhs; whnf)) ?_; refine gU rfl ?_; refine gU rfl ?_; apply gw_d; exact det_pick_t (v := .bool _) rfl rfl rfl rfl; refine gM rfl rfl (by conv => (lhs; whnf)) ?_; refine gU rfl ?_; refine gU rfl ?_; apply gw_d; exact det_pick_t (v := .bool _) rfl rfl rfl rfl; refine gO ?_; refine gc_if_true rfl ?_; refine gc_seq ?_; refine gc_region ?_; refine gM rfl rfl (by conv => (lhs; whnf)) ?_; refine gM rfl rfl (by conv => (lhs; whnf)) ?_; refine gO ?_; refine gc_ret ?_; refine gx_then_ret ?_; rotate_left; refine gM rfl rfl (by conv => (lhs; whnf)) ?_; refine gC rfl rfl rfl rfl rfl ?_; apply gw_d; exact det_pick_f (v := .bool _) rfl rfl rfl rfl; refine gM rfl rfl (by conv => (lhs; whnf)) ?_; refine gw_guard_dec rfl rfl (fun _ => ?_) (fun _ => ?_); refine gU rfl ?_; refine gU rfl ?_; apply gw_d; exact det_pick_t (v := .bool _) rfl rfl rfl rfl; refine gM rfl rfl (by conv => (lhs; whnf)) ?_; refine gU rfl ?_; refine gU rfl ?_; apply gw_d; exact det_pick_t (v := .bool _) rfl rfl rfl rfl; refine gO ?_; refine gc_if_true rfl ?_; refine gc_seq ?_; refine gc_region ?_; refine gM rfl rfl (by conv => (lhs; whnf)) ?_; refine gM rfl rfl (by conv => (lhs; whnf)) ?_; refine gO ?_; refine gc_ret ?_; refine gx_then_ret ?_; rotate_left; refine gM rfl rfl (by conv => (lhs; whnf)) ?_; refine gC rfl rfl rfl rfl rfl ?_; apply gw_d; exact det_pick_f (v := .bool _) rfl rfl rfl rfl; refine gM rfl rfl (by conv => (lhs; whnf)) ?_; refine gw_guard_dec rfl rfl (fun _ => ?_) (fun _ => ?_); refine gU rfl ?_; refine gU rfl ?_; apply gw_d; exact det_pick_t (v := .bool _) rfl rfl rfl rfl; refine gO ?_; refine gc_if_true rfl ?_; refine gc_seq ?_; refine gc_region ?_; refine gM rfl rfl (by conv => (lhs; whnf)) ?_; refine gM rfl rfl (by conv => (lhs; whnf)) ?_; refine gO ?_; refine gc_ret ?_; refine gx_then_ret ?_; rotate_left; refine gM rfl rfl (by conv => (lhs; whnf)) ?_; refine gC rfl rfl rfl rfl rfl ?_; apply gw_d; exact det_pick_f (v := .bool _) rfl rfl rfl rfl; refine gO ?_; refine gc_if_dec rfl (fun _ => ?_) (fun _ => ?_); refine gc_seq ?_; refine gc_region ?_; refine gM rfl rfl (by conv => (lhs; whnf)) ?_; refine gM rfl rfl (by conv => (lhs; whnf)) ?_; refine gO ?_; refine gc_ret ?_; refine gx_then_ret ?_; rotate_left; refine gc_skip ?_; refine gx_next ?_; refine gc_seq ?_; refine gc_region ?_; refine gM rfl rfl (by conv => (lhs; whnf)) ?_; refine gM rfl rfl (by conv => (lhs; whnf)) ?_; apply gw_d; exact det_ar rfl rfl rfl rfl rfl (by omega); refine gF rfl rfl rfl ?_; apply gw_d; exact w_load_box rfl rfl rfl .here rfl; apply gw_d; exact det_ar rfl rfl rfl rfl rfl (by omega); apply gw_d; exact det_ar rfl rfl rfl rfl rfl (by omega); apply gw_d; exact det_quo rfl rfl rfl rfl (by omega) (by omega) (by omega); refine gM rfl rfl (by conv => (lhs; whnf)) ?_; refine gM rfl rfl (by conv => (lhs; whnf)) ?_; refine gO ?_; refine gc_ret ?_; rotate_left)
      all_goals first | (exfalso; omega) | skip
      all_goals (refine gx_ret2 (u := .int _ _) (v := .int _ _) rfl rfl rfl (fun _ _ => ?_); rfl)
    · have hE : amtE r l m c = tarE r l := by
        unfold amtE
        rw [if_pos h1]
      rw [hE]
      unfold tarV at hC ⊢
      refine ok_enter Tryz.func11 rfl Tryz.ntmps11 rfl ?_
      focus (refine gc_seq ?_; refine gc_region ?_; refine gw_boxd (v := .agg _) rfl rfl (fun _ => ?_); refine gM rfl rfl (by conv => (lhs; whnf)) ?_; refine gM rfl rfl (by conv => (lhs; whnf)) ?_; refine gO ?_; refine gc_seq ?_; refine gc_seq ?_; refine gc_region ?_; apply gw_d; exact w_load_boxN rfl rfl rfl .here rfl; apply gw_d; exact w_call rfl rfl (hC _) rfl; refine gM rfl rfl (by conv => (lhs; whnf)) ?_; refine gN ?_; refine gM rfl rfl (by conv => (lhs; whnf)) ?_; refine gC rfl rfl rfl rfl rfl ?_; refine gO ?_)
      refine gc_if_dec rfl (fun _ => ?_) (fun h => absurd h1 h)
      focus (refine gc_seq ?_; refine gc_region ?_; refine gM rfl rfl (by conv => (lhs; whnf)) ?_; refine gM rfl rfl (by conv => (lhs; whnf)) ?_; refine gM rfl rfl (by conv => (lhs; whnf)) ?_; refine gO ?_; refine gc_ret ?_; refine gx_then_ret ?_)
      refine gx_ret2 (u := .int _ _) (v := .int _ _) rfl rfl rfl (fun _ _ => ?_)
      rfl
end Go.Proofs.YtckhibfbdnoigaaGreatDoor

/- Contracts: the chapter's amounts; totals and shares, of the program and of the chapter. -/
namespace Go.Proofs.YtckhibfbdnoigaaGreatDoor
open Go.RowKit
set_option maxRecDepth 100000
set_option maxHeartbeats 2000000

def moneyB (n : Int) : Bool := decide (0 ≤ n) && decide (n ≤ 1099511627776)
theorem money_iff {n : Int} : moneyB n = true ↔ 0 ≤ n ∧ n ≤ 1099511627776 := by unfold moneyB; simp
theorem inRange_ok (w : World) (n : Int) : Ok Tryz.prog 44 [.int .i64 n].toArray w fun x _ => x = .bool (moneyB n) := by
  refine ok_enter Tryz.func44 rfl Tryz.ntmps44 rfl ?_
  focus (refine gc_seq ?_; refine gc_region ?_; refine gM rfl rfl (by conv => (lhs; whnf)) ?_; refine gN ?_; refine gM rfl rfl (by conv => (lhs; whnf)) ?_; refine gC rfl rfl rfl rfl rfl ?_; refine gM rfl rfl (by conv => (lhs; whnf)) ?_; refine gw_guard_dec rfl rfl (fun _ => ?_) (fun _ => ?_); refine gM rfl rfl (by conv => (lhs; whnf)) ?_; refine gC rfl rfl rfl rfl rfl ?_; apply gw_d; exact det_pick_t (v := .bool _) rfl rfl rfl rfl; refine gM rfl rfl (by conv => (lhs; whnf)) ?_; refine gO ?_; refine gc_ret ?_; rotate_left; refine gU rfl ?_; refine gU rfl ?_; apply gw_d; exact det_pick_f (v := .bool _) rfl rfl rfl rfl; refine gM rfl rfl (by conv => (lhs; whnf)) ?_; refine gO ?_; refine gc_ret ?_; rotate_left)
  · refine gx_ret1 (v := .bool _) rfl rfl (fun _ _ => ?_)
    unfold moneyB
    rename_i h
    rw [decide_eq_true (show 0 ≤ n by omega)]
    rfl
  · refine gx_ret1 (v := .bool _) rfl rfl (fun _ _ => ?_)
    unfold moneyB
    rename_i h
    rw [decide_eq_false (show ¬ 0 ≤ n by omega)]
    rfl
end Go.Proofs.YtckhibfbdnoigaaGreatDoor

/- Contracts: sums of amounts; Judge. What wages come to. -/
namespace Go.Proofs.YtckhibfbdnoigaaGreatDoor
open Go.RowKit
set_option maxRecDepth 100000
set_option maxHeartbeats 4000000

def sumI (l : List Int) : Int := l.foldl (· + ·) 0
theorem sumI_snoc (l : List Int) (x : Int) : sumI (l ++ [x]) = sumI l + x := by
  unfold sumI
  rw [List.foldl_append]
  rfl
section
variable {w : World} {v0 v1 v2 v3 v4 v5 v6 vb vw vx : Value} {e : Int} {l : List Opn} {bs : List Bun} {ws : List Wrk} {xs : List Scn} (hO : ∀ (L : List Res) (w' : World), St w L w' → Ok Tryz.prog 63 [.agg #[v0, v1, v2, v3, v4, v5, v6]].toArray w' fun x _ => x = .int .i64 e)
include hO
def judgeAllE (e : Int) (bs : List Bun) (ws : List Wrk) (n : Nat) : Int := if ¬ scanE e bs ws = 0 then scanE e bs ws else if n > 300 then 5 else 0
theorem hO_later {L : List Res} {w' : World} (s : St w L w') : ∀ (L : List Res) (w2 : World), St w' L w2 → Ok Tryz.prog 63 [.agg #[v0, v1, v2, v3, v4, v5, v6]].toArray w2 fun x _ => x = .int .i64 e := fun _ w2 s2 => hO [] w2 ⟨s.below.trans (Below.mono s2.below s.below.size), trivial⟩
theorem Judge_bad (hb : Sl rBun w w.heap.size vb bs) (hw : Sl rWrk w w.heap.size vw ws) (hx : Sl rScn w w.heap.size vx xs) (he : ¬ judgeAllE e bs ws xs.length = 0) : Ok Tryz.prog 26 [.agg #[v0, v1, v2, v3, v4, v5, v6], vb, vw, vx].toArray w fun x _ => x = .tuple #[.slice none 0 0, .int .i64 (judgeAllE e bs ws xs.length)] := by
  have hJ : ∀ (L : List Res) (w' : World), St w L w' → Ok Tryz.prog 43 [.agg #[v0, v1, v2, v3, v4, v5, v6], vb, vw, vx].toArray w' fun x _ => x = .tuple #[.slice none 0 0, .map none, .int .i64 (judgeAllE e bs ws xs.length)] := fun L w' s => by
    by_cases h1 : scanE e bs ws = 0
    · by_cases h2 : xs.length > 300
      · have := judgeAll_long w' v0 v1 v2 v3 v4 v5 v6 vb vw vx e bs ws xs (hO_later hO s) (hb.later s) (hw.later s) (hx.later s) h1 h2
        have hE : judgeAllE e bs ws xs.length = 5 := by unfold judgeAllE; rw [if_neg (by rw [h1]; decide), if_pos h2]
        rw [hE]
        exact this
      · exact absurd (by unfold judgeAllE; rw [if_neg (by rw [h1]; decide), if_neg h2]) he
    · have := judgeAll_bad w' v0 v1 v2 v3 v4 v5 v6 vb vw vx e bs ws (hO_later hO s) (hb.later s) (hw.later s) h1
      have hE : judgeAllE e bs ws xs.length = scanE e bs ws := by unfold judgeAllE; rw [if_pos h1]
      rw [hE]
      exact this
  refine ok_enter Tryz.func26 rfl Tryz.ntmps26 rfl ?_
  focus (refine gc_seq ?_; refine gc_region ?_; refine gw_boxd (v := .agg _) rfl rfl (fun _ => ?_); refine gM rfl rfl (by conv => (lhs; whnf)) ?_; refine gM rfl rfl (by conv => (lhs; whnf)) ?_; refine gN ?_; apply gw_d; exact w_load_boxN rfl rfl rfl .here rfl; refine gM rfl rfl (by conv => (lhs; whnf)) ?_; refine gM rfl rfl (by conv => (lhs; whnf)) ?_; refine gM rfl rfl (by conv => (lhs; whnf)) ?_; apply gw_d; exact w_call rfl rfl (hJ _) rfl; refine gM rfl rfl (by conv => (lhs; whnf)) ?_; apply gw_d; exact det_extract rfl rfl rfl (by conv => (lhs; whnf)); apply gw_d; exact det_extract rfl rfl rfl (by conv => (lhs; whnf)); apply gw_d; exact det_extract rfl rfl rfl (by conv => (lhs; whnf)); refine gM rfl rfl (by conv => (lhs; whnf)) ?_; refine gM rfl rfl (by conv => (lhs; whnf)) ?_; refine gM rfl rfl (by conv => (lhs; whnf)) ?_; refine gN ?_; refine gM rfl rfl (by conv => (lhs; whnf)) ?_; refine gM rfl rfl (by conv => (lhs; whnf)) ?_; refine gM rfl rfl (by conv => (lhs; whnf)) ?_; refine gM rfl rfl (by conv => (lhs; whnf)) ?_; refine gO ?_; refine gc_ret ?_)
  refine gx_ret2 (u := .slice _ _ _) (v := .int _ _) rfl rfl rfl (fun _ _ => ?_)
  rfl
theorem Judge_ok (hl : Sl rOp w w.heap.size v6 l) (hb : Sl rBun w w.heap.size vb bs) (hw : Sl rWrk w w.heap.size vw ws) (hx : Sl rScn w w.heap.size vx xs) (hS : Small l) (he : judgeAllE e bs ws xs.length = 0) :
    OkM Tryz.prog 26 [.agg #[v0, v1, v2, v3, v4, v5, v6], vb, vw, vx].toArray w (fun x : Nat => .tuple #[.slice (some ⟨x, 0, none⟩) xs.length xs.length, .int .i64 0]) (fun x => [Box x 3 ((outs l ws (ticks bs) [] xs).map (Value.int .i64)).toArray]) := by
  have h1 : scanE e bs ws = 0 := by
    unfold judgeAllE at he
    split at he
    · rename_i h; exact absurd he h
    · rename_i h; simpa using h
  have h2 : ¬ xs.length > 300 := fun h => by
    unfold judgeAllE at he
    rw [if_neg (by rw [h1]; decide), if_pos h] at he
    cases he
  unfold OkM
  refine ok_enter Tryz.func26 rfl Tryz.ntmps26 rfl ?_
  focus (refine gc_seq ?_; refine gc_region ?_; refine gw_boxd (v := .agg _) rfl rfl (fun _ => ?_); refine gM rfl rfl (by conv => (lhs; whnf)) ?_; refine gM rfl rfl (by conv => (lhs; whnf)) ?_; refine gN ?_; apply gw_d; exact w_load_boxN rfl rfl rfl .here rfl; refine gM rfl rfl (by conv => (lhs; whnf)) ?_; refine gM rfl rfl (by conv => (lhs; whnf)) ?_; refine gM rfl rfl (by conv => (lhs; whnf)) ?_)
  refine gw_callm rfl (fun w' s => judgeAll_ok w' v0 v1 v2 v3 v4 v5 v6 vb vw vx e l bs ws xs (hO_later hO s) (hl.later s) (hb.later s) (hw.later s) (hx.later s) hS h1 h2) rfl (fun x => ?_)
  focus (refine gM rfl rfl (by conv => (lhs; whnf)) ?_; apply gw_d; exact det_extract rfl rfl rfl (by conv => (lhs; whnf)); apply gw_d; exact det_extract rfl rfl rfl (by conv => (lhs; whnf)); apply gw_d; exact det_extract rfl rfl rfl (by conv => (lhs; whnf)); refine gM rfl rfl (by conv => (lhs; whnf)) ?_; refine gM rfl rfl (by conv => (lhs; whnf)) ?_; refine gM rfl rfl (by conv => (lhs; whnf)) ?_; refine gN ?_; refine gM rfl rfl (by conv => (lhs; whnf)) ?_; refine gM rfl rfl (by conv => (lhs; whnf)) ?_; refine gM rfl rfl (by conv => (lhs; whnf)) ?_; refine gM rfl rfl (by conv => (lhs; whnf)) ?_; refine gO ?_; refine gc_ret ?_)
  exact gx_ret2 (u := .slice _ _ _) (v := .int _ _) rfl rfl rfl (fun w' s => ⟨x.1, rfl, (St.sub (K := [Box x.1 3 ((outs l ws (ticks bs) [] xs).map (Value.int .i64)).toArray]) (.cons .here .nil) s).sep⟩)
end
end Go.Proofs.YtckhibfbdnoigaaGreatDoor

/- What wages come to: amounts by worker, rows of rows. No program in sight. -/
namespace Go.Proofs.YtckhibfbdnoigaaGreatDoor
open Go.RowKit

def minAt (l : List Opn) (o : Int) : Int := ((l[o.toNat]?).map (·.minutes)).getD 0
def cntAt (bs : List Bun) (t : Int) : Int := ((bs.find? fun b => decide (b.tick = t)).map fun b => b.upto - b.fr).getD 0
theorem cnt_at {bs : List Bun} (h : Tix (ticks bs)) {j : Nat} (hj : j < bs.length) : cntAt bs bs[j].tick = bs[j].upto - bs[j].fr := by
  unfold cntAt
  cases hf : bs.find? fun b => decide (b.tick = bs[j].tick) with
  | none =>
    have := List.find?_eq_none.1 hf bs[j] (List.getElem_mem hj)
    simp at this
  | some b =>
    have h1 : b.tick = bs[j].tick := by simpa using List.find?_some hf
    obtain ⟨i, hi, rfl⟩ := List.getElem_of_mem (List.mem_of_find?_eq_some hf)
    have hij : i = j := h.inj (by simpa [ticks] using hi) (by simpa [ticks] using hj) (by rw [ticks_at hi, ticks_at hj, h1])
    subst hij
    rfl
theorem outs_at' {l : List Opn} {ws : List Wrk} {tk : List Int} : ∀ {xs ps : List Scn} {i : Nat} (hi : i < xs.length), (outs l ws tk ps xs).getD i 0 = outE l ws tk ((xs.take i).foldl (nextP l ws tk) ps) xs[i]
  | x :: xs, ps, 0, _ => rfl
  | x :: xs, ps, i + 1, hi => by
    show (outs l ws tk (nextP l ws tk ps x) xs).getD i 0 = _
    rw [outs_at' (by simpa using hi)]
    rfl
theorem outs_at {l : List Opn} {ws : List Wrk} {tk : List Int} {xs : List Scn} {i : Nat} (hi : i < xs.length) : (outs l ws tk [] xs).getD i 0 = outE l ws tk (paidL l ws tk (xs.take i)) xs[i] := outs_at' hi
theorem next_len (l : List Opn) (ws : List Wrk) (tk : List Int) (ps : List Scn) (x : Scn) : (nextP l ws tk ps x).length ≤ ps.length + 1 := by
  unfold nextP
  split <;> simp
theorem paid_len' (l : List Opn) (ws : List Wrk) (tk : List Int) : ∀ (xs ps : List Scn), (xs.foldl (nextP l ws tk) ps).length ≤ ps.length + xs.length
  | [], ps => by simp
  | x :: xs, ps => by
    have h1 := paid_len' l ws tk xs (nextP l ws tk ps x)
    have h2 := next_len l ws tk ps x
    simp only [List.foldl_cons, List.length_cons]
    omega
theorem paidL_len (l : List Opn) (ws : List Wrk) (tk : List Int) (xs : List Scn) : (paidL l ws tk xs).length ≤ xs.length := by
  have := paid_len' l ws tk xs []
  unfold paidL
  simpa using this
theorem amtV_range (r l m c : Int) : 0 ≤ amtV r l m c ∧ amtV r l m c ≤ 1000000000 := by
  unfold amtV
  split
  · rename_i h
    have := (amt_range h).2
    omega
  · omega
/-! ### Rows of rows -/
/-! ### Pays -/
end Go.Proofs.YtckhibfbdnoigaaGreatDoor

/- Plain facts of the chapter 57: paid scans, repeated; sums of pays. No program in sight. -/
namespace Go.Proofs.YtckhibfbdnoigaaGreatDoor
open Go.RowKit
section
variable {l : List Opn} {ws : List Wrk} {tk : List Int}
def Fine (l : List Opn) (ws : List Wrk) (tk : List Int) (y : Scn) : Prop := hasB tk y.tick = true ∧ knownB l ws y = true ∧ canAt ws y.who (machAt l y.op) = true
theorem out_fine {ps : List Scn} {x : Scn} (h : outE l ws tk ps x = 1) : Fine l ws tk x ∧ paidB ps x.tick x.op = false := by
  unfold outE at h
  split at h
  · cases h
  rename_i h1
  unfold judgeE at h
  split at h
  · cases h
  rename_i h2
  split at h
  · cases h
  rename_i h3
  split at h
  · cases h
  rename_i h4
  exact ⟨⟨by simpa using h1, by simpa using h2, by simpa using h3⟩, by simpa using h4⟩
theorem Fine.known {y : Scn} (h : Fine l ws tk y) : (0 ≤ y.op ∧ y.op < l.length) ∧ (0 ≤ y.who ∧ y.who < ws.length) ∧ (0 ≤ y.time ∧ y.time ≤ 1073741824) := by
  have := of_decide_eq_true h.2.1
  omega
theorem paid_ind' {φ : List Scn → Prop} (step : ∀ ps x, φ ps → outE l ws tk ps x = 1 → φ (ps ++ [x])) : ∀ (xs ps : List Scn), φ ps → φ (xs.foldl (nextP l ws tk) ps)
  | [], _, h => h
  | x :: xs, ps, h => paid_ind' step xs (nextP l ws tk ps x) (by
      unfold nextP
      split
      · rename_i h1; exact step ps x h h1
      · exact h)
theorem paid_ind {φ : List Scn → Prop} (h0 : φ []) (step : ∀ ps x, φ ps → outE l ws tk ps x = 1 → φ (ps ++ [x])) (xs : List Scn) : φ (paidL l ws tk xs) := paid_ind' step xs [] h0
theorem paid_fine (xs : List Scn) : ∀ y ∈ paidL l ws tk xs, Fine l ws tk y :=
  paid_ind (φ := fun ps => ∀ y ∈ ps, Fine l ws tk y) (fun _ h => by cases h) (fun ps x h h1 y hy => by
    rcases List.mem_append.1 hy with hy | hy
    · exact h y hy
    · rw [List.mem_singleton] at hy; subst hy; exact (out_fine h1).1) xs
theorem paidB_mem {ps : List Scn} {y : Scn} (h : y ∈ ps) : paidB ps y.tick y.op = true := by
  unfold paidB
  rw [List.any_eq_true]
  exact ⟨y, h, by simp⟩
def Apart (a b : Scn) : Prop := ¬ (a.tick = b.tick ∧ a.op = b.op)
theorem paid_apart (xs : List Scn) : (paidL l ws tk xs).Pairwise Apart :=
  paid_ind (φ := fun ps => ps.Pairwise Apart) List.Pairwise.nil (fun ps x h h1 => List.pairwise_append.2 ⟨h, List.pairwise_singleton _ _, fun a ha b hb => by
    rw [List.mem_singleton] at hb
    subst hb
    rintro ⟨e1, e2⟩
    have := paidB_mem ha
    rw [e1, e2, (out_fine h1).2] at this
    cases this⟩) xs
theorem paid_mem {xs : List Scn} {y : Scn} (h : y ∈ paidL l ws tk xs) : y ∈ xs := by
  have : ∀ (xs ps : List Scn), y ∈ xs.foldl (nextP l ws tk) ps → y ∈ ps ∨ y ∈ xs := by
    intro xs
    induction xs with
    | nil => intro ps h; exact .inl h
    | cons x xs ih =>
      intro ps h
      rcases ih _ h with h | h
      · unfold nextP at h
        split at h
        · rcases List.mem_append.1 h with h | h
          · exact .inl h
          · rw [List.mem_singleton] at h; exact .inr (by rw [h]; exact List.mem_cons_self)
        · exact .inl h
      · exact .inr (List.mem_cons_of_mem _ h)
  rcases this xs [] h with h | h
  · cases h
  · exact h
end

/-! ### Sums -/
theorem sumI_from (l : List Int) : ∀ a : Int, l.foldl (· + ·) a = a + sumI l := by
  unfold sumI
  induction l with
  | nil => intro a; simp
  | cons x l ih =>
    intro a
    rw [List.foldl_cons, List.foldl_cons, ih (a + x), ih (0 + x)]
    omega
theorem sumI_cons (x : Int) (l : List Int) : sumI (x :: l) = x + sumI l := by
  show (x :: l).foldl (· + ·) 0 = _
  rw [List.foldl_cons, sumI_from]
  omega
theorem sumI_append (a b : List Int) : sumI (a ++ b) = sumI a + sumI b := by
  show (a ++ b).foldl (· + ·) 0 = _
  rw [List.foldl_append, sumI_from]
  rfl
theorem sumI_nonneg : ∀ {l : List Int}, (∀ x ∈ l, 0 ≤ x) → 0 ≤ sumI l
  | [], _ => Int.le_refl _
  | x :: l, h => by
    rw [sumI_cons]
    have h1 := h x List.mem_cons_self
    have h2 := sumI_nonneg fun y hy => h y (List.mem_cons_of_mem _ hy)
    omega
theorem sumI_add {α : Type} (f g : α → Int) : ∀ (l : List α), sumI (l.map fun x => f x + g x) = sumI (l.map f) + sumI (l.map g)
  | [] => rfl
  | x :: l => by
    rw [List.map_cons, List.map_cons, List.map_cons, sumI_cons, sumI_cons, sumI_cons, sumI_add f g l]
    omega
/-! ### What Pays gives -/
end Go.Proofs.YtckhibfbdnoigaaGreatDoor

/- Contracts: scan.Paid, given what operation.Check answers. -/
namespace Go.Proofs.YtckhibfbdnoigaaGreatDoor
open Go.RowKit
set_option maxRecDepth 100000
set_option maxHeartbeats 4000000

def encX (x : Scn) : List Value := [.int .i64 x.tick, .int .i64 x.op, .int .i64 x.who, .int .i64 x.time]
section
variable {w : World} {v0 v1 v2 v3 v4 v5 v6 vb vw vx : Value} {e : Int} {l : List Opn} {bs : List Bun} {ws : List Wrk} {xs : List Scn} (hO : ∀ (L : List Res) (w' : World), St w L w' → Ok Tryz.prog 63 [.agg #[v0, v1, v2, v3, v4, v5, v6]].toArray w' fun x _ => x = .int .i64 e)
include hO
theorem Paid_bad (hb : Sl rBun w w.heap.size vb bs) (hw : Sl rWrk w w.heap.size vw ws) (hx : Sl rScn w w.heap.size vx xs) (he : ¬ judgeAllE e bs ws xs.length = 0) : Ok Tryz.prog 8 [.agg #[v0, v1, v2, v3, v4, v5, v6], vb, vw, vx].toArray w fun x _ => x = .tuple #[.slice none 0 0, .int .i64 (judgeAllE e bs ws xs.length)] := by
  have hJ : ∀ (L : List Res) (w' : World), St w L w' → Ok Tryz.prog 26 [.agg #[v0, v1, v2, v3, v4, v5, v6], vb, vw, vx].toArray w' fun x _ => x = .tuple #[.slice none 0 0, .int .i64 (judgeAllE e bs ws xs.length)] := fun L w' s => Judge_bad (hO_later hO s) (hb.later s) (hw.later s) (hx.later s) he
  refine ok_enter Tryz.func8 rfl Tryz.ntmps8 rfl ?_
  focus (refine gc_seq ?_; refine gc_region ?_; refine gw_boxd (v := .agg _) rfl rfl (fun _ => ?_); refine gM rfl rfl (by conv => (lhs; whnf)) ?_; refine gM rfl rfl (by conv => (lhs; whnf)) ?_; refine gN ?_; apply gw_d; exact w_load_boxN rfl rfl rfl .here rfl; refine gM rfl rfl (by conv => (lhs; whnf)) ?_; refine gM rfl rfl (by conv => (lhs; whnf)) ?_; refine gM rfl rfl (by conv => (lhs; whnf)) ?_; apply gw_d; exact w_call rfl rfl (hJ _) rfl; refine gM rfl rfl (by conv => (lhs; whnf)) ?_; apply gw_d; exact det_extract rfl rfl rfl (by conv => (lhs; whnf)); apply gw_d; exact det_extract rfl rfl rfl (by conv => (lhs; whnf)); refine gM rfl rfl (by conv => (lhs; whnf)) ?_; refine gM rfl rfl (by conv => (lhs; whnf)) ?_; refine gO ?_; refine gc_seq ?_; refine gc_seq ?_; refine gc_region ?_; refine gM rfl rfl (by conv => (lhs; whnf)) ?_; refine gC rfl rfl rfl rfl rfl ?_; refine gO ?_)
  refine gc_if_dec rfl (fun _ => ?_) (fun h => absurd he h)
  focus (refine gc_seq ?_; refine gc_region ?_; refine gM rfl rfl (by conv => (lhs; whnf)) ?_; refine gM rfl rfl (by conv => (lhs; whnf)) ?_; refine gM rfl rfl (by conv => (lhs; whnf)) ?_; refine gO ?_; refine gc_ret ?_; refine gx_then_ret ?_)
  refine gx_ret2 (u := .slice _ _ _) (v := .int _ _) rfl rfl rfl (fun _ _ => ?_)
  rfl
theorem Paid_ok (hl : Sl rOp w w.heap.size v6 l) (hb : Sl rBun w w.heap.size vb bs) (hw : Sl rWrk w w.heap.size vw ws) (hx : Sl rScn w w.heap.size vx xs) (hS : Small l) (he : judgeAllE e bs ws xs.length = 0) :
    OkM Tryz.prog 8 [.agg #[v0, v1, v2, v3, v4, v5, v6], vb, vw, vx].toArray w (fun x : Option Addr × Nat => .tuple #[.slice x.1 (paidL l ws (ticks bs) xs).length x.2, .int .i64 0]) (fun x => [Own x.1 (paidL l ws (ticks bs) xs).length x.2 51 4 ((paidL l ws (ticks bs) xs).flatMap encX)]) := by
  have hJ : ∀ (L : List Res) (w' : World), St w L w' → OkM Tryz.prog 26 [.agg #[v0, v1, v2, v3, v4, v5, v6], vb, vw, vx].toArray w' (fun x : Nat => .tuple #[.slice (some ⟨x, 0, none⟩) xs.length xs.length, .int .i64 0]) (fun x => [Box x 3 ((outs l ws (ticks bs) [] xs).map (Value.int .i64)).toArray]) := fun L w' s => Judge_ok (hO_later hO s) (hl.later s) (hb.later s) (hw.later s) (hx.later s) hS he
  have h300 : xs.length ≤ 300 := by
    unfold judgeAllE at he
    split at he
    · rename_i h; exact absurd he h
    · split at he
      · cases he
      · omega
  have hol := outs_len l ws (ticks bs) xs []
  have hoa : ∀ k (hk : k < xs.length), (outs l ws (ticks bs) [] xs).getD k 0 = outE l ws (ticks bs) (paidL l ws (ticks bs) (xs.take k)) xs[k] := fun k hk => outs_at hk
  obtain ⟨A0, c0, rfl, hxc, hxm, hxcell⟩ := hx.scn
  generalize hos : outs l ws (ticks bs) [] xs = os at hJ hol hoa
  unfold OkM
  refine ok_enter Tryz.func8 rfl Tryz.ntmps8 rfl ?_
  focus (refine gc_seq ?_; refine gc_region ?_; refine gw_boxd (v := .agg _) rfl rfl (fun _ => ?_); refine gM rfl rfl (by conv => (lhs; whnf)) ?_; refine gM rfl rfl (by conv => (lhs; whnf)) ?_; refine gN ?_; apply gw_d; exact w_load_boxN rfl rfl rfl .here rfl; refine gM rfl rfl (by conv => (lhs; whnf)) ?_; refine gM rfl rfl (by conv => (lhs; whnf)) ?_; refine gM rfl rfl (by conv => (lhs; whnf)) ?_)
  refine gw_callm rfl (hJ _) rfl (fun g => ?_)
  focus (refine gM rfl rfl (by conv => (lhs; whnf)) ?_; apply gw_d; exact det_extract rfl rfl rfl (by conv => (lhs; whnf)); apply gw_d; exact det_extract rfl rfl rfl (by conv => (lhs; whnf)); refine gM rfl rfl (by conv => (lhs; whnf)) ?_; refine gM rfl rfl (by conv => (lhs; whnf)) ?_; refine gO ?_; refine gc_seq ?_; refine gc_seq ?_; refine gc_region ?_; refine gM rfl rfl (by conv => (lhs; whnf)) ?_; refine gC rfl rfl rfl rfl rfl ?_; refine gO ?_)
  refine gc_if_dec rfl (fun h => absurd rfl h) (fun _ => ?_)
  focus (refine gc_skip ?_; refine gx_next ?_; refine gc_seq ?_; refine gc_region ?_; refine gM rfl rfl (by conv => (lhs; whnf)) ?_; refine gO ?_; refine gc_seq ?_; refine gc_seq ?_; refine gc_region ?_; refine gM rfl rfl (by conv => (lhs; whnf)) ?_; refine gL rfl rfl rfl ?_; refine gM rfl rfl (by conv => (lhs; whnf)) ?_; refine gO ?_; refine gc_block ?_)
  refine gc_own0 51 4 ?_
  refine gc_loop (σ := Nat × Option Addr × Nat) [29, 30, 31, 32, 14, 13, 33, 34, 35, 36, 37, 38, 39, 40, 41, 12, 42, 28] (fun s => [(28, .int .i64 s.1), (12, .slice s.2.1 (paidL l ws (ticks bs) (xs.take s.1)).length s.2.2)]) (fun s => [Own s.2.1 (paidL l ws (ticks bs) (xs.take s.1)).length s.2.2 51 4 ((paidL l ws (ticks bs) (xs.take s.1)).flatMap encX), Box g 3 (os.map (Value.int .i64)).toArray]) (fun s => s.1 ≤ xs.length) (fun s => xs.length - s.1) (0, none, 0) (Nat.zero_le _) ⟨rfl, rfl, trivial⟩ (.cons .here (.cons .here .nil)) ?_
  rintro ⟨k, A, c⟩ base hk
  dsimp only at hk ⊢
  focus (refine gc_seq ?_; refine gc_region ?_; refine gC rfl rfl rfl rfl rfl ?_; refine gO ?_; refine gc_seq ?_)
  refine gc_if_dec rfl (fun h => ?_) (fun h => ?_)
  · have hlt : k < xs.length := by omega
    obtain ⟨ad, rfl, hb1, hce, _⟩ := hxcell k hlt
    have hpc : (os.map (Value.int .i64)).toArray[k * 1]? = some (.int .i64 (os.getD k 0)) := row_get (Value.int .i64) 0 (by omega)
    have hsn : paidL l ws (ticks bs) (xs.take (k + 1)) = nextP l ws (ticks bs) (paidL l ws (ticks bs) (xs.take k)) xs[k] := by rw [List.take_succ_eq_append_getElem hlt, paidL_snoc]
    have hpl := paidL_len l ws (ticks bs) (xs.take k)
    rw [List.length_take] at hpl
    rw [hoa k hlt] at hpc
    unfold nextP at hsn
    generalize paidL l ws (ticks bs) (xs.take k) = ps at hpc hsn hpl ⊢
    focus (refine gc_skip ?_; refine gx_next ?_; refine gc_seq ?_; refine gc_block ?_; refine gc_seq ?_; refine gc_region ?_; refine gM rfl rfl (by conv => (lhs; whnf)) ?_; apply gw_d; exact w_index rfl rfl rfl rfl (by with_reducible exact rfl) (by omega); apply gw_d; exact w_load_elem rfl rfl rfl (by assumption) (by assumption) (by rfl); refine w_alloc rfl (fun _ => ?_); refine gM rfl rfl (by conv => (lhs; whnf)) ?_; refine w_store_all rfl rfl rfl rfl rfl .here rfl ?_; refine gN ?_; refine gM rfl rfl (by conv => (lhs; whnf)) ?_; refine gM rfl rfl (by conv => (lhs; whnf)) ?_; apply gw_d; exact w_index rfl rfl rfl rfl (by with_reducible exact rfl) (by omega); apply gw_d; exact w_load_row rfl rfl rfl (.there (.there .here)) hpc; refine gC rfl rfl rfl rfl rfl ?_; refine gO ?_)
    refine gc_if_dec rfl (fun h2 => ?_) (fun h2 => ?_)
    · rw [if_pos h2] at hsn
      focus (refine gc_region ?_; refine gM rfl rfl (by conv => (lhs; whnf)) ?_; apply gw_d; exact w_load_boxN rfl rfl rfl .here rfl)
      refine gw_bslice1 (v := .agg #[.int .i64 xs[k].tick, .int .i64 xs[k].op, .int .i64 xs[k].who, .int .i64 xs[k].time]) rfl rfl rfl rfl rfl (fun bb => ?_)
      refine gw_append (news := encX xs[k]) rfl rfl rfl (.there (.there .here)) rfl (fun w' s _ => ?_) (fun u hu => ?_) (by unfold maxLen; omega) (by omega) (by decide) rfl (fun A3 c3 => ?_)
      · refine ⟨⟨bb, 0, none⟩, rfl, fun i u hu => ?_⟩
        rw [add_zero]
        refine (Box.cell s.head i).trans ?_
        change (#[Value.int .i64 xs[k].tick, .int .i64 xs[k].op, .int .i64 xs[k].who, .int .i64 xs[k].time] : Array Value)[i]? = some u
        rw [List.getElem?_toArray]
        exact hu
      · unfold encX at hu
        simp only [List.mem_cons, List.not_mem_nil, or_false] at hu
        rcases hu with rfl | rfl | rfl | rfl <;> rfl
      · focus (refine gM rfl rfl (by conv => (lhs; whnf)) ?_; refine gw_nil ?_; refine gx_block ?_; refine gx_next ?_; refine gc_region ?_; apply gw_d; exact det_ar rfl rfl rfl rfl rfl (by omega); refine gM rfl rfl (by conv => (lhs; whnf)) ?_; refine gw_nil ?_)
        refine gx_round (k + 1, A3, c3) hlt (by dsimp only; omega) (by repeat (first | exact Keeps.refl | refine Keeps.upd rfl ?_ | refine Keeps.sets rfl ?_ | refine Keeps.havoc rfl ?_)) ⟨rfl, by rw [hsn, List.length_append]; rfl, trivial⟩ ?_
        dsimp only
        rw [hsn, List.length_append, List.flatMap_append]
        exact .cons .here (.cons (.there (.there .here)) .nil)
    · rw [if_neg h2] at hsn
      focus (refine gc_skip ?_; refine gx_block ?_; refine gx_next ?_; refine gc_region ?_; apply gw_d; exact det_ar rfl rfl rfl rfl rfl (by omega); refine gM rfl rfl (by conv => (lhs; whnf)) ?_; refine gw_nil ?_)
      refine gx_round (k + 1, A, c) hlt (by dsimp only; omega) (by repeat (first | exact Keeps.refl | refine Keeps.upd rfl ?_ | refine Keeps.sets rfl ?_ | refine Keeps.havoc rfl ?_)) ⟨rfl, by rw [hsn]; rfl, trivial⟩ ?_
      dsimp only
      rw [hsn]
      exact .cons (.there .here) (.cons (.there .here) .nil)
  · obtain rfl : k = xs.length := by omega
    rw [List.take_length]
    focus (refine gc_exit ?_; refine gx_then_exit ?_; refine gx_then_exit ?_; refine gx_block_exit ?_; refine gx_next ?_; refine gc_seq ?_; refine gc_region ?_; refine gM rfl rfl (by conv => (lhs; whnf)) ?_; refine gM rfl rfl (by conv => (lhs; whnf)) ?_; refine gM rfl rfl (by conv => (lhs; whnf)) ?_; refine gO ?_; refine gc_ret ?_)
    exact gx_ret2 (u := .slice _ _ _) (v := .int _ _) rfl rfl rfl (fun w' s => ⟨(A, c), rfl, (St.sub (K := [Own A (paidL l ws (ticks bs) xs).length c 51 4 ((paidL l ws (ticks bs) xs).flatMap encX)]) (.cons .here .nil) s).sep⟩)
end
end Go.Proofs.YtckhibfbdnoigaaGreatDoor

/- Contracts: wages, given what operation.Check answers. -/
namespace Go.Proofs.YtckhibfbdnoigaaGreatDoor
open Go.RowKit
set_option maxRecDepth 100000
set_option maxHeartbeats 8000000

section
variable {w : World} {v0 v1 v2 v3 v4 v5 v6 vb vw vx : Value} {e r le : Int} {l : List Opn} {bs : List Bun} {ws : List Wrk} {xs : List Scn} (hO : ∀ (L : List Res) (w' : World), St w L w' → Ok Tryz.prog 63 [.agg #[v0, v1, v2, v3, v4, v5, v6]].toArray w' fun x _ => x = .int .i64 e) (hL : Lay w)
include hO hL
end
end Go.Proofs.YtckhibfbdnoigaaGreatDoor

/- Contracts: shares, of the program and of the chapter. -/
namespace Go.Proofs.YtckhibfbdnoigaaGreatDoor
open Go.RowKit
set_option maxRecDepth 100000
set_option maxHeartbeats 2000000

def shE (a p : Int) : Int := if moneyB a = false ∨ p < 1 ∨ p > 40 then 3 else 0
def shF (a : Int) (n i : Nat) : Int := if (i : Int) < a % n then a / n + 1 else a / n
def shL (a : Int) (n : Nat) : List Int := (List.range n).map (shF a n)
def shP (a : Int) (n k : Nat) : List Int := (List.range n).map fun i => if i < k then shF a n i else 0
theorem shL_len (a : Int) (n : Nat) : (shL a n).length = n := by simp [shL]
theorem shP_len (a : Int) (n k : Nat) : (shP a n k).length = n := by simp [shP]
theorem shP_zero (a : Int) (n : Nat) : shP a n 0 = List.replicate n 0 := by
  apply List.ext_getElem <;> simp [shP]
theorem shP_full (a : Int) (n : Nat) : shP a n n = shL a n := by
  apply List.ext_getElem
  · simp [shP, shL]
  · intro i h1 h2
    simp only [shP, List.length_map, List.length_range] at h1
    simp [shP, shL, h1]
theorem shP_set (a : Int) {n k : Nat} (_hk : k < n) (v : Int) : (shP a n k).set k v = (List.range n).map fun i => if i < k then shF a n i else if i = k then v else 0 := by
  apply List.ext_getElem
  · simp [shP]
  · intro i h1 h2
    simp only [shP, List.length_set, List.length_map, List.length_range] at h1
    simp only [shP, List.getElem_set, List.getElem_map, List.getElem_range]
    by_cases h : k = i
    · subst h; simp
    · have : ¬ i = k := fun h' => h h'.symm
      simp [h, this]
theorem shP_next (a : Int) {n k : Nat} (hk : k < n) : (shP a n k).set k (shF a n k) = shP a n (k + 1) := by
  rw [shP_set a hk]
  unfold shP
  apply List.map_congr_left
  intro i _
  by_cases h1 : i < k
  · rw [if_pos h1, if_pos (by omega)]
  · by_cases h2 : i = k
    · subst h2; rw [if_neg h1, if_pos rfl, if_pos (by omega)]
    · rw [if_neg h1, if_neg h2, if_neg (by omega)]
theorem sh_zero {a p : Int} (h : shE a p = 0) : (0 ≤ a ∧ a ≤ 1099511627776) ∧ 1 ≤ p ∧ p ≤ 40 := by
  unfold shE at h
  split at h
  · cases h
  · rename_i h1
    refine ⟨money_iff.1 ?_, by omega⟩
    cases h2 : moneyB a with
    | true => rfl
    | false => exact absurd (.inl h2) h1
theorem shF_range {a : Int} {n i : Nat} (h0 : 0 ≤ a) (h1 : a ≤ 1099511627776) : 0 ≤ shF a n i ∧ shF a n i ≤ 1099511627777 := by
  have h2 : 0 ≤ a / (n : Int) := Int.ediv_nonneg h0 (by omega)
  have h3 : a / (n : Int) ≤ a := Int.ediv_le_self _ h0
  unfold shF
  split <;> omega
theorem wShare_good (w : World) (a : Int) (n : Nat) (he : shE a n = 0) : OkM Tryz.prog 30 [.int .i64 a, .int .i64 (n : Int)].toArray w (fun b : Nat => .tuple #[.slice (some ⟨b, 0, none⟩) n n, .int .i64 0]) (fun b => [Box b 3 ((shL a n).map (Value.int .i64)).toArray]) := by
  obtain ⟨ha, hn1, hn2⟩ := sh_zero he
  have hmb : moneyB a = true := money_iff.2 ha
  have c1 : ∀ (L : List Res) (w' : World), St w L w' → Ok Tryz.prog 44 [.int .i64 a].toArray w' fun x _ => x = .bool true := fun _ w' _ => by have := inRange_ok w' a; rw [hmb] at this; exact this
  unfold OkM
  refine ok_enter Tryz.func30 rfl Tryz.ntmps30 rfl ?_
  focus (refine gc_seq ?_; refine gc_region ?_; refine gM rfl rfl (by conv => (lhs; whnf)) ?_; refine gM rfl rfl (by conv => (lhs; whnf)) ?_; refine gO ?_; refine gc_seq ?_; refine gc_seq ?_; refine gc_region ?_; refine gM rfl rfl (by conv => (lhs; whnf)) ?_; apply gw_d; exact w_call rfl rfl (c1 _) rfl; apply gw_d; exact det_not_ rfl rfl rfl; refine gM rfl rfl (by conv => (lhs; whnf)) ?_; refine gM rfl rfl (by conv => (lhs; whnf)) ?_; refine gC rfl rfl rfl rfl rfl ?_; apply gw_d; exact det_pick_f (v := .bool _) rfl rfl rfl rfl; refine gM rfl rfl (by conv => (lhs; whnf)) ?_; refine gw_guard_dec rfl rfl (fun _ => ?_) (fun _ => ?_); refine gU rfl ?_; refine gU rfl ?_; apply gw_d; exact det_pick_t (v := .bool _) rfl rfl rfl rfl; refine gO ?_; refine gc_if_true rfl ?_; refine gc_seq ?_; refine gc_region ?_; refine gM rfl rfl (by conv => (lhs; whnf)) ?_; refine gM rfl rfl (by conv => (lhs; whnf)) ?_; refine gO ?_; refine gc_ret ?_; refine gx_then_ret ?_; rotate_left; refine gM rfl rfl (by conv => (lhs; whnf)) ?_; refine gC rfl rfl rfl rfl rfl ?_; apply gw_d; exact det_pick_f (v := .bool _) rfl rfl rfl rfl; refine gO ?_; refine gc_if_dec rfl (fun _ => ?_) (fun _ => ?_); refine gc_seq ?_; refine gc_region ?_; refine gM rfl rfl (by conv => (lhs; whnf)) ?_; refine gM rfl rfl (by conv => (lhs; whnf)) ?_; refine gO ?_; refine gc_ret ?_; refine gx_then_ret ?_; rotate_left; refine gc_skip ?_; refine gx_next ?_; refine gc_seq ?_; refine gc_region ?_; refine gM rfl rfl (by conv => (lhs; whnf)) ?_; rotate_left)
  all_goals first | (exfalso; omega) | skip
  refine gw_make1 (n := n) rfl rfl rfl rfl rfl (by omega) (by omega) rfl (fun b => ?_)
  rw [show Array.replicate n ((Value.int .i64 0).cells.getD 0 undef) = ((shP a n 0).map (Value.int .i64)).toArray from by rw [shP_zero]; exact row_make (Value.int .i64) n 0]
  focus (refine gM rfl rfl (by conv => (lhs; whnf)) ?_; refine gO ?_; refine gc_seq ?_; refine gc_seq ?_; refine gc_region ?_; refine gM rfl rfl (by conv => (lhs; whnf)) ?_; refine gL rfl rfl rfl ?_; refine gM rfl rfl (by conv => (lhs; whnf)) ?_; refine gO ?_; refine gc_block ?_)
  refine gc_loop (σ := Nat) [24, 25, 7, 26, 27, 28, 29, 30, 31, 32, 33, 34, 35, 36, 37, 38, 39, 40, 41, 42, 43, 23] (fun k => [(23, .int .i64 k)]) (fun k => [Box b 3 ((shP a n k).map (Value.int .i64)).toArray]) (fun k => k ≤ n) (fun k => n - k) 0 (Nat.zero_le _) ⟨rfl, trivial⟩ (.cons .here .nil) ?_
  rintro k base hk
  have hpl := shP_len a n k
  focus (refine gc_seq ?_; refine gc_region ?_; refine gC rfl rfl rfl rfl rfl ?_; refine gO ?_; refine gc_seq ?_)
  refine gc_if_dec rfl (fun h => ?_) (fun h => ?_)
  · have hlt : k < n := by omega
    focus (refine gc_skip ?_; refine gx_next ?_; refine gc_seq ?_; refine gc_block ?_; refine gc_seq ?_; refine gc_region ?_; refine gM rfl rfl (by conv => (lhs; whnf)) ?_; refine gM rfl rfl (by conv => (lhs; whnf)) ?_; refine gN ?_; refine gM rfl rfl (by conv => (lhs; whnf)) ?_; refine gM rfl rfl (by conv => (lhs; whnf)) ?_; refine gM rfl rfl (by conv => (lhs; whnf)) ?_; refine gM rfl rfl (by conv => (lhs; whnf)) ?_; apply gw_d; exact det_quo rfl rfl rfl rfl (by omega) (by omega) (by omega); apply gw_d; exact w_index rfl rfl rfl rfl (by with_reducible exact rfl) (by omega))
    refine w_store_row (n := 1) (v := .int .i64 (a / (n : Int))) rfl rfl rfl rfl rfl .here (by simp; omega) (row_set (Value.int .i64) (by omega) _) ?_
    have hg : ((((shP a n k).set k (a / (n : Int))).map (Value.int .i64)).toArray)[k * 1]? = some (.int .i64 (((shP a n k).set k (a / (n : Int))).getD k 0)) := row_get (Value.int .i64) 0 (by simp; omega)
    have hg2 : ((shP a n k).set k (a / (n : Int))).getD k 0 = a / (n : Int) := by simp [hpl, hlt]
    rw [hg2] at hg
    have hr := shF_range (n := n) (i := k) ha.1 ha.2
    have hq : a / (n : Int) ≤ a := Int.ediv_le_self _ ha.1
    have hq0 : 0 ≤ a / (n : Int) := Int.ediv_nonneg ha.1 (by omega)
    focus (refine gN ?_; refine gM rfl rfl (by conv => (lhs; whnf)) ?_; refine gM rfl rfl (by conv => (lhs; whnf)) ?_; refine gM rfl rfl (by conv => (lhs; whnf)) ?_; apply gw_d; exact det_rem rfl rfl rfl rfl (by omega) (by omega); refine gC rfl rfl rfl rfl rfl ?_; refine gO ?_)
    refine gc_if_dec rfl (fun h2 => ?_) (fun h2 => ?_)
    · focus (refine gc_region ?_; refine gM rfl rfl (by conv => (lhs; whnf)) ?_; refine gM rfl rfl (by conv => (lhs; whnf)) ?_; apply gw_d; exact w_index rfl rfl rfl rfl (by with_reducible exact rfl) (by omega); apply gw_d; exact w_load_row rfl rfl rfl .here hg; apply gw_d; exact det_ar rfl rfl rfl rfl rfl (by omega); apply gw_d; exact w_index rfl rfl rfl rfl (by with_reducible exact rfl) (by omega))
      refine w_store_row (n := 1) (v := .int .i64 (a / (n : Int) + 1)) rfl rfl rfl rfl rfl .here (by simp; omega) (row_set (Value.int .i64) (by simp; omega) _) ?_
      focus (refine gw_nil ?_; refine gx_block ?_; refine gx_next ?_; refine gc_region ?_; apply gw_d; exact det_ar rfl rfl rfl rfl rfl (by omega); refine gM rfl rfl (by conv => (lhs; whnf)) ?_; refine gw_nil ?_)
      refine gx_round (k + 1) hlt (by omega) (by repeat (first | exact Keeps.refl | refine Keeps.upd rfl ?_ | refine Keeps.sets rfl ?_ | refine Keeps.havoc rfl ?_)) ⟨rfl, trivial⟩ ?_
      have e : (((shP a n k).set k (a / (n : Int))).set k (a / (n : Int) + 1)) = shP a n (k + 1) := by
        rw [List.set_set, ← shP_next a hlt]
        unfold shF
        rw [if_pos h2]
      rw [e]
      exact .cons .here .nil
    · focus (refine gc_skip ?_; refine gx_block ?_; refine gx_next ?_; refine gc_region ?_; apply gw_d; exact det_ar rfl rfl rfl rfl rfl (by omega); refine gM rfl rfl (by conv => (lhs; whnf)) ?_; refine gw_nil ?_)
      refine gx_round (k + 1) hlt (by omega) (by repeat (first | exact Keeps.refl | refine Keeps.upd rfl ?_ | refine Keeps.sets rfl ?_ | refine Keeps.havoc rfl ?_)) ⟨rfl, trivial⟩ ?_
      have e : ((shP a n k).set k (a / (n : Int))) = shP a n (k + 1) := by
        rw [← shP_next a hlt]
        unfold shF
        rw [if_neg h2]
      rw [e]
      exact .cons .here .nil
  · obtain rfl : k = n := by omega
    rw [shP_full]
    focus (refine gc_exit ?_; refine gx_then_exit ?_; refine gx_then_exit ?_; refine gx_block_exit ?_; refine gx_next ?_; refine gc_seq ?_; refine gc_region ?_; refine gM rfl rfl (by conv => (lhs; whnf)) ?_; refine gM rfl rfl (by conv => (lhs; whnf)) ?_; refine gM rfl rfl (by conv => (lhs; whnf)) ?_; refine gO ?_; refine gc_ret ?_)
    exact gx_ret2 (u := .slice _ _ _) (v := .int _ _) rfl rfl rfl (fun w' s => ⟨b, rfl, s.sep⟩)
end Go.Proofs.YtckhibfbdnoigaaGreatDoor

/- Contracts: styles. -/
namespace Go.Proofs.YtckhibfbdnoigaaGreatDoor
open Go.RowKit
set_option maxRecDepth 100000
set_option maxHeartbeats 1000000

def useE (s : Sty) (k : Nat) : Int := match s.uses[k]? with
  | some u => if u.1 < 0 ∨ u.1 ≥ s.pieces.length ∨ u.2.1 < 1 ∨ u.2.1 > 4 then 3 else 0
  | none => 0
def seamE (s : Sty) (k : Nat) : Int := match s.seams[k]? with
  | some u => if isEdgeB s u.1 u.2.1 = true ∧ isEdgeB s u.2.2.1 u.2.2.2.1 = true then if u.2.2.2.2.2 < 0 then 1 else 0 else 3
  | none => 0
def pieceAt (s : Sty) (pl : Pc → Int) (k : Nat) : Int := match s.pieces[k]? with
  | some p => pieceE (s.pieces.take k) p (pl p)
  | none => 0
def styleE (s : Sty) (pl : Pc → Int) : Int := if ¬ wholeE s = 0 then wholeE s else if ¬ firstE (pieceAt s pl) s.pieces.length = 0 then firstE (pieceAt s pl) s.pieces.length else
  if ¬ firstE (useE s) s.uses.length = 0 then firstE (useE s) s.uses.length else firstE (seamE s) s.seams.length
def plE (p : Pc) : Int := placedE p.edges p.corners p.notches
theorem style_ok (w : World) (v : Value) (s : Sty) (hs : StyV w w.heap.size v s) : Ok Tryz.prog 72 [v].toArray w fun r _ => r = .int .i64 (styleE s plE) := by
  have hs' := hs
  obtain ⟨As, cs, Am, cm, Ap, cp, Au, cu, Ae, ce, Ao, co, rfl, hnm, h1, h2, h3, h4, h5, h6⟩ := hs
  obtain ⟨_, _, hv, hpc, hpm⟩ := len_small h3
  injection hv with e1 e2 e3
  subst e1 e3
  obtain ⟨_, _, hv, huc, hum⟩ := len_small h4
  injection hv with e1 e2 e3
  subst e1 e3
  obtain ⟨_, _, hv, hec, hem⟩ := len_small h5
  injection hv with e1 e2 e3
  subst e1 e3
  refine ok_enter Tryz.func72 rfl Tryz.ntmps72 rfl ?_
  focus (refine gc_seq ?_; refine gc_region ?_; refine gw_boxd (v := .agg _) rfl rfl (fun _ => ?_); refine gM rfl rfl (by conv => (lhs; whnf)) ?_; refine gO ?_; refine gc_seq ?_; refine gc_seq ?_; refine gc_region ?_; apply gw_d; exact w_load_boxN rfl rfl rfl .here rfl; apply gw_d; exact w_call rfl rfl (fun w s => whole_ok w _ _ (hs'.later s)) rfl; refine gM rfl rfl (by conv => (lhs; whnf)) ?_; refine gN ?_; refine gM rfl rfl (by conv => (lhs; whnf)) ?_; refine gC rfl rfl rfl rfl rfl ?_; refine gO ?_)
  refine gc_if_dec rfl (fun h => ?_) (fun h => ?_)
  · focus (refine gc_seq ?_; refine gc_region ?_; refine gM rfl rfl (by conv => (lhs; whnf)) ?_; refine gM rfl rfl (by conv => (lhs; whnf)) ?_; refine gO ?_; refine gc_ret ?_; refine gx_then_ret ?_)
    refine gx_ret1 (v := .int _ _) rfl rfl (fun _ _ => ?_)
    unfold styleE
    rw [if_pos h]
  focus (refine gc_skip ?_; refine gx_next ?_; refine gc_seq ?_; refine gc_seq ?_; refine gc_region ?_; refine gF rfl rfl rfl ?_; apply gw_d; exact w_load_box rfl rfl rfl .here rfl; refine gL rfl rfl rfl ?_; refine gM rfl rfl (by conv => (lhs; whnf)) ?_; refine gO ?_; refine gc_block ?_)
  refine gc_loopK (σ := Nat) [20, 21, 22, 23, 5, 4, 24, 25, 26, 27, 28, 29, 6, 30, 31, 32, 2, 33, 19] (fun k => [(19, .int .i64 k)]) (fun k => k ≤ s.pieces.length ∧ firstE (pieceAt s plE) k = 0) (fun k => s.pieces.length - k) 0 ⟨Nat.zero_le _, rfl⟩ ⟨rfl, trivial⟩ ?_
  rintro k base ⟨hk, hI⟩
  focus (refine gc_seq ?_; refine gc_region ?_; refine gC rfl rfl rfl rfl rfl ?_; refine gO ?_; refine gc_seq ?_)
  refine gc_if_dec rfl (fun h9 => ?_) (fun h9 => ?_)
  · have hlt : k < s.pieces.length := by omega
    obtain ⟨ad, _, hv, _, _, hb, hcell⟩ := h3.at' 7 rfl (by omega)
    injection hv with e1 e2 e3
    subst e1 e3
    obtain ⟨cs', hce, Ae', ce', An', cn', Ac', cc', Aw', cw', rfl, ⟨q1, _⟩, q2, q3, q4, q5⟩ := hcell k hlt
    unfold maxLen at q1
    have q2' : Sl rEdge w w.heap.size (.slice Ae' s.pieces[k].edges.length ce') s.pieces[k].edges := q2
    have q3' : Sl rSpot w w.heap.size (.slice An' s.pieces[k].notches.length cn') s.pieces[k].notches := q3
    have q4' : Sl rSpot w w.heap.size (.slice Ac' s.pieces[k].corners.length cc') s.pieces[k].corners := q4
    have q5' : Sl rInt w w.heap.size (.slice Aw' s.pieces[k].widths.length cw') s.pieces[k].widths := q5
    have q6' := h3.take (m := k) (by omega)
    focus (refine gc_skip ?_; refine gx_next ?_; refine gc_seq ?_; refine gc_block ?_; refine gc_seq ?_; refine gc_region ?_; refine gM rfl rfl (by conv => (lhs; whnf)) ?_; apply gw_d; exact w_index rfl rfl rfl rfl (by with_reducible exact rfl) (by omega); apply gw_d; exact w_load_elem rfl rfl rfl (by assumption) (by assumption) (by rfl); refine w_alloc rfl (fun _ => ?_); refine gM rfl rfl (by conv => (lhs; whnf)) ?_; refine w_store_all rfl rfl rfl rfl rfl .here rfl ?_; refine gO ?_; refine gc_seq ?_)
    refine gc_draw 6 (by kernel_rfl) (by kernel_rfl) ?_
    have hC : ∀ (L : List Res) (w' : World), St w L w' → Ok Tryz.prog 88 [.slice (some ad) k cp, .agg #[.string s.pieces[k].name, .slice Ae' s.pieces[k].edges.length ce', .int .i64 s.pieces[k].grain, .slice An' s.pieces[k].notches.length cn', .slice Ac' s.pieces[k].corners.length cc', .slice Aw' s.pieces[k].widths.length cw', .bool s.pieces[k].mt]].toArray w' fun r _ => r = .int .i64 (pieceE (s.pieces.take k) s.pieces[k] (plE s.pieces[k])) := fun L w s' => checkPiece_ok w (.slice (some ad) k cp) (s.pieces.take k) s.pieces[k] Ae' An' Ac' Aw' ce' cn' cc' cw' (q6'.later s') (q2'.later s') (q4'.later s') (q3'.later s') (q5'.later s') (by omega)
    focus (apply gd_d; exact w_field rfl rfl rfl; apply gd_d; exact w_load_box rfl rfl rfl (.there .here) rfl; apply gd_d; exact det_m rfl rfl (by conv => (lhs; whnf)); apply gd_d; exact w_cut_hi rfl rfl rfl rfl (by with_reducible exact rfl) (by omega); apply gd_d; exact w_load_boxN rfl rfl rfl .here rfl; apply gd_d; exact w_call rfl rfl (hC _) rfl; refine gd_nil ?_; refine gM rfl rfl (by conv => (lhs; whnf)) ?_; refine gN ?_; refine gM rfl rfl (by conv => (lhs; whnf)) ?_; refine gC rfl rfl rfl rfl rfl ?_; refine gO ?_)
    have hat : pieceAt s plE k = pieceE (s.pieces.take k) s.pieces[k] (plE s.pieces[k]) := by unfold pieceAt; rw [List.getElem?_eq_getElem hlt]
    refine gc_if_dec rfl (fun h => ?_) (fun h => ?_)
    · focus (refine gc_seq ?_; refine gc_region ?_; refine gM rfl rfl (by conv => (lhs; whnf)) ?_; refine gM rfl rfl (by conv => (lhs; whnf)) ?_; refine gO ?_; refine gc_ret ?_; refine gx_block_ret ?_; refine gx_then_ret ?_; refine gx_then_ret ?_; refine gx_block_ret ?_; refine gx_then_ret ?_)
      refine gx_ret1 (v := .int _ _) rfl rfl (fun _ _ => ?_)
      rw [← hat] at h ⊢
      unfold styleE
      rw [if_neg ‹_›, firstE_stop hI h hlt, if_pos h]
    · focus (refine gc_skip ?_; refine gx_block ?_; refine gx_next ?_; refine gc_region ?_; apply gw_d; exact det_ar rfl rfl rfl rfl rfl (by omega); refine gM rfl rfl (by conv => (lhs; whnf)) ?_; refine gw_nil ?_)
      exact gx_round (k + 1) ⟨by omega, firstE_snoc hI (by rw [hat]; simpa using h)⟩ (by omega) (by repeat (first | exact Keeps.refl | refine Keeps.upd rfl ?_ | refine Keeps.sets rfl ?_ | refine Keeps.havoc rfl ?_)) ⟨rfl, trivial⟩ Sub.tail
  obtain rfl : k = s.pieces.length := by omega
  focus (refine gc_exit ?_; refine gx_then_exit ?_; refine gx_then_exit ?_; refine gx_block_exit ?_; refine gx_next ?_; refine gc_seq ?_; refine gc_seq ?_; refine gc_region ?_; refine gF rfl rfl rfl ?_; apply gw_d; exact w_load_box rfl rfl rfl .here rfl; refine gL rfl rfl rfl ?_; refine gM rfl rfl (by conv => (lhs; whnf)) ?_; refine gO ?_; refine gc_block ?_)
  refine gc_loopK (σ := Nat) [38, 39, 40, 8, 41, 42, 43, 44, 45, 46, 47, 48, 49, 50, 51, 52, 53, 54, 55, 56, 57, 58, 59, 60, 61, 2, 62, 37] (fun k => [(37, .int .i64 k)]) (fun k => k ≤ s.uses.length ∧ firstE (useE s) k = 0) (fun k => s.uses.length - k) 0 ⟨Nat.zero_le _, rfl⟩ ⟨rfl, trivial⟩ ?_
  rintro k base2 ⟨hk2, hJ⟩
  focus (refine gc_seq ?_; refine gc_region ?_; refine gC rfl rfl rfl rfl rfl ?_; refine gO ?_; refine gc_seq ?_)
  refine gc_if_dec rfl (fun h8 => ?_) (fun h8 => ?_)
  · have hlt : k < s.uses.length := by omega
    obtain ⟨ad, _, hv, _, _, hb, hcell⟩ := h4.at' 3 rfl (by omega)
    injection hv with e1 e2 e3
    subst e1 e3
    obtain ⟨cs', hce, rfl, _⟩ := hcell k hlt
    have hat : useE s k = if s.uses[k].1 < 0 ∨ s.uses[k].1 ≥ s.pieces.length ∨ s.uses[k].2.1 < 1 ∨ s.uses[k].2.1 > 4 then 3 else 0 := by unfold useE; rw [List.getElem?_eq_getElem hlt]
    have hbad : (s.uses[k].1 < 0 ∨ s.uses[k].1 ≥ s.pieces.length ∨ s.uses[k].2.1 < 1 ∨ s.uses[k].2.1 > 4) → styleE s plE = 3 := fun h => by
      rw [if_pos h] at hat
      unfold styleE
      rw [if_neg ‹_›, if_neg (by rw [hI]; decide), firstE_stop hJ (by rw [hat]; decide) hlt, hat]
      exact if_pos (by decide)
    focus (refine gc_skip ?_; refine gx_next ?_; refine gc_seq ?_; refine gc_block ?_; refine gc_seq ?_; refine gc_region ?_; apply gw_d; exact w_index rfl rfl rfl rfl (by with_reducible exact rfl) (by omega); apply gw_d; exact w_load_elem rfl rfl rfl (by assumption) (by assumption) (by rfl); refine w_alloc rfl (fun _ => ?_); refine w_store_all rfl rfl rfl rfl rfl .here rfl ?_; refine gN ?_; refine gF rfl rfl rfl ?_; apply gw_d; exact w_load_box rfl rfl rfl .here rfl; refine gC rfl rfl rfl rfl rfl ?_; refine gM rfl rfl (by conv => (lhs; whnf)) ?_; refine gw_guard_dec rfl rfl (fun _ => ?_) (fun _ => ?_); refine gU rfl ?_; refine gU rfl ?_; refine gU rfl ?_; refine gU rfl ?_; refine gU rfl ?_; refine gU rfl ?_; apply gw_d; exact det_pick_t (v := .bool _) rfl rfl rfl rfl; refine gM rfl rfl (by conv => (lhs; whnf)) ?_; refine gU rfl ?_; refine gU rfl ?_; refine gU rfl ?_; apply gw_d; exact det_pick_t (v := .bool _) rfl rfl rfl rfl; refine gM rfl rfl (by conv => (lhs; whnf)) ?_; refine gU rfl ?_; refine gU rfl ?_; refine gU rfl ?_; apply gw_d; exact det_pick_t (v := .bool _) rfl rfl rfl rfl; refine gO ?_; refine gc_if_true rfl ?_; refine gc_seq ?_; refine gc_region ?_; refine gM rfl rfl (by conv => (lhs; whnf)) ?_; refine gO ?_; refine gc_ret ?_; refine gx_block_ret ?_; refine gx_then_ret ?_; refine gx_then_ret ?_; refine gx_block_ret ?_; refine gx_then_ret ?_; rotate_left; refine gF rfl rfl rfl ?_; apply gw_d; exact w_load_box rfl rfl rfl .here rfl; refine gF rfl rfl rfl ?_; apply gw_d; exact w_load_box rfl rfl rfl (.there .here) rfl; refine gL rfl rfl rfl ?_; refine gC rfl rfl rfl rfl rfl ?_; apply gw_d; exact det_pick_f (v := .bool _) rfl rfl rfl rfl; refine gM rfl rfl (by conv => (lhs; whnf)) ?_; refine gw_guard_dec rfl rfl (fun _ => ?_) (fun _ => ?_); refine gU rfl ?_; refine gU rfl ?_; refine gU rfl ?_; apply gw_d; exact det_pick_t (v := .bool _) rfl rfl rfl rfl; refine gM rfl rfl (by conv => (lhs; whnf)) ?_; refine gU rfl ?_; refine gU rfl ?_; refine gU rfl ?_; apply gw_d; exact det_pick_t (v := .bool _) rfl rfl rfl rfl; refine gO ?_; refine gc_if_true rfl ?_; refine gc_seq ?_; refine gc_region ?_; refine gM rfl rfl (by conv => (lhs; whnf)) ?_; refine gO ?_; refine gc_ret ?_; refine gx_block_ret ?_; refine gx_then_ret ?_; refine gx_then_ret ?_; refine gx_block_ret ?_; refine gx_then_ret ?_; rotate_left; refine gF rfl rfl rfl ?_; apply gw_d; exact w_load_box rfl rfl rfl .here rfl; refine gC rfl rfl rfl rfl rfl ?_; apply gw_d; exact det_pick_f (v := .bool _) rfl rfl rfl rfl; refine gM rfl rfl (by conv => (lhs; whnf)) ?_; refine gw_guard_dec rfl rfl (fun _ => ?_) (fun _ => ?_); refine gU rfl ?_; refine gU rfl ?_; refine gU rfl ?_; apply gw_d; exact det_pick_t (v := .bool _) rfl rfl rfl rfl; refine gO ?_; refine gc_if_true rfl ?_; refine gc_seq ?_; refine gc_region ?_; refine gM rfl rfl (by conv => (lhs; whnf)) ?_; refine gO ?_; refine gc_ret ?_; refine gx_block_ret ?_; refine gx_then_ret ?_; refine gx_then_ret ?_; refine gx_block_ret ?_; refine gx_then_ret ?_; rotate_left; refine gF rfl rfl rfl ?_; apply gw_d; exact w_load_box rfl rfl rfl .here rfl; refine gC rfl rfl rfl rfl rfl ?_; apply gw_d; exact det_pick_f (v := .bool _) rfl rfl rfl rfl; refine gO ?_; refine gc_if_dec rfl (fun _ => ?_) (fun _ => ?_); refine gc_seq ?_; refine gc_region ?_; refine gM rfl rfl (by conv => (lhs; whnf)) ?_; refine gO ?_; refine gc_ret ?_; refine gx_block_ret ?_; refine gx_then_ret ?_; refine gx_then_ret ?_; refine gx_block_ret ?_; refine gx_then_ret ?_; rotate_left; refine gc_skip ?_; refine gx_block ?_; refine gx_next ?_; refine gc_region ?_; apply gw_d; exact det_ar rfl rfl rfl rfl rfl (by omega); refine gM rfl rfl (by conv => (lhs; whnf)) ?_; refine gw_nil ?_; rotate_left)
    · refine gx_ret1 (v := .int _ _) rfl rfl (fun _ _ => ?_)
      rw [hbad (by omega)]
    · refine gx_ret1 (v := .int _ _) rfl rfl (fun _ _ => ?_)
      rw [hbad (by omega)]
    · refine gx_ret1 (v := .int _ _) rfl rfl (fun _ _ => ?_)
      rw [hbad (by omega)]
    · refine gx_ret1 (v := .int _ _) rfl rfl (fun _ _ => ?_)
      rw [hbad (by omega)]
    · exact gx_round (k + 1) ⟨by omega, firstE_snoc hJ (by rw [hat, if_neg (by omega)])⟩ (by omega) (by repeat (first | exact Keeps.refl | refine Keeps.upd rfl ?_ | refine Keeps.sets rfl ?_ | refine Keeps.havoc rfl ?_)) ⟨rfl, trivial⟩ Sub.tail
  obtain rfl : k = s.uses.length := by omega
  focus (refine gc_exit ?_; refine gx_then_exit ?_; refine gx_then_exit ?_; refine gx_block_exit ?_; refine gx_next ?_; refine gc_seq ?_; refine gc_seq ?_; refine gc_region ?_; refine gF rfl rfl rfl ?_; apply gw_d; exact w_load_box rfl rfl rfl .here rfl; refine gL rfl rfl rfl ?_; refine gM rfl rfl (by conv => (lhs; whnf)) ?_; refine gO ?_; refine gc_block ?_)
  refine gc_loopK (σ := Nat) [67, 68, 69, 10, 70, 71, 72, 73, 74, 75, 76, 77, 78, 79, 80, 81, 82, 83, 84, 85, 2, 86, 87, 88, 89, 66] (fun k => [(66, .int .i64 k)]) (fun k => k ≤ s.seams.length ∧ firstE (seamE s) k = 0) (fun k => s.seams.length - k) 0 ⟨Nat.zero_le _, rfl⟩ ⟨rfl, trivial⟩ ?_
  rintro k base3 ⟨hk3, hK⟩
  focus (refine gc_seq ?_; refine gc_region ?_; refine gC rfl rfl rfl rfl rfl ?_; refine gO ?_; refine gc_seq ?_)
  refine gc_if_dec rfl (fun h7 => ?_) (fun h7 => ?_)
  · have hlt : k < s.seams.length := by omega
    obtain ⟨ad, _, hv, _, _, hb, hcell⟩ := h5.at' 6 rfl (by omega)
    injection hv with e1 e2 e3
    subst e1 e3
    obtain ⟨cs', hce, rfl⟩ := hcell k hlt
    have hat : seamE s k = if isEdgeB s s.seams[k].1 s.seams[k].2.1 = true ∧ isEdgeB s s.seams[k].2.2.1 s.seams[k].2.2.2.1 = true then if s.seams[k].2.2.2.2.2 < 0 then 1 else 0 else 3 := by unfold seamE; rw [List.getElem?_eq_getElem hlt]
    have hstop : ∀ x : Int, seamE s k = x → ¬ x = 0 → styleE s plE = x := fun x hx h => by
      unfold styleE
      rw [if_neg ‹_›, if_neg (by rw [hI]; decide), if_neg (by rw [hJ]; decide), firstE_stop hK (by rw [hx]; exact h) hlt, hx]
    focus (refine gc_skip ?_; refine gx_next ?_; refine gc_seq ?_; refine gc_block ?_; refine gc_seq ?_; refine gc_region ?_; apply gw_d; exact w_index rfl rfl rfl rfl (by with_reducible exact rfl) (by omega); apply gw_d; exact w_load_elem rfl rfl rfl (by assumption) (by assumption) (by rfl); refine w_alloc rfl (fun _ => ?_); refine w_store_all rfl rfl rfl rfl rfl .here rfl ?_; refine gO ?_; refine gc_seq ?_; refine gc_seq ?_; refine gc_region ?_; apply gw_d; exact w_load_boxN rfl rfl rfl (.there .here) rfl; refine gF rfl rfl rfl ?_; apply gw_d; exact w_load_box rfl rfl rfl .here rfl; refine gF rfl rfl rfl ?_; apply gw_d; exact w_load_box rfl rfl rfl .here rfl; apply gw_d; exact w_call rfl rfl (fun w s => isEdge_ok w _ _ _ _ (hs'.later s)) rfl; apply gw_d; exact det_not_ rfl rfl rfl; refine gM rfl rfl (by conv => (lhs; whnf)) ?_; refine gw_guard rfl rfl (fun _ => ?_) (fun _ => ?_); refine gU rfl ?_; refine gU rfl ?_; refine gU rfl ?_; refine gU rfl ?_; refine gU rfl ?_; refine gU rfl ?_; refine gU rfl ?_; apply gw_d; exact det_pick_t (v := .bool _) rfl rfl rfl rfl; refine gO ?_; refine gc_if_true rfl ?_; refine gc_seq ?_; refine gc_region ?_; refine gM rfl rfl (by conv => (lhs; whnf)) ?_; refine gO ?_; refine gc_ret ?_; refine gx_then_ret ?_; refine gx_block_ret ?_; refine gx_then_ret ?_; refine gx_then_ret ?_; refine gx_block_ret ?_; refine gx_then_ret ?_; rotate_left; apply gw_d; exact w_load_boxN rfl rfl rfl (.there .here) rfl; refine gF rfl rfl rfl ?_; apply gw_d; exact w_load_box rfl rfl rfl .here rfl; refine gF rfl rfl rfl ?_; apply gw_d; exact w_load_box rfl rfl rfl .here rfl; apply gw_d; exact w_call rfl rfl (fun w s => isEdge_ok w _ _ _ _ (hs'.later s)) rfl; apply gw_d; exact det_not_ rfl rfl rfl; apply gw_d; exact det_pick_f (v := .bool _) rfl rfl rfl rfl; refine gO ?_; refine gc_if rfl (fun _ => ?_) (fun _ => ?_); refine gc_seq ?_; refine gc_region ?_; refine gM rfl rfl (by conv => (lhs; whnf)) ?_; refine gO ?_; refine gc_ret ?_; refine gx_then_ret ?_; refine gx_block_ret ?_; refine gx_then_ret ?_; refine gx_then_ret ?_; refine gx_block_ret ?_; refine gx_then_ret ?_; rotate_left; refine gc_skip ?_; refine gx_next ?_; refine gc_seq ?_; refine gc_region ?_; refine gF rfl rfl rfl ?_; apply gw_d; exact w_load_box rfl rfl rfl .here rfl; refine gC rfl rfl rfl rfl rfl ?_; refine gO ?_; refine gc_if_dec rfl (fun _ => ?_) (fun _ => ?_); refine gc_seq ?_; refine gc_region ?_; refine gM rfl rfl (by conv => (lhs; whnf)) ?_; refine gO ?_; refine gc_ret ?_; refine gx_block_ret ?_; refine gx_then_ret ?_; refine gx_then_ret ?_; refine gx_block_ret ?_; refine gx_then_ret ?_; rotate_left; refine gc_skip ?_; refine gx_block ?_; refine gx_next ?_; refine gc_region ?_; apply gw_d; exact det_ar rfl rfl rfl rfl rfl (by omega); refine gM rfl rfl (by conv => (lhs; whnf)) ?_; refine gw_nil ?_; rotate_left)
    · refine gx_ret1 (v := .int _ _) rfl rfl (fun _ _ => ?_)
      rename_i h _ _
      rw [hstop 3 (by rw [hat, if_neg (by simp at h; simp [h])]) (by decide)]
    · refine gx_ret1 (v := .int _ _) rfl rfl (fun _ _ => ?_)
      rename_i h _ _
      rw [hstop 3 (by rw [hat, if_neg (by simp at h; simp [h])]) (by decide)]
    · refine gx_ret1 (v := .int _ _) rfl rfl (fun _ _ => ?_)
      rw [hstop 1 (by rw [hat, if_pos (by simp_all), if_pos (by assumption)]) (by decide)]
    · exact gx_round (k + 1) ⟨by omega, firstE_snoc hK (by rw [hat, if_pos (by simp_all), if_neg (by assumption)])⟩ (by omega) (by repeat (first | exact Keeps.refl | refine Keeps.upd rfl ?_ | refine Keeps.sets rfl ?_ | refine Keeps.havoc rfl ?_)) ⟨rfl, trivial⟩ Sub.tail
  obtain rfl : k = s.seams.length := by omega
  focus (refine gc_exit ?_; refine gx_then_exit ?_; refine gx_then_exit ?_; refine gx_block_exit ?_; refine gx_next ?_; refine gc_seq ?_; refine gc_region ?_; refine gM rfl rfl (by conv => (lhs; whnf)) ?_; refine gO ?_; refine gc_ret ?_)
  refine gx_ret1 (v := .int _ _) rfl rfl (fun _ _ => ?_)
  unfold styleE
  rw [if_neg ‹_›, if_neg (by rw [hI]; decide), if_neg (by rw [hJ]; decide), hK]
end Go.Proofs.YtckhibfbdnoigaaGreatDoor

/- Contracts: operation.Check for every style. -/
namespace Go.Proofs.YtckhibfbdnoigaaGreatDoor
open Go.RowKit
set_option maxRecDepth 100000
set_option maxHeartbeats 2000000

def markIn (bs : List Bool) (us : List Int) : List Bool := us.foldl (fun bs u => bs.set u.toNat true) bs
def marks (n : Nat) (l : List Opn) : List Bool := l.foldl (fun bs o => markIn bs o.uses) (List.replicate n false)
def opCheckE (s : Sty) (pl : Pc → Int) : Int := if ¬ styleE s pl = 0 then styleE s pl else if ¬ listE s.ops s.uses.length = 0 then listE s.ops s.uses.length else if (marks s.uses.length s.ops).all id = true then 0 else 20
theorem markIn_len (us : List Int) : ∀ bs, (markIn bs us).length = bs.length := by
  induction us with
  | nil => intro bs; rfl
  | cons u us ih => intro bs; exact (ih _).trans (by simp)
theorem marks_len (n : Nat) (l : List Opn) : (marks n l).length = n := by
  unfold marks
  suffices h : ∀ (l : List Opn) (bs : List Bool), (l.foldl (fun bs o => markIn bs o.uses) bs).length = bs.length by rw [h]; simp
  intro l
  induction l with
  | nil => intro bs; rfl
  | cons x o ih => intro bs; exact (ih _).trans (markIn_len _ _)
theorem marks_snoc {n : Nat} {l : List Opn} {k : Nat} (hk : k < l.length) : marks n (l.take (k + 1)) = markIn (marks n (l.take k)) l[k].uses := by
  unfold marks
  rw [List.take_succ_eq_append_getElem hk, List.foldl_append]
  rfl
theorem markIn_snoc {bs : List Bool} {us : List Int} {k : Nat} (hk : k < us.length) : markIn bs (us.take (k + 1)) = (markIn bs (us.take k)).set us[k].toNat true := by
  unfold markIn
  rw [List.take_succ_eq_append_getElem hk, List.foldl_append]
  rfl
theorem list_uses {l : List Opn} {n : Nat} (he : listE l n = 0) {i : Nat} (hi : i < l.length) : ∀ x ∈ l[i].uses, 0 ≤ x ∧ x < (n : Int) := by
  have h16 : ¬ 16 < l.length := fun h => by unfold listE at he; rw [if_pos h] at he; cases he
  have hI0 : firstE (opE l n) l.length = 0 := by
    unfold listE at he
    rw [if_neg h16] at he
    split at he
    · rename_i h1; exact absurd he h1
    · rename_i h1; simpa using h1
  have h1 := firstE_at hI0 i hi
  unfold opE at h1
  rw [List.getElem?_eq_getElem hi] at h1
  dsimp only at h1
  split at h1
  · cases h1
  · split at h1
    · cases h1
    · split at h1
      · cases h1
      · split at h1
        · cases h1
        · rename_i h3
          refine areIx_at ?_
          cases hb : areIx l[i].uses n with
          | true => rfl
          | false => exact absurd (.inr ⟨by omega, hb⟩) h3

theorem style_uses {s : Sty} {pl : Pc → Int} (hS0 : styleE s pl = 0) : s.uses.length ≤ 12 := by
  unfold styleE at hS0
  split at hS0
  · rename_i h; exact absurd hS0 h
  · rename_i h
    have hw : wholeE s = 0 := by simpa using h
    unfold wholeE at hw
    repeat' split at hw
    all_goals first | omega | cases hw

theorem opCheck_ok (w : World) (v : Value) (s : Sty) (hs : StyV w w.heap.size v s) : Ok Tryz.prog 63 [v].toArray w fun r _ => r = .int .i64 (opCheckE s plE) := by
  have hs' := hs
  obtain ⟨As, cs, Am, cm, Ap, cp, Au, cu, Ae, ce, Ao, co, rfl, hnm, h1, h2, h3, h4, h5, h6⟩ := hs
  obtain ⟨_, _, hv, huc, hum⟩ := len_small h4
  injection hv with e1 e2 e3
  subst e1 e3
  obtain ⟨_, _, hv, hoc, hom⟩ := len_small h6
  injection hv with e1 e2 e3
  subst e1 e3
  refine ok_enter Tryz.func63 rfl Tryz.ntmps63 rfl ?_
  focus (refine gc_seq ?_; refine gc_region ?_; refine gw_boxd (v := .agg _) rfl rfl (fun _ => ?_); refine gM rfl rfl (by conv => (lhs; whnf)) ?_; refine gO ?_; refine gc_seq ?_; refine gc_seq ?_; refine gc_region ?_; apply gw_d; exact w_load_boxN rfl rfl rfl .here rfl; apply gw_d; exact w_call rfl rfl (fun w s => style_ok w _ _ (hs'.later s)) rfl; refine gM rfl rfl (by conv => (lhs; whnf)) ?_; refine gN ?_; refine gM rfl rfl (by conv => (lhs; whnf)) ?_; refine gC rfl rfl rfl rfl rfl ?_; refine gO ?_)
  refine gc_if_dec rfl (fun h => ?_) (fun h => ?_)
  · focus (refine gc_seq ?_; refine gc_region ?_; refine gM rfl rfl (by conv => (lhs; whnf)) ?_; refine gM rfl rfl (by conv => (lhs; whnf)) ?_; refine gO ?_; refine gc_ret ?_; refine gx_then_ret ?_)
    refine gx_ret1 (v := .int _ _) rfl rfl (fun _ _ => ?_)
    unfold opCheckE
    rw [if_pos h]
  have hS0 : styleE s plE = 0 := by simpa using h
  have hu12 := style_uses hS0
  by_cases he : listE s.ops s.uses.length = 0
  · focus (refine gc_skip ?_; refine gx_next ?_; refine gc_seq ?_; refine gc_seq ?_; refine gc_region ?_; refine gF rfl rfl rfl ?_; apply gw_d; exact w_load_box rfl rfl rfl .here rfl; refine gF rfl rfl rfl ?_; apply gw_d; exact w_load_box rfl rfl rfl .here rfl; refine gL rfl rfl rfl ?_)
    refine gw_callm rfl (fun w s' => checkList_good w _ s.ops s.uses.length (h6.later s') he) rfl (fun x => ?_)
    obtain ⟨A, c⟩ := x
    focus (refine gM rfl rfl (by conv => (lhs; whnf)) ?_; apply gw_d; exact det_extract rfl rfl rfl (by conv => (lhs; whnf)); apply gw_d; exact det_extract rfl rfl rfl (by conv => (lhs; whnf)); refine gM rfl rfl (by conv => (lhs; whnf)) ?_; refine gM rfl rfl (by conv => (lhs; whnf)) ?_; refine gN ?_; refine gM rfl rfl (by conv => (lhs; whnf)) ?_; refine gC rfl rfl rfl rfl rfl ?_; refine gO ?_)
    refine gc_if_dec rfl (fun h => absurd rfl h) (fun _ => ?_)
    focus (refine gc_skip ?_; refine gx_next ?_; refine gc_seq ?_; refine gc_region ?_; refine gF rfl rfl rfl ?_; apply gw_d; exact w_load_box rfl rfl rfl (.there .here) rfl; refine gL rfl rfl rfl ?_)
    refine gw_make1 (n := s.uses.length) rfl rfl rfl rfl rfl (by omega) (by omega) rfl (fun b => ?_)
    rw [show Array.replicate s.uses.length ((Value.bool false).cells.getD 0 undef) = ((marks s.uses.length (s.ops.take 0)).map Value.bool).toArray from row_make Value.bool s.uses.length false]
    focus (refine gM rfl rfl (by conv => (lhs; whnf)) ?_; refine gO ?_; refine gc_seq ?_; refine gc_seq ?_; refine gc_region ?_; refine gF rfl rfl rfl ?_; apply gw_d; exact w_load_box rfl rfl rfl (.there (.there .here)) rfl; refine gL rfl rfl rfl ?_; refine gM rfl rfl (by conv => (lhs; whnf)) ?_; refine gO ?_; refine gc_block ?_)
    refine gc_loop (σ := Nat) [38, 39, 40, 8, 41, 42, 43, 44, 45, 46, 47, 10, 48, 49, 50, 51, 52, 37] (fun k => [(37, .int .i64 k)]) (fun k => [Box b 4 ((marks s.uses.length (s.ops.take k)).map Value.bool).toArray]) (fun k => k ≤ s.ops.length) (fun k => s.ops.length - k) 0 (Nat.zero_le _) ⟨rfl, trivial⟩ (.cons .here .nil) ?_
    rintro k base hk
    focus (refine gc_seq ?_; refine gc_region ?_; refine gC rfl rfl rfl rfl rfl ?_; refine gO ?_; refine gc_seq ?_)
    refine gc_if_dec rfl (fun h => ?_) (fun h => ?_)
    · have hlt : k < s.ops.length := by omega
      obtain ⟨ad, _, hv, _, _, hb, hcell⟩ := h6.at' 5 rfl (by omega)
      injection hv with e1 e2 e3
      subst e1 e3
      obtain ⟨cs', hce, Aa, ca, Au', cu', rfl, _, q1, q2⟩ := hcell k hlt
      have ha : Sl rInt w w.heap.size (.slice Au' s.ops[k].uses.length cu') s.ops[k].uses := q2
      obtain ⟨_, _, hv, hac, ham, hacell⟩ := ha.int
      injection hv with e1 e2 e3
      subst e1 e3
      have hus := list_uses he hlt
      have hsn := marks_snoc (n := s.uses.length) hlt
      have hml := marks_len s.uses.length (s.ops.take k)
      generalize marks s.uses.length (s.ops.take k) = bs at hsn hml ⊢
      focus (refine gc_skip ?_; refine gx_next ?_; refine gc_seq ?_; refine gc_block ?_; refine gc_seq ?_; refine gc_region ?_; apply gw_d; exact w_index rfl rfl rfl rfl (by with_reducible exact rfl) (by omega); apply gw_d; exact w_load_elem rfl rfl rfl (by assumption) (by assumption) (by rfl); refine w_alloc rfl (fun _ => ?_); refine w_store_all rfl rfl rfl rfl rfl .here rfl ?_; refine gN ?_; refine gF rfl rfl rfl ?_; apply gw_d; exact w_load_box rfl rfl rfl .here rfl; refine gL rfl rfl rfl ?_; refine gM rfl rfl (by conv => (lhs; whnf)) ?_; refine gO ?_; refine gc_block ?_)
      refine gc_loop (σ := Nat) [45, 46, 47, 10, 48, 49, 50, 51, 44] (fun j => [(44, .int .i64 j)]) (fun j => [Box b 4 ((markIn bs (s.ops[k].uses.take j)).map Value.bool).toArray]) (fun j => j ≤ s.ops[k].uses.length) (fun j => s.ops[k].uses.length - j) 0 (Nat.zero_le _) ⟨rfl, trivial⟩ (.cons (.there .here) .nil) ?_
      rintro j base2 hj
      focus (refine gc_seq ?_; refine gc_region ?_; refine gC rfl rfl rfl rfl rfl ?_; refine gO ?_; refine gc_seq ?_)
      refine gc_if_dec rfl (fun h2 => ?_) (fun h2 => ?_)
      · have hjl : j < s.ops[k].uses.length := by omega
        obtain ⟨ad2, rfl, hb2, hce2, _⟩ := hacell j hjl
        have hpr := hus s.ops[k].uses[j] (List.getElem_mem hjl)
        obtain ⟨p, hp⟩ : ∃ p : Nat, s.ops[k].uses[j] = (p : Int) := ⟨s.ops[k].uses[j].toNat, by omega⟩
        have hsn2 := markIn_snoc (bs := bs) hjl
        rw [hp] at hce2 hsn2
        rw [Int.toNat_natCast] at hsn2
        have hl2 := markIn_len (s.ops[k].uses.take j) bs
        focus (refine gc_skip ?_; refine gx_next ?_; refine gc_seq ?_; refine gc_block ?_; refine gc_seq ?_; refine gc_region ?_; apply gw_d; exact w_index rfl rfl rfl rfl (by with_reducible exact rfl) (by omega); apply gw_d; exact w_load_at rfl rfl rfl (by assumption) (by assumption); refine gM rfl rfl (by conv => (lhs; whnf)) ?_; refine gO ?_; refine gc_region ?_; refine gM rfl rfl (by conv => (lhs; whnf)) ?_; refine gM rfl rfl (by conv => (lhs; whnf)) ?_; apply gw_d; exact w_index rfl rfl rfl rfl (by with_reducible exact rfl) (by omega))
        refine w_store_row (n := 1) (v := .bool true) rfl rfl rfl rfl rfl .here (by simp; omega) (row_set Value.bool (by omega) true) ?_
        focus (refine gw_nil ?_; refine gx_block ?_; refine gx_next ?_; refine gc_region ?_; apply gw_d; exact det_ar rfl rfl rfl rfl rfl (by omega); refine gM rfl rfl (by conv => (lhs; whnf)) ?_; refine gw_nil ?_)
        refine gx_round (j + 1) hjl (by omega) (by repeat (first | exact Keeps.refl | refine Keeps.upd rfl ?_ | refine Keeps.sets rfl ?_ | refine Keeps.havoc rfl ?_)) ⟨rfl, trivial⟩ ?_
        rw [hsn2]
        exact .cons .here .nil
      · obtain rfl : j = s.ops[k].uses.length := by omega
        rw [List.take_length, ← hsn]
        focus (refine gc_exit ?_; refine gx_then_exit ?_; refine gx_then_exit ?_; refine gx_block_exit ?_; refine gx_block ?_; refine gx_next ?_; refine gc_region ?_; apply gw_d; exact det_ar rfl rfl rfl rfl rfl (by omega); refine gM rfl rfl (by conv => (lhs; whnf)) ?_; refine gw_nil ?_)
        exact gx_round (k + 1) hlt (by omega) (by repeat (first | exact Keeps.refl | refine Keeps.upd rfl ?_ | refine Keeps.sets rfl ?_ | refine Keeps.havoc rfl ?_)) ⟨rfl, trivial⟩ (Sub.all _)
    obtain rfl : k = s.ops.length := by omega
    rw [List.take_length]
    have hE : opCheckE s plE = if (marks s.uses.length s.ops).all id = true then 0 else 20 := by unfold opCheckE; rw [if_neg (by rw [hS0]; decide), if_neg (by rw [he]; decide)]
    rw [hE]
    have hml := marks_len s.uses.length s.ops
    generalize marks s.uses.length s.ops = bs at hml ⊢
    focus (refine gc_exit ?_; refine gx_then_exit ?_; refine gx_then_exit ?_; refine gx_block_exit ?_; refine gx_next ?_; refine gc_seq ?_; refine gc_seq ?_; refine gc_region ?_; refine gM rfl rfl (by conv => (lhs; whnf)) ?_; refine gL rfl rfl rfl ?_; refine gM rfl rfl (by conv => (lhs; whnf)) ?_; refine gO ?_; refine gc_block ?_)
    refine gc_loopK (σ := Nat) [56, 57, 58, 12, 59, 60, 2, 61, 55] (fun k => [(55, .int .i64 k)]) (fun k => k ≤ bs.length ∧ (bs.take k).all id = true) (fun k => bs.length - k) 0 ⟨Nat.zero_le _, rfl⟩ ⟨rfl, trivial⟩ ?_
    rintro k base3 ⟨hk3, hK⟩
    focus (refine gc_seq ?_; refine gc_region ?_; refine gC rfl rfl rfl rfl rfl ?_; refine gO ?_; refine gc_seq ?_)
    refine gc_if_dec rfl (fun h => ?_) (fun h => ?_)
    · have hlt : k < bs.length := by omega
      have hpc : (bs.map Value.bool).toArray[k * 1]? = some (.bool (bs.getD k false)) := row_get Value.bool false (by omega)
      have hg : bs.getD k false = bs[k] := by simp [hlt]
      rw [hg] at hpc
      focus (refine gc_skip ?_; refine gx_next ?_; refine gc_seq ?_; refine gc_block ?_; refine gc_seq ?_; refine gc_region ?_; apply gw_d; exact w_index rfl rfl rfl rfl (by with_reducible exact rfl) (by omega); apply gw_d; exact w_load_row rfl rfl rfl .here hpc; refine gM rfl rfl (by conv => (lhs; whnf)) ?_; refine gN ?_; refine gM rfl rfl (by conv => (lhs; whnf)) ?_; apply gw_d; exact det_not_ rfl rfl rfl; refine gO ?_)
      refine gc_if rfl (fun h3 => ?_) (fun h3 => ?_)
      · focus (refine gc_seq ?_; refine gc_region ?_; refine gM rfl rfl (by conv => (lhs; whnf)) ?_; refine gO ?_; refine gc_ret ?_; refine gx_block_ret ?_; refine gx_then_ret ?_; refine gx_then_ret ?_; refine gx_block_ret ?_; refine gx_then_ret ?_)
        refine gx_ret1 (v := .int _ _) rfl rfl (fun _ _ => ?_)
        rw [if_neg (by rw [Bool.not_eq_true, List.all_eq_false]; exact ⟨bs[k], List.getElem_mem hlt, by simpa using h3⟩)]
      · focus (refine gc_skip ?_; refine gx_block ?_; refine gx_next ?_; refine gc_region ?_; apply gw_d; exact det_ar rfl rfl rfl rfl rfl (by omega); refine gM rfl rfl (by conv => (lhs; whnf)) ?_; refine gw_nil ?_)
        exact gx_round (k + 1) ⟨hlt, by rw [List.take_succ_eq_append_getElem hlt, List.all_append, hK]; simpa using h3⟩ (by omega) (by repeat (first | exact Keeps.refl | refine Keeps.upd rfl ?_ | refine Keeps.sets rfl ?_ | refine Keeps.havoc rfl ?_)) ⟨rfl, trivial⟩ (Sub.all _)
    · obtain rfl : k = bs.length := by omega
      rw [List.take_length] at hK
      focus (refine gc_exit ?_; refine gx_then_exit ?_; refine gx_then_exit ?_; refine gx_block_exit ?_; refine gx_next ?_; refine gc_seq ?_; refine gc_region ?_; refine gM rfl rfl (by conv => (lhs; whnf)) ?_; refine gO ?_; refine gc_ret ?_)
      refine gx_ret1 (v := .int _ _) rfl rfl (fun _ _ => ?_)
      rw [if_pos hK]
  · have hE : opCheckE s plE = listE s.ops s.uses.length := by unfold opCheckE; rw [if_neg (by rw [hS0]; decide), if_pos he]
    rw [hE]
    focus (refine gc_skip ?_; refine gx_next ?_; refine gc_seq ?_; refine gc_seq ?_; refine gc_region ?_; refine gF rfl rfl rfl ?_; apply gw_d; exact w_load_box rfl rfl rfl .here rfl; refine gF rfl rfl rfl ?_; apply gw_d; exact w_load_box rfl rfl rfl .here rfl; refine gL rfl rfl rfl ?_; apply gw_d; exact w_call rfl rfl (fun w s' => checkList_bad w _ s.ops s.uses.length (h6.later s') he) rfl; refine gM rfl rfl (by conv => (lhs; whnf)) ?_; apply gw_d; exact det_extract rfl rfl rfl (by conv => (lhs; whnf)); apply gw_d; exact det_extract rfl rfl rfl (by conv => (lhs; whnf)); refine gM rfl rfl (by conv => (lhs; whnf)) ?_; refine gM rfl rfl (by conv => (lhs; whnf)) ?_; refine gN ?_; refine gM rfl rfl (by conv => (lhs; whnf)) ?_; refine gC rfl rfl rfl rfl rfl ?_; refine gO ?_)
    refine gc_if_dec rfl (fun _ => ?_) (fun h => absurd he h)
    focus (refine gc_seq ?_; refine gc_region ?_; refine gM rfl rfl (by conv => (lhs; whnf)) ?_; refine gM rfl rfl (by conv => (lhs; whnf)) ?_; refine gO ?_; refine gc_ret ?_; refine gx_then_ret ?_)
    refine gx_ret1 (v := .int _ _) rfl rfl (fun _ _ => ?_)
    rfl
end Go.Proofs.YtckhibfbdnoigaaGreatDoor

/- The examples of the chapter 57: a case of two operations. -/
namespace Go.Proofs.YtckhibfbdnoigaaGreatDoor
open Go.RowKit
set_option maxRecDepth 100000
set_option maxHeartbeats 8000000

def sHem : ByteArray := ⟨#[104, 101, 109]⟩
def sPress : ByteArray := ⟨#[112, 114, 101, 115, 115]⟩
def sBack : ByteArray := ⟨#[98, 97, 99, 107]⟩
def sVest : ByteArray := ⟨#[118, 101, 115, 116]⟩
def sAnn : ByteArray := ⟨#[97, 110, 110]⟩
def sS : ByteArray := ⟨#[83]⟩
def sA : ByteArray := ⟨#[97]⟩
def sB : ByteArray := ⟨#[98]⟩
def twoV (x : Nat → Nat) : Value := .agg #[.string sVest, .slice (some ⟨x 6, 0, none⟩) 1 1, .slice (some ⟨x 7, 0, none⟩) 1 1, .slice (some ⟨x 8, 0, none⟩) 1 1, .slice (some ⟨x 9, 0, none⟩) 1 1, .slice none 0 0, .slice (some ⟨x 12, 0, none⟩) 2 2, .slice (some ⟨x 13, 0, none⟩) 1 1, .slice (some ⟨x 15, 0, none⟩) 1 1, .slice (some ⟨x 16, 0, none⟩) 3 3]
def twoStyV (x : Nat → Nat) : Value := .agg #[.string sVest, .slice (some ⟨x 6, 0, none⟩) 1 1, .slice (some ⟨x 7, 0, none⟩) 1 1, .slice (some ⟨x 8, 0, none⟩) 1 1, .slice (some ⟨x 9, 0, none⟩) 1 1, .slice none 0 0, .slice (some ⟨x 12, 0, none⟩) 2 2]
def twoR (x : Nat → Nat) : List Res := [Box (x 16) 51 #[.int .i64 7, .int .i64 0, .int .i64 0, .int .i64 5, .int .i64 7, .int .i64 0, .int .i64 0, .int .i64 6, .int .i64 7, .int .i64 1, .int .i64 0, .int .i64 9], Box (x 15) 85 #[.string sAnn, .slice (some ⟨x 14, 0, none⟩) 2 2], Box (x 14) 3 #[.int .i64 0, .int .i64 1], Box (x 13) 44 #[.int .i64 7, .int .i64 0, .int .i64 0, .int .i64 0, .int .i64 0, .int .i64 10], Box (x 12) 55 #[.string sHem, .int .i64 0, .int .i64 120, .slice none 0 0, .slice (some ⟨x 10, 0, none⟩) 1 1, .string sPress, .int .i64 1, .int .i64 80, .slice (some ⟨x 11, 0, none⟩) 1 1, .slice none 0 0], Box (x 11) 3 #[.int .i64 0], Box (x 10) 3 #[.int .i64 0], Box (x 9) 115 #[.int .i64 0, .int .i64 1, .bool false], Box (x 8) 113 #[.string sBack, .slice (some ⟨x 3, 0, none⟩) 2 2, .int .i64 1, .slice none 0 0, .slice (some ⟨x 4, 0, none⟩) 2 2, .slice (some ⟨x 5, 0, none⟩) 2 2, .bool false], Box (x 7) 3 #[.int .i64 0], Box (x 6) 9 #[.string sS], Box (x 5) 3 #[.int .i64 0, .int .i64 0], Box (x 4) 106 #[.int .i64 0, .int .i64 0, .int .i64 0, .int .i64 0], Box (x 3) 109 #[.string sA, .slice (some ⟨x 1, 0, none⟩) 2 2, .string sB, .slice (some ⟨x 2, 0, none⟩) 3 3], Box (x 2) 106 #[.int .i64 10, .int .i64 0, .int .i64 0, .int .i64 10, .int .i64 0, .int .i64 0], Box (x 1) 106 #[.int .i64 0, .int .i64 0, .int .i64 10, .int .i64 0]]
theorem two_ok (w : World) : OkM Tryz.prog 25 [].toArray w twoV twoR := by
  unfold OkM
  refine ok_enter Tryz.func25 rfl Tryz.ntmps25 rfl ?_
  focus (refine gc_seq ?_; refine gc_region ?_; refine w_alloc rfl (fun _ => ?_); refine gN ?_; apply gw_d; exact w_buildP [] (cells := #[.int .i64 0, .int .i64 0]) (by kernel_rfl) rfl rfl rfl; apply gw_d; exact w_buildP [(0, .int .i64 10)] (cells := #[.int .i64 10, .int .i64 0]) (by kernel_rfl) rfl rfl rfl)
  refine gw_bslice (cells := #[.int .i64 0, .int .i64 0, .int .i64 10, .int .i64 0]) rfl ?_ ?_ ?_ (fun b1 => ?_)
  · rfl
  · rfl
  · kernel_rfl
  focus (apply gw_d; exact w_buildP [(0, .string sA), (1, .slice (some ⟨b1, 0, none⟩) 2 2)] (cells := #[.string sA, .slice (some ⟨b1, 0, none⟩) 2 2]) (by kernel_rfl) rfl rfl rfl; apply gw_d; exact w_buildP [(0, .int .i64 10)] (cells := #[.int .i64 10, .int .i64 0]) (by kernel_rfl) rfl rfl rfl; apply gw_d; exact w_buildP [(1, .int .i64 10)] (cells := #[.int .i64 0, .int .i64 10]) (by kernel_rfl) rfl rfl rfl; apply gw_d; exact w_buildP [] (cells := #[.int .i64 0, .int .i64 0]) (by kernel_rfl) rfl rfl rfl)
  refine gw_bslice (cells := #[.int .i64 10, .int .i64 0, .int .i64 0, .int .i64 10, .int .i64 0, .int .i64 0]) rfl ?_ ?_ ?_ (fun b2 => ?_)
  · rfl
  · rfl
  · kernel_rfl
  focus (apply gw_d; exact w_buildP [(0, .string sB), (1, .slice (some ⟨b2, 0, none⟩) 3 3)] (cells := #[.string sB, .slice (some ⟨b2, 0, none⟩) 3 3]) (by kernel_rfl) rfl rfl rfl)
  refine gw_bslice (cells := #[.string sA, .slice (some ⟨b1, 0, none⟩) 2 2, .string sB, .slice (some ⟨b2, 0, none⟩) 3 3]) rfl ?_ ?_ ?_ (fun b3 => ?_)
  · rfl
  · rfl
  · kernel_rfl
  focus (apply gw_d; exact w_buildP [] (cells := #[.int .i64 0, .int .i64 0]) (by kernel_rfl) rfl rfl rfl; apply gw_d; exact w_buildP [] (cells := #[.int .i64 0, .int .i64 0]) (by kernel_rfl) rfl rfl rfl)
  refine gw_bslice (cells := #[.int .i64 0, .int .i64 0, .int .i64 0, .int .i64 0]) rfl ?_ ?_ ?_ (fun b4 => ?_)
  · rfl
  · rfl
  · kernel_rfl
  focus (skip)
  refine gw_bslice (cells := #[.int .i64 0, .int .i64 0]) rfl ?_ ?_ ?_ (fun b5 => ?_)
  · rfl
  · rfl
  · kernel_rfl
  focus (apply gw_d; exact w_buildP [(0, .string sBack), (1, .slice (some ⟨b3, 0, none⟩) 2 2), (2, .int .i64 1), (4, .slice (some ⟨b4, 0, none⟩) 2 2), (5, .slice (some ⟨b5, 0, none⟩) 2 2)] (cells := #[.string sBack, .slice (some ⟨b3, 0, none⟩) 2 2, .int .i64 1, .slice none 0 0, .slice (some ⟨b4, 0, none⟩) 2 2, .slice (some ⟨b5, 0, none⟩) 2 2, .bool false]) (by kernel_rfl) rfl rfl rfl; refine w_alloc rfl (fun _ => ?_); refine w_store_all rfl rfl rfl rfl rfl .here rfl ?_; refine gN ?_)
  rename_i bc bp
  refine gw_bslice1 (v := .string sS) rfl rfl rfl rfl rfl (fun b6 => ?_)
  refine gw_bslice1 (v := .int .i64 0) rfl rfl rfl rfl rfl (fun b7 => ?_)
  focus (apply gw_d; exact w_load_boxN rfl rfl rfl (.there (.there .here)) rfl)
  refine gw_bslice1 (v := .agg #[.string sBack, .slice (some ⟨b3, 0, none⟩) 2 2, .int .i64 1, .slice none 0 0, .slice (some ⟨b4, 0, none⟩) 2 2, .slice (some ⟨b5, 0, none⟩) 2 2, .bool false]) rfl rfl rfl rfl rfl (fun b8 => ?_)
  focus (apply gw_d; exact w_buildP [(1, .int .i64 1)] (cells := #[.int .i64 0, .int .i64 1, .bool false]) (by kernel_rfl) rfl rfl rfl)
  refine gw_bslice1 (v := .agg #[.int .i64 0, .int .i64 1, .bool false]) rfl rfl rfl rfl rfl (fun b9 => ?_)
  refine gw_bslice1 (v := .int .i64 0) rfl rfl rfl rfl rfl (fun b10 => ?_)
  focus (apply gw_d; exact w_buildP [(0, .string sHem), (2, .int .i64 120), (4, .slice (some ⟨b10, 0, none⟩) 1 1)] (cells := #[.string sHem, .int .i64 0, .int .i64 120, .slice none 0 0, .slice (some ⟨b10, 0, none⟩) 1 1]) (by kernel_rfl) rfl rfl rfl)
  refine gw_bslice1 (v := .int .i64 0) rfl rfl rfl rfl rfl (fun b11 => ?_)
  focus (apply gw_d; exact w_buildP [(0, .string sPress), (1, .int .i64 1), (2, .int .i64 80), (3, .slice (some ⟨b11, 0, none⟩) 1 1)] (cells := #[.string sPress, .int .i64 1, .int .i64 80, .slice (some ⟨b11, 0, none⟩) 1 1, .slice none 0 0]) (by kernel_rfl) rfl rfl rfl)
  refine gw_bslice (cells := #[.string sHem, .int .i64 0, .int .i64 120, .slice none 0 0, .slice (some ⟨b10, 0, none⟩) 1 1, .string sPress, .int .i64 1, .int .i64 80, .slice (some ⟨b11, 0, none⟩) 1 1, .slice none 0 0]) rfl ?_ ?_ ?_ (fun b12 => ?_)
  · rfl
  · rfl
  · kernel_rfl
  focus (apply gw_d; exact w_buildP [(0, .string sVest), (1, .slice (some ⟨b6, 0, none⟩) 1 1), (2, .slice (some ⟨b7, 0, none⟩) 1 1), (3, .slice (some ⟨b8, 0, none⟩) 1 1), (4, .slice (some ⟨b9, 0, none⟩) 1 1), (6, .slice (some ⟨b12, 0, none⟩) 2 2)] (cells := #[.string sVest, .slice (some ⟨b6, 0, none⟩) 1 1, .slice (some ⟨b7, 0, none⟩) 1 1, .slice (some ⟨b8, 0, none⟩) 1 1, .slice (some ⟨b9, 0, none⟩) 1 1, .slice none 0 0, .slice (some ⟨b12, 0, none⟩) 2 2]) (by kernel_rfl) rfl rfl rfl; refine w_alloc rfl (fun _ => ?_); refine w_store_all rfl rfl rfl rfl rfl .here rfl ?_; refine gN ?_; apply gw_d; exact w_load_boxN rfl rfl rfl .here rfl)
  rename_i bs
  focus (apply gw_d; exact w_buildP [(0, .int .i64 7), (5, .int .i64 10)] (cells := #[.int .i64 7, .int .i64 0, .int .i64 0, .int .i64 0, .int .i64 0, .int .i64 10]) (by kernel_rfl) rfl rfl rfl)
  refine gw_bslice1 (v := .agg #[.int .i64 7, .int .i64 0, .int .i64 0, .int .i64 0, .int .i64 0, .int .i64 10]) rfl rfl rfl rfl rfl (fun b13 => ?_)
  refine gw_bslice (cells := #[.int .i64 0, .int .i64 1]) rfl ?_ ?_ ?_ (fun b14 => ?_)
  · rfl
  · rfl
  · kernel_rfl
  focus (apply gw_d; exact w_buildP [(0, .string sAnn), (1, .slice (some ⟨b14, 0, none⟩) 2 2)] (cells := #[.string sAnn, .slice (some ⟨b14, 0, none⟩) 2 2]) (by kernel_rfl) rfl rfl rfl)
  refine gw_bslice1 (v := .agg #[.string sAnn, .slice (some ⟨b14, 0, none⟩) 2 2]) rfl rfl rfl rfl rfl (fun b15 => ?_)
  focus (apply gw_d; exact w_buildP [(0, .int .i64 7), (3, .int .i64 5)] (cells := #[.int .i64 7, .int .i64 0, .int .i64 0, .int .i64 5]) (by kernel_rfl) rfl rfl rfl; apply gw_d; exact w_buildP [(0, .int .i64 7), (3, .int .i64 6)] (cells := #[.int .i64 7, .int .i64 0, .int .i64 0, .int .i64 6]) (by kernel_rfl) rfl rfl rfl; apply gw_d; exact w_buildP [(0, .int .i64 7), (1, .int .i64 1), (3, .int .i64 9)] (cells := #[.int .i64 7, .int .i64 1, .int .i64 0, .int .i64 9]) (by kernel_rfl) rfl rfl rfl)
  refine gw_bslice (cells := #[.int .i64 7, .int .i64 0, .int .i64 0, .int .i64 5, .int .i64 7, .int .i64 0, .int .i64 0, .int .i64 6, .int .i64 7, .int .i64 1, .int .i64 0, .int .i64 9]) rfl ?_ ?_ ?_ (fun b16 => ?_)
  · rfl
  · rfl
  · kernel_rfl
  focus (apply gw_d; exact w_buildP [(0, .agg #[.string sVest, .slice (some ⟨b6, 0, none⟩) 1 1, .slice (some ⟨b7, 0, none⟩) 1 1, .slice (some ⟨b8, 0, none⟩) 1 1, .slice (some ⟨b9, 0, none⟩) 1 1, .slice none 0 0, .slice (some ⟨b12, 0, none⟩) 2 2]), (1, .slice (some ⟨b13, 0, none⟩) 1 1), (2, .slice (some ⟨b15, 0, none⟩) 1 1), (3, .slice (some ⟨b16, 0, none⟩) 3 3)] (cells := #[.string sVest, .slice (some ⟨b6, 0, none⟩) 1 1, .slice (some ⟨b7, 0, none⟩) 1 1, .slice (some ⟨b8, 0, none⟩) 1 1, .slice (some ⟨b9, 0, none⟩) 1 1, .slice none 0 0, .slice (some ⟨b12, 0, none⟩) 2 2, .slice (some ⟨b13, 0, none⟩) 1 1, .slice (some ⟨b15, 0, none⟩) 1 1, .slice (some ⟨b16, 0, none⟩) 3 3]) (by kernel_rfl) rfl rfl rfl)
  refine w_store_all rfl rfl rfl rfl rfl (.there (.there (.there (.there (.there (.there (.there (.there (.there (.there (.there (.there (.there (.there (.there (.there (.there (.there .here)))))))))))))))))) rfl ?_
  focus (refine gO ?_; refine gc_ret ?_)
  refine gx_retc rfl rfl .here rfl fun w s => ⟨fun i => bif Nat.beq i 1 then b1 else bif Nat.beq i 2 then b2 else bif Nat.beq i 3 then b3 else bif Nat.beq i 4 then b4 else bif Nat.beq i 5 then b5 else bif Nat.beq i 6 then b6 else bif Nat.beq i 7 then b7 else bif Nat.beq i 8 then b8 else bif Nat.beq i 9 then b9 else bif Nat.beq i 10 then b10 else bif Nat.beq i 11 then b11 else bif Nat.beq i 12 then b12 else bif Nat.beq i 13 then b13 else bif Nat.beq i 14 then b14 else bif Nat.beq i 15 then b15 else bif Nat.beq i 16 then b16 else 0, rfl, ?_⟩
  exact (St.sub (K := twoR (fun i => bif Nat.beq i 1 then b1 else bif Nat.beq i 2 then b2 else bif Nat.beq i 3 then b3 else bif Nat.beq i 4 then b4 else bif Nat.beq i 5 then b5 else bif Nat.beq i 6 then b6 else bif Nat.beq i 7 then b7 else bif Nat.beq i 8 then b8 else bif Nat.beq i 9 then b9 else bif Nat.beq i 10 then b10 else bif Nat.beq i 11 then b11 else bif Nat.beq i 12 then b12 else bif Nat.beq i 13 then b13 else bif Nat.beq i 14 then b14 else bif Nat.beq i 15 then b15 else bif Nat.beq i 16 then b16 else 0)) (.cons (.there .here) (.cons (.there .here) (.cons (.there .here) (.cons (.there .here) (.cons (.there (.there .here)) (.cons (.there (.there .here)) (.cons (.there (.there .here)) (.cons (.there (.there .here)) (.cons (.there (.there .here)) (.cons (.there (.there .here)) (.cons (.there (.there .here)) (.cons (.there (.there (.there .here))) (.cons (.there (.there (.there .here))) (.cons (.there (.there (.there .here))) (.cons (.there (.there (.there .here))) (.cons (.there (.there (.there .here))) .nil)))))))))))))))) s).sep

section
variable {w0 w : World} {L : List Res} {x : Nat → Nat}
def twoOps : List Opn := [⟨sHem, 0, 120, [], [0]⟩, ⟨sPress, 1, 80, [0], []⟩]
def twoSty : Sty := ⟨sVest, [sS], [0], [⟨sBack, [(sA, [(0, 0), (10, 0)]), (sB, [(10, 0), (0, 10), (0, 0)])], 1, [], [(0, 0), (0, 0)], [0, 0], false⟩], [(0, 1, false)], [], twoOps⟩
def twoBuns : List Bun := [⟨7, 0, 0, 0, 0, 10⟩]
def twoWrks : List Wrk := [⟨sAnn, [0, 1]⟩]
def twoScns : List Scn := [⟨7, 0, 0, 5⟩, ⟨7, 0, 0, 6⟩, ⟨7, 1, 0, 9⟩]
theorem two_ops (s : St w0 (twoR x ++ L) w) : Sl rOp w w.heap.size (.slice (some ⟨x 12, 0, none⟩) 2 2) twoOps := by
  have h12 : w.heap[x 12]? = some (.cells #[.string sHem, .int .i64 0, .int .i64 120, .slice none 0 0, .slice (some ⟨x 10, 0, none⟩) 1 1, .string sPress, .int .i64 1, .int .i64 80, .slice (some ⟨x 11, 0, none⟩) 1 1, .slice none 0 0] 55 (0, 0)) := s.drop.drop.drop.drop.head
  have h11 : w.heap[x 11]? = some (.cells #[.int .i64 0] 3 (0, 0)) := s.drop.drop.drop.drop.drop.head
  have h10 : w.heap[x 10]? = some (.cells #[.int .i64 0] 3 (0, 0)) := s.drop.drop.drop.drop.drop.drop.head
  have a10 : Sl rInt w w.heap.size (.slice (some ⟨x 10, 0, none⟩) 1 1) [0] := Sl.ofCells h10 rfl (by decide) (by decide) ⟨⟨rfl, inI rfl⟩, trivial⟩
  have a11 : Sl rInt w w.heap.size (.slice (some ⟨x 11, 0, none⟩) 1 1) [0] := Sl.ofCells h11 rfl (by decide) (by decide) ⟨⟨rfl, inI rfl⟩, trivial⟩
  exact Sl.ofCells h12 rfl (by decide) (by decide) ⟨⟨_, _, _, _, rfl, ⟨by decide, inI rfl, inI rfl⟩, Sl.nil _ _, a10⟩, ⟨_, _, _, _, rfl, ⟨by decide, inI rfl, inI rfl⟩, a11, Sl.nil _ _⟩, trivial⟩
theorem two_sty (s : St w0 (twoR x ++ L) w) : StyV w w.heap.size (twoStyV x) twoSty := by
  have h9 : w.heap[x 9]? = some (.cells #[.int .i64 0, .int .i64 1, .bool false] 115 (0, 0)) := s.drop.drop.drop.drop.drop.drop.drop.head
  have h8 : w.heap[x 8]? = some (.cells #[.string sBack, .slice (some ⟨x 3, 0, none⟩) 2 2, .int .i64 1, .slice none 0 0, .slice (some ⟨x 4, 0, none⟩) 2 2, .slice (some ⟨x 5, 0, none⟩) 2 2, .bool false] 113 (0, 0)) := s.drop.drop.drop.drop.drop.drop.drop.drop.head
  have h7 : w.heap[x 7]? = some (.cells #[.int .i64 0] 3 (0, 0)) := s.drop.drop.drop.drop.drop.drop.drop.drop.drop.head
  have h6 : w.heap[x 6]? = some (.cells #[.string sS] 9 (0, 0)) := s.drop.drop.drop.drop.drop.drop.drop.drop.drop.drop.head
  have h5 : w.heap[x 5]? = some (.cells #[.int .i64 0, .int .i64 0] 3 (0, 0)) := s.drop.drop.drop.drop.drop.drop.drop.drop.drop.drop.drop.head
  have h4 : w.heap[x 4]? = some (.cells #[.int .i64 0, .int .i64 0, .int .i64 0, .int .i64 0] 106 (0, 0)) := s.drop.drop.drop.drop.drop.drop.drop.drop.drop.drop.drop.drop.head
  have h3 : w.heap[x 3]? = some (.cells #[.string sA, .slice (some ⟨x 1, 0, none⟩) 2 2, .string sB, .slice (some ⟨x 2, 0, none⟩) 3 3] 109 (0, 0)) := s.drop.drop.drop.drop.drop.drop.drop.drop.drop.drop.drop.drop.drop.head
  have h2 : w.heap[x 2]? = some (.cells #[.int .i64 10, .int .i64 0, .int .i64 0, .int .i64 10, .int .i64 0, .int .i64 0] 106 (0, 0)) := s.drop.drop.drop.drop.drop.drop.drop.drop.drop.drop.drop.drop.drop.drop.head
  have h1 : w.heap[x 1]? = some (.cells #[.int .i64 0, .int .i64 0, .int .i64 10, .int .i64 0] 106 (0, 0)) := s.drop.drop.drop.drop.drop.drop.drop.drop.drop.drop.drop.drop.drop.drop.drop.head
  have a1 : Sl rSpot w w.heap.size (.slice (some ⟨x 1, 0, none⟩) 2 2) [(0, 0), (10, 0)] := Sl.ofCells h1 rfl (by decide) (by decide) ⟨⟨rfl, inI rfl, inI rfl⟩, ⟨rfl, inI rfl, inI rfl⟩, trivial⟩
  have a2 : Sl rSpot w w.heap.size (.slice (some ⟨x 2, 0, none⟩) 3 3) [(10, 0), (0, 10), (0, 0)] := Sl.ofCells h2 rfl (by decide) (by decide) ⟨⟨rfl, inI rfl, inI rfl⟩, ⟨rfl, inI rfl, inI rfl⟩, ⟨rfl, inI rfl, inI rfl⟩, trivial⟩
  have a3 : Sl rEdge w w.heap.size (.slice (some ⟨x 3, 0, none⟩) 2 2) [(sA, [(0, 0), (10, 0)]), (sB, [(10, 0), (0, 10), (0, 0)])] := Sl.ofCells h3 rfl (by decide) (by decide) ⟨⟨_, rfl, by decide, a1⟩, ⟨_, rfl, by decide, a2⟩, trivial⟩
  have a4 : Sl rSpot w w.heap.size (.slice (some ⟨x 4, 0, none⟩) 2 2) [(0, 0), (0, 0)] := Sl.ofCells h4 rfl (by decide) (by decide) ⟨⟨rfl, inI rfl, inI rfl⟩, ⟨rfl, inI rfl, inI rfl⟩, trivial⟩
  have a5 : Sl rInt w w.heap.size (.slice (some ⟨x 5, 0, none⟩) 2 2) [0, 0] := Sl.ofCells h5 rfl (by decide) (by decide) ⟨⟨rfl, inI rfl⟩, ⟨rfl, inI rfl⟩, trivial⟩
  exact ⟨_, _, _, _, _, _, _, _, _, _, _, _, rfl, (show sVest.size ≤ maxLen by decide), Sl.ofCells h6 rfl (Nat.le_refl 1) (by decide) ⟨⟨rfl, by decide⟩, trivial⟩, Sl.ofCells h7 rfl (Nat.le_refl 1) (by decide) ⟨⟨rfl, inI rfl⟩, trivial⟩, Sl.ofCells h8 rfl (Nat.le_refl 1) (by decide) ⟨⟨_, _, _, _, _, _, _, _, rfl, ⟨(show sBack.size ≤ maxLen by decide), inI rfl⟩, a3, Sl.nil _ _, a4, a5⟩, trivial⟩,
    Sl.ofCells h9 rfl (Nat.le_refl 1) (by decide) ⟨⟨rfl, inI rfl, inI rfl⟩, trivial⟩, Sl.nil _ _, two_ops s⟩
theorem two_buns (s : St w0 (twoR x ++ L) w) : Sl rBun w w.heap.size (.slice (some ⟨x 13, 0, none⟩) 1 1) twoBuns := by
  have h13 : w.heap[x 13]? = some (.cells #[.int .i64 7, .int .i64 0, .int .i64 0, .int .i64 0, .int .i64 0, .int .i64 10] 44 (0, 0)) := s.drop.drop.drop.head
  exact Sl.ofCells h13 rfl (by decide) (by decide) ⟨⟨rfl, inI rfl, inI rfl, inI rfl⟩, trivial⟩
theorem two_wrks (s : St w0 (twoR x ++ L) w) : Sl rWrk w w.heap.size (.slice (some ⟨x 15, 0, none⟩) 1 1) twoWrks := by
  have h15 : w.heap[x 15]? = some (.cells #[.string sAnn, .slice (some ⟨x 14, 0, none⟩) 2 2] 85 (0, 0)) := s.drop.head
  have h14 : w.heap[x 14]? = some (.cells #[.int .i64 0, .int .i64 1] 3 (0, 0)) := s.drop.drop.head
  have a14 : Sl rInt w w.heap.size (.slice (some ⟨x 14, 0, none⟩) 2 2) [0, 1] := Sl.ofCells h14 rfl (by decide) (by decide) ⟨⟨rfl, inI rfl⟩, ⟨rfl, inI rfl⟩, trivial⟩
  exact Sl.ofCells h15 rfl (by decide) (by decide) ⟨⟨_, _, rfl, by decide, a14⟩, trivial⟩
theorem two_scns (s : St w0 (twoR x ++ L) w) : Sl rScn w w.heap.size (.slice (some ⟨x 16, 0, none⟩) 3 3) twoScns := by
  have h16 : w.heap[x 16]? = some (.cells #[.int .i64 7, .int .i64 0, .int .i64 0, .int .i64 5, .int .i64 7, .int .i64 0, .int .i64 0, .int .i64 6, .int .i64 7, .int .i64 1, .int .i64 0, .int .i64 9] 51 (0, 0)) := s.head
  exact Sl.ofCells h16 rfl (by decide) (by decide) ⟨⟨rfl, inI rfl, inI rfl, inI rfl, inI rfl⟩, ⟨rfl, inI rfl, inI rfl, inI rfl, inI rfl⟩, ⟨rfl, inI rfl, inI rfl, inI rfl, inI rfl⟩, trivial⟩
end
end Go.Proofs.YtckhibfbdnoigaaGreatDoor

/- The examples of the chapter 57 are met. -/
namespace Go.Proofs.YtckhibfbdnoigaaGreatDoor
open Go.RowKit
set_option maxRecDepth 100000
set_option maxHeartbeats 4000000

section
variable {w0 w : World} {L : List Res} {x : Nat → Nat}
end
end Go.Proofs.YtckhibfbdnoigaaGreatDoor

/- Plain facts of the law OperationStyles: a style without the uses of its operations. -/
namespace Go.Proofs.YtckhibfbdnoigaaGreatDoor
open Go.RowKit

theorem op_parts {l : List Opn} {n : Int} {i : Nat} {o : Opn} (ho : l[i]? = some o) (h : opE l n i = 0) : ¬ (¬ nameB o.name = true) ∧ ¬ ((l.take i).any fun x => eqS x.name o.name) = true ∧ ¬ (o.machine < 0 ∨ o.machine ≥ 8 ∨ o.minutes < 1 ∨ o.minutes > 10000) ∧
    ¬ (areIx o.after l.length = false ∨ (0 ≤ n ∧ areIx o.uses n = false)) ∧ ¬ (dupL o.after o.after.length = true ∨ (0 ≤ n ∧ dupL o.uses o.uses.length = true)) := by
  unfold opE at h
  rw [ho] at h
  dsimp only at h
  split at h
  · cases h
  rename_i c1
  split at h
  · cases h
  rename_i c2
  split at h
  · cases h
  rename_i c3
  split at h
  · cases h
  rename_i c4
  split at h
  · cases h
  rename_i c5
  exact ⟨c1, c2, c3, c4, c5⟩
theorem list_parts {l : List Opn} {n : Int} (h : listE l n = 0) : ¬ 16 < l.length ∧ firstE (opE l n) l.length = 0 ∧ fullB l = true := by
  unfold listE at h
  split at h
  · cases h
  rename_i c1
  split at h
  · rename_i c2; exact absurd h c2
  rename_i c2
  split at h
  · rename_i c3; exact ⟨c1, Classical.not_not.1 c2, c3⟩
  · cases h
theorem check_parts {s : Sty} {pl : Pc → Int} (h : opCheckE s pl = 0) : styleE s pl = 0 ∧ listE s.ops s.uses.length = 0 ∧ (marks s.uses.length s.ops).all id = true := by
  unfold opCheckE at h
  split at h
  · rename_i c; exact absurd h c
  rename_i c1
  split at h
  · rename_i c; exact absurd h c
  rename_i c2
  split at h
  · rename_i c3; exact ⟨Classical.not_not.1 c1, Classical.not_not.1 c2, c3⟩
  · cases h
/-! ### The cells, as they are cleared one by one -/
end Go.Proofs.YtckhibfbdnoigaaGreatDoor

/- Maps whose keys are structs of integers. No program in sight. -/
namespace Go.Proofs.YtckhibfbdnoigaaGreatDoor
open Go.RowKit
section
variable {κ : Type} [DecidableEq κ] {P : Program} {kt n : Nat} [CInts P kt n] {f : κ → List Int}
def kInts (f : κ → List Int) (k : κ) : Value := .agg ((f k).map (Value.int .i64)).toArray
theorem run_equal_ints {w : World} {xs ys : List Int} (hx : xs.length = n) (hy : ys.length = n) : (Op.equal kt (.agg (xs.map (Value.int .i64)).toArray) (.agg (ys.map (Value.int .i64)).toArray)).run P w = .ok (decide (xs = ys)) w := by
  have h := run_eq_ints (P := P) (t := kt) (n := n) (d := 9998) (w := w) hx hy
  unfold Op.equal
  exact h.1
theorem find_asking (hn : ∀ k, (f k).length = n) (hi : ∀ a b, f a = f b → a = b) (k : κ) (w : World) : ∀ (es : List MapEntry) (l : List (κ × Value)) (i : Nat), es.map (fun e => (e.key, e.val)) = l.map (fun p => (kInts f p.1, p.2)) →
    (Instr.findAsking kt (kInts f k) es i).run P w = .ok ((l.findIdx? (fun p => decide (k = p.1))).map fun j => (i + j, ((l[j]?).map (·.2)).getD undef)) w
  | [], [], i, _ => rfl
  | [], _ :: _, _, h => by simp at h
  | _ :: _, [], _, h => by simp at h
  | e :: es, p :: l, i, h => by
    simp only [List.map_cons, List.cons.injEq, Prod.mk.injEq] at h
    obtain ⟨⟨h1, h2⟩, h3⟩ := h
    have ih := find_asking hn hi k w es l (i + 1) h3
    unfold Instr.findAsking
    rw [h1]
    have he := run_equal_ints (P := P) (kt := kt) (w := w) (hn k) (hn p.1)
    unfold kInts at he ih ⊢
    simp only [Sem.run_bind, he, Result.andThen_ok, List.findIdx?_cons]
    by_cases hk : k = p.1
    · subst hk
      simp [h2]
    · have : ¬ f k = f p.1 := fun hc => hk (hi _ _ hc)
      simp only [decide_eq_false this, decide_eq_false hk, Bool.false_eq_true, if_false]
      rw [ih]
      cases l.findIdx? (fun p => decide (k = p.1)) with
      | none => rfl
      | some j => simp [Nat.add_assoc, Nat.add_comm 1 j]
theorem fields_check {em : Bool} {d : Nat} {w : World} (xs : List Int) : ∀ (fs : List Field) (k : Nat), (∀ (j : Nat) (g : Field), fs[j]? = some g → g.name ≠ "_" ∧ g.offset = k + j ∧ P.underlying g.type = some (.int .i64)) → k + fs.length = xs.length →
    (forIn (m := Sem) fs PUnit.unit fun g _ =>
      if g.name ≠ "_" then do
        let p ← part g.type (xs.map (Value.int .i64)).toArray g.offset
        Instr.checkKey em (d + 1) g.type p
        pure (ForInStep.yield PUnit.unit)
      else pure (ForInStep.yield PUnit.unit)).run P w = .ok () w
  | [], k, _, hk => by simp
  | g :: fs, k, hf, hk => by
    obtain ⟨h1, h2, h3⟩ := hf 0 g rfl
    simp only [Nat.add_zero] at h2
    simp only [List.length_cons] at hk
    have hkx : k < xs.length := by omega
    have ih := fields_check (em := em) (d := d) (w := w) xs fs (k + 1) (fun j g hg => by
      have := hf (j + 1) g (by simpa using hg)
      exact ⟨this.1, by omega, this.2.2⟩) (by omega)
    have p1 : (part g.type (xs.map (Value.int .i64)).toArray g.offset).run P w = .ok (.int .i64 xs[k]) w := part_int h3 (by rw [h2]; simp [hkx])
    have c1 : (Instr.checkKey em (d + 1) g.type (.int .i64 xs[k])).run P w = .ok () w := by
      unfold Instr.checkKey
      simp [run_underlying h3]
    rw [List.forIn_cons]
    simp only [Sem.run_bind, if_pos h1, p1, c1, Result.andThen_ok, Sem.run_pure]
    exact ih
theorem structLaw (hn : ∀ k, (f k).length = n) (hi : ∀ a b, f a = f b → a = b) : KeyLaw P kt (kInts f) := by
  have h := CInts.h (P := P) (t := kt) (n := n)
  unfold intStruct at h
  split at h
  · rename_i fs hu
    split at h
    · rename_i hc
      injection h with h
      simp only [Bool.and_eq_true, Bool.not_eq_true', List.all_eq_true] at hc
      refine ⟨fun k l es w he => ?_, fun em k w => ?_, fun k => ?_⟩
      · unfold Instr.findKey
        simp only [Sem.run_bind, run_underlying hu, Result.andThen_ok]
        cases es with
        | nil =>
          cases l with
          | nil => rfl
          | cons => simp at he
        | cons e es =>
          have hk : e.key = kInts f ((l.head?.map (·.1)).getD k) := by
            cases l with
            | nil => simp at he
            | cons p l =>
              simp only [List.map_cons, List.cons.injEq, Prod.mk.injEq] at he
              exact he.1.1
          have hno : Instr.findNow (.struct fs) (kInts f k) (e :: es) 0 = none := by
            unfold Instr.findNow
            rw [hk]
            rfl
          rw [hno]
          have := find_asking (P := P) (kt := kt) (n := n) hn hi k w (e :: es) l 0 he
          simp only [Nat.zero_add] at this
          exact this
      · have hck := fields_check (P := P) (em := em) (d := 9998) (w := w) (f k) fs.toList 0 (fun j g hj => by
          have hmem : (g, j) ∈ fs.toList.zipIdx := by
            rw [List.mem_iff_getElem?]
            exact ⟨j, by simp [hj]⟩
          have h1 := hc.1.1 (g, j) hmem
          simp only [bne_iff_ne, beq_iff_eq] at h1
          refine ⟨h1.1.1, by omega, ?_⟩
          have h2 := h1.2
          split at h2
          · assumption
          · cases h2) (by have := hn k; simp; omega)
        have : (10000 : Nat) = 9999 + 1 := rfl
        rw [this]
        unfold Instr.checkKey kInts
        simp only [Sem.run_bind, run_underlying hu, Result.andThen_ok]
        rw [← Array.forIn_toList]
        change (((forIn fs.toList PUnit.unit _ : Sem PUnit).run P w).andThen fun a w' => (pure () : Sem Unit).run P w') = _
        refine (congrArg (fun z => Result.andThen z fun a w' => (pure () : Sem Unit).run P w') hck).trans ?_
        rfl
      · unfold kInts
        have : (10000 : Nat) = 9999 + 1 := rfl
        rw [this]
        unfold Instr.sameBits
        simp only [beq_self_eq_true, Bool.true_and, List.all_eq_true]
        intro p hp
        obtain ⟨a, b⟩ := p
        have hab : a = b := by
          obtain ⟨j, hj, hx⟩ := List.getElem_of_mem hp
          rw [List.getElem_zip] at hx
          injection hx with h1 h2
          rw [← h1, ← h2]
        subst hab
        have ha := (List.of_mem_zip hp).1
        obtain ⟨i, _, rfl⟩ := List.mem_map.1 ha
        show Instr.sameBits (9998 + 1) (.int .i64 i) (.int .i64 i) = true
        simp [Instr.sameBits]
    · cases h
  · cases h
end

/-! ### Rows of structs, owned -/
section
variable {P : Program} {ops : Array Oper} {Q : Exit → Act → World → Prop} {N : Nat} {w0 : World} {L L' : List Res} {rest : List Oper} {e : Env} {o : Oper} {t : TypeId} {x : Operand} {v : Value} {n : Nat}
end
/-! ### Reading an owned row without opening it -/
section
variable {P : Program} {ops : Array Oper} {Q : Exit → Act → World → Prop} {N : Nat} {w0 : World} {L L' : List Res} {rest : List Oper} {e : Env} {o : Oper} {t : TypeId} {x ix : Operand} {v : Value} {n c el sz : Nat} {A : Option Addr} {xs : List Value}
def adr (A : Option Addr) : Addr := A.getD ⟨0, 0, none⟩
theorem own_some {w : World} {el' : TypeId} {sz' : Nat} (s : St w0 L w) (hp : Pick L (Own A n c el' sz' xs) L') (hn : 0 < n) : ∃ g cs, A = some ⟨g, 0, none⟩ ∧ w.heap[g]? = some (.cells cs el' (0, 0)) ∧ cs.toList.take (n * sz') = xs := by
  have hown : w.ownsRow 0 el' sz' (.slice A n c) n xs := (s.pick hp).head
  rcases hown.2 with ⟨_, h0⟩ | ⟨g, cap, cur, hv, _, hg, h1, h2, h3, h4⟩
  · omega
  · injection hv with e1 e2 e3
    subst e1 e3
    exact ⟨g, cur, rfl, hg, h4⟩
theorem own_cell {w : World} {el' : TypeId} {sz' i : Nat} {u : Value} (s : St w0 L w) (hp : Pick L (Own A n c el' sz' xs) L') (hn : 0 < n) (hu : xs[i]? = some u) : w.cell? ((adr A).add i) = some u := by
  obtain ⟨g, cs, rfl, hg, ht⟩ := own_some s hp hn
  show w.cell? ((⟨g, 0, none⟩ : Addr).add i) = some u
  rw [add_zero]
  simp only [World.cell?, hg]
  rw [← ht, List.getElem?_take] at hu
  split at hu
  · simpa using hu
  · cases hu
theorem w_indexO [CSlice P t el sz] {el' : TypeId} {sz' m : Nat} {k : IntKind} {z : Int} (hop : o.op = .indexAddr t x ix) (hw : wantedE N ops e o = true) (hx : ev N e x = .slice A n c) (hi : ev N e ix = .int k z) (hz : z = (m : Int)) (hm : m < n) (hp : Pick L (Own A n c el' sz' xs) L') :
    Det P ops N w0 L o e (.pointer (some ((adr A).add (m * sz)))) :=
  .inl ⟨hw, fun w s => by
    obtain ⟨g, cs, rfl, _, _⟩ := own_some s hp (by omega)
    rcases w_index (P := P) (ops := ops) (N := N) (w0 := w0) (L := L) (e := e) (o := o) hop hw hx hi hz hm with h | h
    · exact h.2 w s
    · rw [hw] at h; cases h.1⟩
theorem w_loadOF [CNotAgg P t] {el' : TypeId} {sz' i j : Nat} (hop : o.op = .load t x) (hw : wantedE N ops e o = true) (hx : ev N e x = .pointer (some (((adr A).add i).add j))) (hp : Pick L (Own A n c el' sz' xs) L') (hn : 0 < n) (hc : xs[i + j]? = some v) : Det P ops N w0 L o e v :=
  det_load hop hw hx fun w s => run_loadVar1 CNotAgg.h (by rw [add_add]; exact own_cell s hp hn hc)
theorem w_loadON {n' : Nat} [CAgg P t n'] {el' : TypeId} {sz' i : Nat} {l : List Value} (hop : o.op = .load t x) (hw : wantedE N ops e o = true) (hx : ev N e x = .pointer (some ((adr A).add i))) (hp : Pick L (Own A n c el' sz' xs) L') (hn : 0 < n) (hc : ∀ j u, l[j]? = some u → xs[i + j]? = some u) (hl : l.length = n') : Det P ops N w0 L o e (.agg l.toArray) :=
  det_load hop hw hx fun w s => run_loadVarN (by rw [hl]; exact CAgg.h) fun j u hu => by rw [add_add]; exact own_cell s hp hn (hc j u hu)
end
theorem flat_at {α : Type} {enc : α → List Value} {sz : Nat} {l : List α} (hl : ∀ x ∈ l, (enc x).length = sz) {k : Nat} (hk : k < l.length) : ∀ j u, (enc l[k])[j]? = some u → (l.flatMap enc)[k * sz + j]? = some u := fun j u hu => by
  have hj : j < (enc l[k]).length := (List.getElem?_eq_some_iff.1 hu).1
  rw [flat_get l hl k hk j (by rw [← hl _ (List.getElem_mem hk)]; exact hj)]
  exact hu
end Go.Proofs.YtckhibfbdnoigaaGreatDoor

/- Cases: how they lie; what a good case is. -/
namespace Go.Proofs.YtckhibfbdnoigaaGreatDoor
open Go.RowKit
set_option maxRecDepth 100000
set_option maxHeartbeats 4000000

structure Cse where
  (sty : Sty) (bs : List Bun) (ws : List Wrk) (xs : List Scn)
def CaseV (w : World) (v : Value) (c : Cse) : Prop :=
  ∃ v0 v1 v2 v3 v4 v5 v6 vb vw vx, v = .agg #[v0, v1, v2, v3, v4, v5, v6, vb, vw, vx] ∧ StyV w w.heap.size (.agg #[v0, v1, v2, v3, v4, v5, v6]) c.sty ∧ Sl rBun w w.heap.size vb c.bs ∧ Sl rWrk w w.heap.size vw c.ws ∧ Sl rScn w w.heap.size vx c.xs
theorem CaseV.later {w0 w : World} {L : List Res} {v : Value} {c : Cse} (s : St w0 L w) (h : CaseV w0 v c) : CaseV w v c := by
  obtain ⟨v0, v1, v2, v3, v4, v5, v6, vb, vw, vx, rfl, h1, h2, h3, h4⟩ := h
  exact ⟨v0, v1, v2, v3, v4, v5, v6, vb, vw, vx, rfl, StyV.later s h1, h2.later s, h3.later s, h4.later s⟩

def rU8 : Rp Int where
  size := 1
  rep _ _ i cs := cs = [.int .u8 i] ∧ (0 ≤ i ∧ i ≤ 255)
  len h := by rw [h.1]; rfl
  mono _ h := h
  grow _ h := h
theorem Sl.u8 {w : World} {B : Nat} {v : Value} {l : List Int} (h : Sl rU8 w B v l) : ∃ A c, v = .slice A l.length c ∧ l.length ≤ c ∧ l.length ≤ 9223372036854775807 ∧
    ∀ k (hk : k < l.length), ∃ ad, A = some ad ∧ ad.block < B ∧ w.cell? (ad.add (k * 1)) = some (.int .u8 l[k]) ∧ (0 ≤ l[k] ∧ l[k] ≤ 255) := by
  obtain ⟨A, c, hv, h1, h2, h3⟩ := h
  refine ⟨A, c, hv, h1, by unfold maxLen at h2; omega, fun k hk => ?_⟩
  obtain ⟨ad, cs, ha, hlt, hc, rfl, hr⟩ := h3 k hk
  exact ⟨ad, ha, hlt, hc 0 _ rfl, hr⟩

theorem paid_rep {w0 w : World} {B : Nat} {v : Value} {xs : List Scn} {S : Nat → Prop} (hx : Sl rScn w0 B v xs) {q : Scn} (hq : q ∈ xs) : rScn.rep w S q (encX q) := by
  obtain ⟨k, hk, rfl⟩ := List.getElem_of_mem hq
  obtain ⟨A, c, _, _, _, hcell⟩ := hx.scn
  obtain ⟨_, _, _, _, h⟩ := hcell k hk
  exact ⟨rfl, h⟩
/-! ### What no error means -/
theorem list_small {l : List Opn} {n : Int} (h : listE l n = 0) : Small l ∧ ∀ k (hk : k < l.length), 0 ≤ l[k].minutes ∧ l[k].minutes ≤ 10000 := by
  obtain ⟨h1, h2, _⟩ := list_parts h
  have hp : ∀ k (hk : k < l.length), _ := fun k hk => op_parts (l := l) (n := n) (List.getElem?_eq_getElem hk) (firstE_at h2 k hk)
  refine ⟨⟨by omega, fun k hk a ha => ?_⟩, fun k hk => ?_⟩
  · obtain ⟨_, _, _, c4, _⟩ := hp k hk
    have h3 : areIx l[k].after l.length = true := by
      cases hx : areIx l[k].after l.length with
      | true => rfl
      | false => exact absurd (.inl hx) c4
    exact areIx_at h3 a ha
  · obtain ⟨_, _, c3, _⟩ := hp k hk
    omega
theorem judge_zero {e : Int} {bs : List Bun} {ws : List Wrk} {n : Nat} (h : judgeAllE e bs ws n = 0) : ScanOk e bs ws ∧ n ≤ 300 := by
  unfold judgeAllE at h
  split at h
  · rename_i h1; exact absurd h h1
  · rename_i h1
    split at h
    · cases h
    · exact ⟨scan_good (Classical.not_not.1 h1), by omega⟩
theorem scan_ops {s : Sty} {bs : List Bun} {ws : List Wrk} (h : ScanOk (opCheckE s plE) bs ws) : Small s.ops ∧ ∀ k (hk : k < s.ops.length), 0 ≤ s.ops[k].minutes ∧ s.ops[k].minutes ≤ 10000 := list_small (check_parts h.op).2.1
theorem sty_ops {w : World} {v0 v1 v2 v3 v4 v5 v6 : Value} {s : Sty} (h : StyV w w.heap.size (.agg #[v0, v1, v2, v3, v4, v5, v6]) s) : Sl rOp w w.heap.size v6 s.ops := by
  obtain ⟨As, cs, Am, cm, Ap, cp, Au, cu, Ae, ce, Ao, co, he, _, _, _, _, _, _, h6⟩ := h
  injection he with he
  have : (#[v0, v1, v2, v3, v4, v5, v6] : Array Value)[6]? = some v6 := rfl
  rw [he] at this
  injection this with this
  rw [← this]
  exact h6
theorem case_check {w : World} {v : Value} {s : Sty} (h : StyV w w.heap.size v s) : ∀ (L : List Res) (w' : World), St w L w' → Ok Tryz.prog 63 [v].toArray w' fun x _ => x = .int .i64 (opCheckE s plE) := fun _ w' s' => opCheck_ok w' v s (StyV.later s' h)

section
variable {w : World} {v0 v1 v2 v3 v4 v5 v6 vb vw vx : Value} {r le : Int} {s : Sty} {bs : List Bun} {ws : List Wrk} {xs : List Scn}
theorem cPaid_bad (hs : StyV w w.heap.size (.agg #[v0, v1, v2, v3, v4, v5, v6]) s) (hb : Sl rBun w w.heap.size vb bs) (hw : Sl rWrk w w.heap.size vw ws) (hx : Sl rScn w w.heap.size vx xs) (he : ¬ judgeAllE (opCheckE s plE) bs ws xs.length = 0) :
    Ok Tryz.prog 8 [.agg #[v0, v1, v2, v3, v4, v5, v6], vb, vw, vx].toArray w fun x _ => x = .tuple #[.slice none 0 0, .int .i64 (judgeAllE (opCheckE s plE) bs ws xs.length)] := Paid_bad (case_check hs) hb hw hx he
theorem cPaid_ok (hs : StyV w w.heap.size (.agg #[v0, v1, v2, v3, v4, v5, v6]) s) (hb : Sl rBun w w.heap.size vb bs) (hw : Sl rWrk w w.heap.size vw ws) (hx : Sl rScn w w.heap.size vx xs) (he : judgeAllE (opCheckE s plE) bs ws xs.length = 0) :
    OkM Tryz.prog 8 [.agg #[v0, v1, v2, v3, v4, v5, v6], vb, vw, vx].toArray w (fun x : Option Addr × Nat => .tuple #[.slice x.1 (paidL s.ops ws (ticks bs) xs).length x.2, .int .i64 0]) (fun x => [Own x.1 (paidL s.ops ws (ticks bs) xs).length x.2 51 4 ((paidL s.ops ws (ticks bs) xs).flatMap encX)]) :=
  Paid_ok (case_check hs) (sty_ops hs) hb hw hx (scan_ops (judge_zero he).1).1 he
end
end Go.Proofs.YtckhibfbdnoigaaGreatDoor

/- Plain facts of the laws WageOnce and WageBounds. No program in sight. -/
namespace Go.Proofs.YtckhibfbdnoigaaGreatDoor
open Go.RowKit

/-! ### What each worker recorded -/
/-! ### All operations on all bundles -/
def amtF (r le : Int) (l : List Opn) (bs : List Bun) (p : Int × Int) : Int := amtV r le (minAt l p.2) (cntAt bs p.1)
theorem sumI_perm {a b : List Int} (h : a.Perm b) : sumI a = sumI b := by
  induction h with
  | nil => rfl
  | cons x _ ih => rw [sumI_cons, sumI_cons, ih]
  | swap x y l => rw [sumI_cons, sumI_cons, sumI_cons, sumI_cons]; omega
  | trans _ _ ih1 ih2 => rw [ih1, ih2]
theorem sum_sub {α : Type} [DecidableEq α] {f : α → Int} (hf : ∀ p, 0 ≤ f p) : ∀ (a g : List α), a.Nodup → (∀ x ∈ a, x ∈ g) → sumI (a.map f) ≤ sumI (g.map f)
  | [], g, _, _ => sumI_nonneg fun x hx => by obtain ⟨y, _, rfl⟩ := List.mem_map.1 hx; exact hf y
  | x :: a, g, hn, hs => by
    obtain ⟨h1, h2⟩ := List.nodup_cons.1 hn
    have hp := List.perm_cons_erase (hs x List.mem_cons_self)
    rw [sumI_perm (hp.map f), List.map_cons, List.map_cons, sumI_cons, sumI_cons]
    have := sum_sub hf a (g.erase x) h2 fun y hy => (List.mem_erase_of_ne fun he => h1 (by rw [← he]; exact hy)).2 (hs y (List.mem_cons_of_mem _ hy))
    omega
theorem amtF_range (r le : Int) (l : List Opn) (bs : List Bun) (p : Int × Int) : 0 ≤ amtF r le l bs p ∧ amtF r le l bs p ≤ 1000000000 := amtV_range _ _ _ _
/-! ### A greater rate -/
/-! ### The pays of the paid scans -/
end Go.Proofs.YtckhibfbdnoigaaGreatDoor

/- Returns and charges: how they lie; what returns come to. No program in sight. -/
namespace Go.Proofs.YtckhibfbdnoigaaGreatDoor
open Go.RowKit

structure Ret where
  (tick ply op : Int)
  deriving DecidableEq
structure Chg where
  (who tick ply op amt : Int)
  deriving DecidableEq
def rRet : Rp Ret where
  size := 3
  rep _ _ b cs := cs = [.int .i64 b.tick, .int .i64 b.ply, .int .i64 b.op] ∧ inI64 b.tick ∧ inI64 b.ply ∧ inI64 b.op
  len h := by rw [h.1]; rfl
  mono _ h := h
  grow _ h := h
def encC (c : Chg) : List Value := [.int .i64 c.who, .int .i64 c.tick, .int .i64 c.ply, .int .i64 c.op, .int .i64 c.amt]
def encR (c : Ret) : List Value := [.int .i64 c.tick, .int .i64 c.ply, .int .i64 c.op]
def retF (r : Ret) : List Int := [r.tick, r.ply, r.op]
theorem retF_inj (a b : Ret) (h : retF a = retF b) : a = b := by
  cases a; cases b
  simp only [retF, List.cons.injEq, and_true] at h
  obtain ⟨h1, h2, h3⟩ := h
  rw [h1, h2, h3]

/-! ### Who was paid -/
def bunAt (bs : List Bun) (t : Int) : Option Bun := bs.find? fun b => decide (b.tick = t)
def bunZ : Bun := ⟨0, 0, 0, 0, 0, 0⟩
def whoAt (ps : List Scn) (t o : Int) : Option Scn := ps.find? fun x => decide (x.tick = t) && decide (x.op = o)
def trE (n : Nat) (bs : List Bun) (ps : List Scn) (r : Ret) : Int := match bunAt bs r.tick with
  | none => 6
  | some b => if r.ply < b.fr ∨ r.ply ≥ b.upto ∨ r.op < 0 ∨ r.op ≥ n then 3 else match whoAt ps r.tick r.op with
    | none => 6
    | some _ => 0
def trW (n : Nat) (bs : List Bun) (ps : List Scn) (r : Ret) : Int := if trE n bs ps r = 0 then ((whoAt ps r.tick r.op).map (·.who)).getD 0 else 0
def trB (n : Nat) (bs : List Bun) (ps : List Scn) (r : Ret) : Bun := if trE n bs ps r = 0 then (bunAt bs r.tick).getD bunZ else bunZ
structure Traced (n : Nat) (bs : List Bun) (ps : List Scn) (r : Ret) (b : Bun) (x : Scn) : Prop where
  bun : bunAt bs r.tick = some b
  ply : b.fr ≤ r.ply ∧ r.ply < b.upto
  op : 0 ≤ r.op ∧ r.op < n
  who : whoAt ps r.tick r.op = some x
  w : trW n bs ps r = x.who
  b : trB n bs ps r = b
theorem trE_zero {n : Nat} {bs : List Bun} {ps : List Scn} {r : Ret} (h : trE n bs ps r = 0) : ∃ b x, Traced n bs ps r b x := by
  have h' := h
  unfold trE at h
  split at h
  · cases h
  · rename_i b hb
    split at h
    · cases h
    · rename_i hr
      split at h
      · cases h
      · rename_i x hx
        refine ⟨b, x, hb, by omega, by omega, hx, ?_, ?_⟩
        · unfold trW; rw [if_pos h', hx]; rfl
        · unfold trB; rw [if_pos h', hb]; rfl
theorem trE_mk {n : Nat} {bs : List Bun} {ps : List Scn} {r : Ret} {b : Bun} {x : Scn} (hb : bunAt bs r.tick = some b) (h1 : b.fr ≤ r.ply ∧ r.ply < b.upto) (h2 : 0 ≤ r.op ∧ r.op < n) (hx : whoAt ps r.tick r.op = some x) : trE n bs ps r = 0 := by
  unfold trE
  rw [hb]
  dsimp only
  rw [if_neg (by omega), hx]
theorem trE_bad {n : Nat} {bs : List Bun} {ps : List Scn} {r : Ret} (h : ¬ trE n bs ps r = 0) : trW n bs ps r = 0 ∧ trB n bs ps r = bunZ := by
  unfold trW trB
  rw [if_neg h, if_neg h]
  exact ⟨rfl, rfl⟩
theorem bunAt_mem {bs : List Bun} {t : Int} {b : Bun} (h : bunAt bs t = some b) : b ∈ bs ∧ b.tick = t := ⟨List.mem_of_find?_eq_some h, by simpa using List.find?_some h⟩
theorem whoAt_mem {ps : List Scn} {t o : Int} {x : Scn} (h : whoAt ps t o = some x) : x ∈ ps ∧ x.tick = t ∧ x.op = o := by
  refine ⟨List.mem_of_find?_eq_some h, ?_⟩
  have := List.find?_some h
  simpa using this
theorem cnt_bun {bs : List Bun} {t : Int} {b : Bun} (h : bunAt bs t = some b) : cntAt bs t = b.upto - b.fr := by
  unfold cntAt
  unfold bunAt at h
  rw [h]
  rfl

/-! ### What is charged -/
def frAt (bs : List Bun) (t : Int) : Int := ((bunAt bs t).map (·.fr)).getD 0
def shareOf (r le : Int) (l : List Opn) (bs : List Bun) (x : Ret) : Int := (shL (amtF r le l bs (x.tick, x.op)) (cntAt bs x.tick).toNat).getD (x.ply - frAt bs x.tick).toNat 0
def chgOf (r le : Int) (l : List Opn) (bs : List Bun) (ps : List Scn) (x : Ret) : Chg := ⟨trW l.length bs ps x, x.tick, x.ply, x.op, shareOf r le l bs x⟩
def okR (n : Nat) (bs : List Bun) (ps : List Scn) (x : Ret) : Bool := decide (trE n bs ps x = 0)
section
variable (ok : Ret → Bool)
def nextD (D : List Ret) (x : Ret) : List Ret := if ok x = true ∧ ¬ x ∈ D then D ++ [x] else D
def doneL (xs : List Ret) : List Ret := xs.foldl (nextD ok) []
def outR (D : List Ret) (x : Ret) : Int := if ok x = false then 3 else if x ∈ D then 2 else 1
def outsR : List Ret → List Ret → List Int
  | _, [] => []
  | D, x :: xs => outR ok D x :: outsR (nextD ok D x) xs
end
section
variable {ok : Ret → Bool}
theorem doneL_snoc (xs : List Ret) (x : Ret) : doneL ok (xs ++ [x]) = nextD ok (doneL ok xs) x := by
  unfold doneL
  rw [List.foldl_append]
  rfl
theorem outsR_snoc (x : Ret) : ∀ (xs D : List Ret), outsR ok D (xs ++ [x]) = outsR ok D xs ++ [outR ok (xs.foldl (nextD ok) D) x]
  | [], _ => rfl
  | y :: xs, D => by
    show _ :: outsR ok _ (xs ++ [x]) = _
    rw [outsR_snoc x xs]
    rfl
theorem outsR_len : ∀ (xs D : List Ret), (outsR ok D xs).length = xs.length
  | [], _ => rfl
  | _ :: xs, _ => congrArg (· + 1) (outsR_len xs _)
theorem done_ind' {φ : List Ret → Prop} (step : ∀ D x, φ D → ok x = true → ¬ x ∈ D → φ (D ++ [x])) : ∀ (xs D : List Ret), φ D → φ (xs.foldl (nextD ok) D)
  | [], _, h => h
  | x :: xs, D, h => done_ind' step xs (nextD ok D x) (by
      unfold nextD
      split
      · rename_i h1; exact step D x h h1.1 h1.2
      · exact h)
theorem done_nodup (xs : List Ret) : (doneL ok xs).Nodup := done_ind' (φ := fun D => D.Nodup) (fun D x h _ hx => by
  rw [List.nodup_append]
  exact ⟨h, by simp, fun a ha b hb => by
    rw [List.mem_singleton] at hb
    subst hb
    rintro rfl
    exact hx ha⟩) xs [] List.nodup_nil
theorem done_mem' : ∀ (xs D : List Ret) (y : Ret), y ∈ xs.foldl (nextD ok) D ↔ y ∈ D ∨ (y ∈ xs ∧ ok y = true)
  | [], D, y => by simp
  | x :: xs, D, y => by
    rw [List.foldl_cons, done_mem' xs]
    unfold nextD
    by_cases h : ok x = true ∧ ¬ x ∈ D
    · rw [if_pos h, List.mem_append, List.mem_singleton, List.mem_cons]
      constructor
      · rintro ((h1 | rfl) | h1)
        · exact .inl h1
        · exact .inr ⟨.inl rfl, h.1⟩
        · exact .inr ⟨.inr h1.1, h1.2⟩
      · rintro (h1 | ⟨rfl | h1, h2⟩)
        · exact .inl (.inl h1)
        · exact .inl (.inr rfl)
        · exact .inr ⟨h1, h2⟩
    · rw [if_neg h, List.mem_cons]
      constructor
      · rintro (h1 | h1)
        · exact .inl h1
        · exact .inr ⟨.inr h1.1, h1.2⟩
      · rintro (h1 | ⟨rfl | h1, h2⟩)
        · exact .inl h1
        · by_cases hd : y ∈ D
          · exact .inl hd
          · exact absurd ⟨h2, hd⟩ h
        · exact .inr ⟨h1, h2⟩
theorem done_mem {xs : List Ret} {y : Ret} : y ∈ doneL ok xs ↔ y ∈ xs ∧ ok y = true := by
  unfold doneL
  rw [done_mem']
  simp
theorem done_len' : ∀ (xs D : List Ret), (xs.foldl (nextD ok) D).length ≤ D.length + xs.length
  | [], D => by simp
  | x :: xs, D => by
    have h1 := done_len' xs (nextD ok D x)
    have h2 : (nextD ok D x).length ≤ D.length + 1 := by unfold nextD; split <;> simp
    simp only [List.foldl_cons, List.length_cons]
    omega
theorem done_len (xs : List Ret) : (doneL ok xs).length ≤ xs.length := by
  have := done_len' (ok := ok) xs []
  unfold doneL
  simpa using this
theorem done_again' {D : List Ret} : ∀ (ys : List Ret), (∀ y ∈ ys, ok y = true → y ∈ D) → ys.foldl (nextD ok) D = D
  | [], _ => rfl
  | y :: ys, h => by
    have e : nextD ok D y = D := by
      unfold nextD
      rw [if_neg]
      rintro ⟨h1, h2⟩
      exact h2 (h y List.mem_cons_self h1)
    rw [List.foldl_cons, e]
    exact done_again' ys fun z hz => h z (List.mem_cons_of_mem _ hz)
/-- All returns once more charge nothing more. -/
theorem done_twice (xs : List Ret) : doneL ok (xs ++ xs) = doneL ok xs := by
  have : doneL ok (xs ++ xs) = xs.foldl (nextD ok) (doneL ok xs) := by unfold doneL; rw [List.foldl_append]
  rw [this]
  exact done_again' xs fun y hy h => done_mem.2 ⟨hy, h⟩
theorem done_all {xs : List Ret} (hn : xs.Nodup) (h : ∀ y ∈ xs, ok y = true) : doneL ok xs = xs := by
  have : ∀ (ys D : List Ret), (D ++ ys).Nodup → (∀ y ∈ ys, ok y = true) → ys.foldl (nextD ok) D = D ++ ys := by
    intro ys
    induction ys with
    | nil => intro D _ _; simp
    | cons y ys ih =>
      intro D hD ho
      have hy : ¬ y ∈ D := fun hc => by
        rw [List.nodup_append] at hD
        exact hD.2.2 y hc y List.mem_cons_self rfl
      have e : nextD ok D y = D ++ [y] := by unfold nextD; rw [if_pos ⟨ho y List.mem_cons_self, hy⟩]
      rw [List.foldl_cons, e, ih (D ++ [y]) (by simpa using hD) fun z hz => ho z (List.mem_cons_of_mem _ hz)]
      simp
  have := this xs [] (by simpa using hn) h
  simpa [doneL] using this
end
def chgL (r le : Int) (l : List Opn) (bs : List Bun) (ps : List Scn) (xs : List Ret) : List Chg := (doneL (okR l.length bs ps) xs).map (chgOf r le l bs ps)

/-! ### Nets -/
end Go.Proofs.YtckhibfbdnoigaaGreatDoor

/- Shops: how they lie. -/
namespace Go.Proofs.YtckhibfbdnoigaaGreatDoor
open Go.RowKit
structure Shp where
  (sty : Sty) (bs : List Bun) (ws : List Wrk) (xs : List Scn) (r le : Int)
def ShopV (w : World) (v : Value) (c : Shp) : Prop :=
  ∃ v0 v1 v2 v3 v4 v5 v6 vb vw vx, v = .agg #[v0, v1, v2, v3, v4, v5, v6, vb, vw, vx, .int .i64 c.r, .int .i64 c.le] ∧ StyV w w.heap.size (.agg #[v0, v1, v2, v3, v4, v5, v6]) c.sty ∧ Sl rBun w w.heap.size vb c.bs ∧ Sl rWrk w w.heap.size vw c.ws ∧ Sl rScn w w.heap.size vx c.xs
theorem ShopV.later {w0 w : World} {L : List Res} {v : Value} {c : Shp} (s : St w0 L w) (h : ShopV w0 v c) : ShopV w v c := by
  obtain ⟨v0, v1, v2, v3, v4, v5, v6, vb, vw, vx, rfl, h1, h2, h3, h4⟩ := h
  exact ⟨v0, v1, v2, v3, v4, v5, v6, vb, vw, vx, rfl, StyV.later s h1, h2.later s, h3.later s, h4.later s⟩
theorem Sl.ret {w : World} {B : Nat} {v : Value} {l : List Ret} (h : Sl rRet w B v l) : ∃ A c, v = .slice A l.length c ∧ l.length ≤ c ∧ l.length ≤ 9223372036854775807 ∧
    ∀ k (hk : k < l.length), ∃ ad, A = some ad ∧ ad.block < B ∧ (∀ j u, [Value.int .i64 l[k].tick, .int .i64 l[k].ply, .int .i64 l[k].op][j]? = some u → w.cell? (ad.add (k * 3 + j)) = some u) ∧ inI64 l[k].tick ∧ inI64 l[k].ply ∧ inI64 l[k].op := by
  obtain ⟨A, c, hv, h1, h2, h3⟩ := h
  refine ⟨A, c, hv, h1, by unfold maxLen at h2; omega, fun k hk => ?_⟩
  obtain ⟨ad, cs, ha, hlt, hc, rfl, hr⟩ := h3 k hk
  exact ⟨ad, ha, hlt, hc, hr⟩
end Go.Proofs.YtckhibfbdnoigaaGreatDoor

/- Plain facts of the chapter 58: sums of charges. No program in sight. -/
namespace Go.Proofs.YtckhibfbdnoigaaGreatDoor
open Go.RowKit

/-! ### Sums of shares -/
def shS (a : Int) (n k : Nat) : Int := (k : Int) * (a / n) + min (k : Int) (a % n)
theorem shS_next (a : Int) {n : Nat} (hn : 0 < n) (k : Nat) : shS a n (k + 1) = shS a n k + shF a n k := by
  unfold shS shF
  have h1 : ((k + 1 : Nat) : Int) * (a / n) = (k : Int) * (a / n) + a / n := by
    rw [Int.natCast_add, Int.add_mul]
    simp
  have h2 : 0 ≤ a % (n : Int) := Int.emod_nonneg _ (by omega)
  rw [h1]
  split <;> omega
theorem shS_full (a : Int) {n : Nat} (hn : 0 < n) : shS a n n = a := by
  unfold shS
  have h1 := Int.mul_ediv_add_emod a n
  have h2 : a % (n : Int) < n := Int.emod_lt_of_pos _ (by omega)
  rw [Int.min_eq_right (by omega)]
  exact h1
theorem shS_zero (a : Int) {n : Nat} (hn : 0 < n) : shS a n 0 = 0 := by
  have h2 : 0 ≤ a % (n : Int) := Int.emod_nonneg _ (by omega)
  unfold shS
  rw [Int.min_eq_left (by simpa using h2)]
  simp
theorem sh_sum (a : Int) {n : Nat} (hn : 0 < n) : ∀ k, sumI ((List.range k).map (shF a n)) = shS a n k
  | 0 => (shS_zero a hn).symm
  | k + 1 => by rw [List.range_succ, List.map_append, sumI_append, sh_sum a hn k, shS_next a hn]; simp [sumI]
theorem shF_nonneg {a : Int} {n : Nat} (h0 : 0 ≤ a) (i : Nat) : 0 ≤ shF a n i := by
  have h3 : 0 ≤ a / (n : Int) := Int.ediv_nonneg h0 (by omega)
  unfold shF
  split <;> omega
theorem shF_le {a : Int} {n : Nat} (hn : 0 < n) (h0 : 0 ≤ a) {i : Nat} (hi : i < n) : shF a n i ≤ a := by
  have h1 := sh_sum a hn n
  rw [shS_full a hn] at h1
  have h2 := sum_sub (f := shF a n) (fun p => shF_nonneg h0 p) [i] (List.range n) (by simp) (fun x hx => by rw [List.mem_singleton] at hx; subst hx; exact List.mem_range.2 hi)
  rw [h1] at h2
  simpa [sumI] using h2
theorem shL_at {a : Int} {n k : Nat} (hk : k < n) : (shL a n).getD k 0 = shF a n k := by simp [shL, hk]

/-! ### A shop in order -/
structure Plies (bs : List Bun) : Prop where
  h : ∀ b ∈ bs, 1 ≤ b.upto - b.fr ∧ b.upto - b.fr ≤ 40
theorem ScanOk.bundles {e : Int} {bs : List Bun} {ws : List Wrk} (h : ScanOk e bs ws) : Plies bs := ⟨fun b hb => by
  obtain ⟨k, hk, rfl⟩ := List.getElem_of_mem hb
  exact h.plies k hk⟩
section
variable {r le : Int} {l : List Opn} {bs : List Bun} {ps : List Scn}
theorem share_at {x : Ret} {b : Bun} {y : Scn} (hp : Plies bs) (h : Traced l.length bs ps x b y) : ∃ n k : Nat, b.upto - b.fr = n ∧ x.ply - b.fr = k ∧ k < n ∧ 1 ≤ n ∧ n ≤ 40 ∧ shareOf r le l bs x = shF (amtF r le l bs (x.tick, x.op)) n k := by
  have h1 := hp.h b (bunAt_mem h.bun).1
  have h2 := h.ply
  refine ⟨(b.upto - b.fr).toNat, (x.ply - b.fr).toNat, by omega, by omega, by omega, by omega, by omega, ?_⟩
  unfold shareOf frAt
  rw [cnt_bun h.bun, h.bun]
  show (shL _ _).getD (x.ply - b.fr).toNat 0 = _
  exact shL_at (by omega)
theorem share_range {x : Ret} (hp : Plies bs) (h : okR l.length bs ps x = true) : 0 ≤ shareOf r le l bs x ∧ shareOf r le l bs x ≤ 1000000000 := by
  obtain ⟨b, y, ht⟩ := trE_zero (of_decide_eq_true h)
  obtain ⟨n, k, _, _, hk, hn, _, he⟩ := share_at (r := r) (le := le) hp ht
  have ha := amtF_range r le l bs (x.tick, x.op)
  rw [he]
  have h1 := shF_nonneg (n := n) ha.1 k
  have h2 := shF_le (by omega) ha.1 hk
  omega
/-- The sum of the charges for an operation on a bundle. -/
def sumTO (cs : List Chg) (t o : Int) : Int := sumI ((cs.filter fun c => decide (c.tick = t ∧ c.op = o)).map (·.amt))
theorem sumTO_snoc (cs : List Chg) (c : Chg) (t o : Int) : sumTO (cs ++ [c]) t o = if c.tick = t ∧ c.op = o then sumTO cs t o + c.amt else sumTO cs t o := by
  unfold sumTO
  rw [List.filter_append]
  by_cases h : c.tick = t ∧ c.op = o
  · simp [h, sumI_snoc]
  · rw [if_neg h]
    simp [h]
theorem sumTO_map (D : List Ret) (t o : Int) : sumTO (D.map (chgOf r le l bs ps)) t o = sumI ((D.filter fun x => decide (x.tick = t ∧ x.op = o)).map (shareOf r le l bs)) := by
  unfold sumTO
  rw [List.filter_map, List.map_map]
  rfl
theorem sum_pos {t o : Int} {b : Bun} {n : Nat} (hp : Plies bs) (hb : bunAt bs t = some b) (hn : b.upto - b.fr = n) (D : List Ret) (hD : ∀ x ∈ D, okR l.length bs ps x = true ∧ x.tick = t ∧ x.op = o) :
    sumI (D.map (shareOf r le l bs)) = sumI ((D.map fun x => (x.ply - b.fr).toNat).map (shF (amtF r le l bs (t, o)) n)) := by
  rw [List.map_map]
  congr 1
  apply List.map_congr_left
  intro x hx
  obtain ⟨h1, h2, h3⟩ := hD x hx
  obtain ⟨b', y, ht⟩ := trE_zero (of_decide_eq_true h1)
  obtain ⟨n', k, e1, e2, _, _, _, he⟩ := share_at (r := r) (le := le) hp ht
  have hbb : b' = b := by
    have := ht.bun
    rw [h2, hb] at this
    exact (Option.some.inj this).symm
  subst hbb
  rw [he, h2, h3]
  show _ = shF (amtF r le l bs (t, o)) n (x.ply - b'.fr).toNat
  have e3 : n' = n := by omega
  have e4 : k = (x.ply - b'.fr).toNat := by omega
  rw [e3, e4]
theorem pos_of {t o : Int} {b : Bun} {n : Nat} (hb : bunAt bs t = some b) (hn : b.upto - b.fr = n) {x : Ret} (hx : okR l.length bs ps x = true ∧ x.tick = t ∧ x.op = o) : b.fr ≤ x.ply ∧ x.ply < b.upto := by
  obtain ⟨h1, h2, _⟩ := hx
  obtain ⟨b', y, ht⟩ := trE_zero (of_decide_eq_true h1)
  have hbb : b' = b := by
    have := ht.bun
    rw [h2, hb] at this
    exact (Option.some.inj this).symm
  subst hbb
  exact ht.ply
/-- The returns of all plies of a bundle. -/
def allP (t fr o : Int) (n : Nat) : List Ret := (List.range n).map fun i => ⟨t, fr + (i : Nat), o⟩
theorem allP_nodup (t fr o : Int) (n : Nat) : (allP t fr o n).Nodup := by
  unfold allP List.Nodup
  rw [List.pairwise_map]
  refine List.Pairwise.imp (fun {a b} h he => ?_) (List.nodup_range (n := n))
  injection he with _ h2 _
  exact h (by omega)
theorem allP_mem {t fr o : Int} {n : Nat} {x : Ret} (h : x ∈ allP t fr o n) : x.tick = t ∧ x.op = o ∧ fr ≤ x.ply ∧ x.ply < fr + n := by
  obtain ⟨i, hi, rfl⟩ := List.mem_map.1 h
  have := List.mem_range.1 hi
  refine ⟨rfl, rfl, ?_, ?_⟩ <;> dsimp only <;> omega
theorem sum_all {t o : Int} {b : Bun} {y : Scn} {n : Nat} (hp : Plies bs) (hb : bunAt bs t = some b) (hn : b.upto - b.fr = n) (ho : 0 ≤ o ∧ o < l.length) (hy : whoAt ps t o = some y) :
    doneL (okR l.length bs ps) (allP t b.fr o n) = allP t b.fr o n ∧ sumI ((chgL r le l bs ps (allP t b.fr o n)).map (·.amt)) = amtF r le l bs (t, o) := by
  have h1 := hp.h b (bunAt_mem hb).1
  have hok : ∀ x ∈ allP t b.fr o n, okR l.length bs ps x = true := fun x hx => by
    obtain ⟨e1, e2, h3, h4⟩ := allP_mem hx
    exact decide_eq_true (trE_mk (b := b) (x := y) (by rw [e1]; exact hb) (by omega) (by rw [e2]; exact ho) (by rw [e1, e2]; exact hy))
  have hd := done_all (allP_nodup t b.fr o n) hok
  refine ⟨hd, ?_⟩
  unfold chgL
  rw [hd, List.map_map]
  show sumI ((allP t b.fr o n).map (shareOf r le l bs)) = _
  rw [sum_pos (ps := ps) hp hb hn (allP t b.fr o n) fun x hx => ⟨hok x hx, (allP_mem hx).1, (allP_mem hx).2.1⟩]
  have hfull := sh_sum (amtF r le l bs (t, o)) (n := n) (by omega) n
  rw [shS_full _ (by omega)] at hfull
  refine Eq.trans ?_ hfull
  congr 2
  unfold allP
  rw [List.map_map]
  apply List.ext_getElem
  · simp
  · intro i h2 h3
    simp only [List.getElem_map, List.getElem_range, Function.comp]
    omega
theorem chg_mem {xs : List Ret} {c : Chg} (h : c ∈ chgL r le l bs ps xs) : ∃ x, c = chgOf r le l bs ps x ∧ x ∈ xs ∧ okR l.length bs ps x = true := by
  obtain ⟨x, hx, rfl⟩ := List.mem_map.1 h
  exact ⟨x, rfl, done_mem.1 hx⟩
theorem chg_range (hp : Plies bs) {xs : List Ret} {c : Chg} (h : c ∈ chgL r le l bs ps xs) : 0 ≤ c.amt ∧ c.amt ≤ 1000000000 := by
  obtain ⟨x, rfl, _, hok⟩ := chg_mem h
  exact share_range hp hok
end
end Go.Proofs.YtckhibfbdnoigaaGreatDoor

/- Contracts: returns.history.trace, returns.Trace. -/
namespace Go.Proofs.YtckhibfbdnoigaaGreatDoor
open Go.RowKit
set_option maxRecDepth 100000
set_option maxHeartbeats 4000000

section
variable {P : Program} {N : Nat} {w0 : World} {L L' : List Res} {e : Env} {t : TypeId} {n : Nat}
theorem gx_ret3c [CAgg P t n] {fn : Func} {φ : Value → World → Prop} {a b r c : Nat} {bt : TypeId} {cs : Array Value} {u v : Value} (hres : fn.results = #[.tmp a, .cell r t, .tmp c]) (hu : ev N e (.tmp a) = u) (hv : ev N e (.tmp c) = v) (hr : ev N e (.tmp r) = .pointer (some ⟨b, 0, none⟩)) (hp : Pick L (Box b bt cs) L') (hn : cs.size = n) (h : ∀ w, St w0 L w → φ (.tuple #[u, .agg cs, v]) w) :
    GX (Post P fn w0 φ) N w0 L .ret e :=
  gx_ret (fun w s => by
    have hl := run_loadVarN (P := P) (t := t) (cs := cs.toList) (a := ⟨b, 0, none⟩) (w := w) (by rw [Array.length_toList, hn]; exact CAgg.h) fun j u hu => by
      have hadd : (⟨b, 0, none⟩ : Addr).add j = ⟨b, j, none⟩ := by unfold Addr.add; split <;> simp_all
      rw [hadd, Box.cell (s.pick hp).head j]
      simpa using hu
    have hg : (mk N e).tmps.getD r undef = .pointer (some ⟨b, 0, none⟩) := by rw [mk_getD]; exact hr
    have g1 : (mk N e).tmps.getD a undef = u := by rw [mk_getD]; exact hu
    have g2 : (mk N e).tmps.getD c undef = v := by rw [mk_getD]; exact hv
    simp only [Array.getD_eq_getD_getElem?] at hg g1 g2
    simp [results, hres, hg, g1, g2, asAddr, hl]) h
end
theorem find_take {α : Type} {p : α → Bool} {l : List α} {k : Nat} (hk : k < l.length) (h : (l.take k).find? p = none) (hp : p l[k] = true) : l.find? p = some l[k] := by
  have e : (l.take k ++ l[k] :: l.drop (k + 1)).find? p = some l[k] := by
    rw [List.find?_append, h, List.find?_cons, hp]
    rfl
  rwa [List.getElem_cons_drop, List.take_append_drop] at e
theorem find_snoc {α : Type} {p : α → Bool} {l : List α} {k : Nat} (hk : k < l.length) (h : (l.take k).find? p = none) (hp : p l[k] = false) : (l.take (k + 1)).find? p = none := by
  rw [List.take_succ_eq_append_getElem hk, List.find?_append, h]
  simp [hp]
def bunC (b : Bun) : Array Value := #[.int .i64 b.tick, .int .i64 b.garm, .int .i64 b.size, .int .i64 b.lot, .int .i64 b.fr, .int .i64 b.upto]

theorem trace_ok (w : World) (Al : Option Addr) (n cl : Nat) (vb vp : Value) (bs : List Bun) (ps : List Scn) (r : Ret) (hb : Sl rBun w w.heap.size vb bs) (hp : Sl rScn w w.heap.size vp ps) (_hn : n ≤ 9223372036854775807) :
    Ok Tryz.prog 27 [.agg #[.slice Al n cl, vb, vp], .agg #[.int .i64 r.tick, .int .i64 r.ply, .int .i64 r.op]].toArray w fun y _ => y = .tuple #[.int .i64 (trW n bs ps r), .agg (bunC (trB n bs ps r)), .int .i64 (trE n bs ps r)] := by
  obtain ⟨Ab, cb, rfl, hbc, hbm, hbcell⟩ := hb.bun
  obtain ⟨Ap, cp, rfl, hpc, hpm, hpcell⟩ := hp.scn
  refine ok_enter Tryz.func27 rfl Tryz.ntmps27 rfl ?_
  focus (refine gc_seq ?_; refine gc_region ?_; refine gw_boxd (v := .agg _) rfl rfl (fun _ => ?_); refine gw_boxd (v := .agg _) rfl rfl (fun _ => ?_); refine gM rfl rfl (by conv => (lhs; whnf)) ?_; refine w_alloc rfl (fun _ => ?_); refine gM rfl rfl (by conv => (lhs; whnf)) ?_; refine gO ?_; refine gc_seq ?_; refine gc_seq ?_; refine gc_region ?_; refine gF rfl rfl rfl ?_; apply gw_d; exact w_load_box rfl rfl rfl (.there (.there .here)) rfl; refine gL rfl rfl rfl ?_; refine gM rfl rfl (by conv => (lhs; whnf)) ?_; refine gO ?_; refine gc_block ?_)
  refine gc_loopK (σ := Nat) [15, 16, 17, 8, 18, 19, 20, 21, 22, 23, 24, 25, 26, 27, 28, 29, 30, 31, 32, 33, 34, 35, 36, 37, 38, 39, 40, 41, 42, 43, 44, 45, 46, 47, 48, 4, 6, 49, 50, 51, 52, 53, 54, 55, 10, 56, 57, 58, 59, 60, 61, 62, 63, 64, 65, 66, 67, 68, 69, 70, 71, 72, 73, 14] (fun k => [(14, .int .i64 k)]) (fun k => k ≤ bs.length ∧ (bs.take k).find? (fun b => decide (b.tick = r.tick)) = none) (fun k => bs.length - k) 0 ⟨Nat.zero_le _, rfl⟩ ⟨rfl, trivial⟩ ?_
  rintro k base ⟨hk, hI⟩
  focus (refine gc_seq ?_; refine gc_region ?_; refine gC rfl rfl rfl rfl rfl ?_; refine gO ?_; refine gc_seq ?_)
  refine gc_if_dec rfl (fun h => ?_) (fun h => ?_)
  · have hlt : k < bs.length := by omega
    obtain ⟨ad, rfl, hbk, hce, _⟩ := hbcell k hlt
    focus (refine gc_skip ?_; refine gx_next ?_; refine gc_seq ?_; refine gc_block ?_; refine gc_seq ?_; refine gc_region ?_; apply gw_d; exact w_index rfl rfl rfl rfl (by with_reducible exact rfl) (by omega); apply gw_d; exact w_load_elem rfl rfl rfl (by assumption) (by assumption) (by rfl); refine w_alloc rfl (fun _ => ?_); refine w_store_all rfl rfl rfl rfl rfl .here rfl ?_; refine gO ?_; refine gc_seq ?_; refine gc_seq ?_; refine gc_region ?_; refine gF rfl rfl rfl ?_; apply gw_d; exact w_load_box rfl rfl rfl .here rfl; refine gF rfl rfl rfl ?_; apply gw_d; exact w_load_box rfl rfl rfl (.there (.there .here)) rfl; refine gC rfl rfl rfl rfl rfl ?_; refine gO ?_)
    refine gc_if_dec rfl (fun h2 => ?_) (fun h2 => ?_)
    · focus (refine gc_exit ?_; refine gx_then_exit ?_; refine gx_block_exit ?_; refine gx_next ?_; refine gc_region ?_; apply gw_d; exact det_ar rfl rfl rfl rfl rfl (by omega); refine gM rfl rfl (by conv => (lhs; whnf)) ?_; refine gw_nil ?_)
      exact gx_round (k + 1) ⟨hlt, find_snoc hlt hI (decide_eq_false h2)⟩ (by omega) (by repeat (first | exact Keeps.refl | refine Keeps.upd rfl ?_ | refine Keeps.sets rfl ?_ | refine Keeps.havoc rfl ?_)) ⟨rfl, trivial⟩ Sub.tail
    have h2' : bs[k].tick = r.tick := by simpa using h2
    have hbun : bunAt bs r.tick = some bs[k] := find_take hlt hI (decide_eq_true h2')
    by_cases hr : r.ply < bs[k].fr ∨ r.ply ≥ bs[k].upto ∨ r.op < 0 ∨ r.op ≥ n
    · have hE : trE n bs ps r = 3 := by
        unfold trE
        rw [hbun]
        dsimp only
        rw [if_pos hr]
      obtain ⟨hW, hB⟩ := trE_bad (n := n) (bs := bs) (ps := ps) (r := r) (by rw [hE]; decide)
      rw [hE, hW, hB]
      focus (refine gc_skip ?_; refine gx_next ?_; refine gc_seq ?_; refine gc_seq ?_; refine gc_region ?_; refine gF rfl rfl rfl ?_; apply gw_d; exact w_load_box rfl rfl rfl (.there (.there .here)) rfl; refine gF rfl rfl rfl ?_; apply gw_d; exact w_load_box rfl rfl rfl .here rfl; refine gC rfl rfl rfl rfl rfl ?_; refine gM rfl rfl (by conv => (lhs; whnf)) ?_; refine gw_guard_dec rfl rfl (fun _ => ?_) (fun _ => ?_); refine gU rfl ?_; refine gU rfl ?_; refine gU rfl ?_; refine gU rfl ?_; refine gU rfl ?_; apply gw_d; exact det_pick_t (v := .bool _) rfl rfl rfl rfl; refine gM rfl rfl (by conv => (lhs; whnf)) ?_; refine gU rfl ?_; refine gU rfl ?_; refine gU rfl ?_; apply gw_d; exact det_pick_t (v := .bool _) rfl rfl rfl rfl; refine gM rfl rfl (by conv => (lhs; whnf)) ?_; refine gU rfl ?_; refine gU rfl ?_; refine gU rfl ?_; refine gU rfl ?_; refine gU rfl ?_; refine gU rfl ?_; apply gw_d; exact det_pick_t (v := .bool _) rfl rfl rfl rfl; refine gO ?_; refine gc_if_true rfl ?_; refine gc_seq ?_; refine gc_region ?_; apply gw_d; exact w_buildP [] (cells := #[.int .i64 0, .int .i64 0, .int .i64 0, .int .i64 0, .int .i64 0, .int .i64 0]) (by kernel_rfl) rfl rfl rfl; refine gM rfl rfl (by conv => (lhs; whnf)) ?_; refine w_store_all rfl rfl rfl rfl rfl (.there .here) rfl ?_; refine gM rfl rfl (by conv => (lhs; whnf)) ?_; refine gO ?_; refine gc_ret ?_; refine gx_then_ret ?_; refine gx_block_ret ?_; refine gx_then_ret ?_; refine gx_then_ret ?_; refine gx_block_ret ?_; refine gx_then_ret ?_; rotate_left; refine gF rfl rfl rfl ?_; apply gw_d; exact w_load_box rfl rfl rfl (.there (.there .here)) rfl; refine gF rfl rfl rfl ?_; apply gw_d; exact w_load_box rfl rfl rfl .here rfl; refine gC rfl rfl rfl rfl rfl ?_; apply gw_d; exact det_pick_f (v := .bool _) rfl rfl rfl rfl; refine gM rfl rfl (by conv => (lhs; whnf)) ?_; refine gw_guard_dec rfl rfl (fun _ => ?_) (fun _ => ?_); refine gU rfl ?_; refine gU rfl ?_; refine gU rfl ?_; apply gw_d; exact det_pick_t (v := .bool _) rfl rfl rfl rfl; refine gM rfl rfl (by conv => (lhs; whnf)) ?_; refine gU rfl ?_; refine gU rfl ?_; refine gU rfl ?_; refine gU rfl ?_; refine gU rfl ?_; refine gU rfl ?_; apply gw_d; exact det_pick_t (v := .bool _) rfl rfl rfl rfl; refine gO ?_; refine gc_if_true rfl ?_; refine gc_seq ?_; refine gc_region ?_; apply gw_d; exact w_buildP [] (cells := #[.int .i64 0, .int .i64 0, .int .i64 0, .int .i64 0, .int .i64 0, .int .i64 0]) (by kernel_rfl) rfl rfl rfl; refine gM rfl rfl (by conv => (lhs; whnf)) ?_; refine w_store_all rfl rfl rfl rfl rfl (.there .here) rfl ?_; refine gM rfl rfl (by conv => (lhs; whnf)) ?_; refine gO ?_; refine gc_ret ?_; refine gx_then_ret ?_; refine gx_block_ret ?_; refine gx_then_ret ?_; refine gx_then_ret ?_; refine gx_block_ret ?_; refine gx_then_ret ?_; rotate_left; refine gF rfl rfl rfl ?_; apply gw_d; exact w_load_box rfl rfl rfl (.there (.there .here)) rfl; refine gC rfl rfl rfl rfl rfl ?_; apply gw_d; exact det_pick_f (v := .bool _) rfl rfl rfl rfl; refine gM rfl rfl (by conv => (lhs; whnf)) ?_; refine gw_guard_dec rfl rfl (fun _ => ?_) (fun _ => ?_); refine gU rfl ?_; refine gU rfl ?_; refine gU rfl ?_; refine gU rfl ?_; refine gU rfl ?_; refine gU rfl ?_; apply gw_d; exact det_pick_t (v := .bool _) rfl rfl rfl rfl; refine gO ?_; refine gc_if_true rfl ?_; refine gc_seq ?_; refine gc_region ?_; apply gw_d; exact w_buildP [] (cells := #[.int .i64 0, .int .i64 0, .int .i64 0, .int .i64 0, .int .i64 0, .int .i64 0]) (by kernel_rfl) rfl rfl rfl; refine gM rfl rfl (by conv => (lhs; whnf)) ?_; refine w_store_all rfl rfl rfl rfl rfl (.there .here) rfl ?_; refine gM rfl rfl (by conv => (lhs; whnf)) ?_; refine gO ?_; refine gc_ret ?_; refine gx_then_ret ?_; refine gx_block_ret ?_; refine gx_then_ret ?_; refine gx_then_ret ?_; refine gx_block_ret ?_; refine gx_then_ret ?_; rotate_left; refine gF rfl rfl rfl ?_; apply gw_d; exact w_load_box rfl rfl rfl (.there (.there .here)) rfl; refine gF rfl rfl rfl ?_; apply gw_d; exact w_load_box rfl rfl rfl (.there (.there (.there .here))) rfl; refine gL rfl rfl rfl ?_; refine gC rfl rfl rfl rfl rfl ?_; apply gw_d; exact det_pick_f (v := .bool _) rfl rfl rfl rfl; refine gO ?_; refine gc_if_dec rfl (fun _ => ?_) (fun _ => ?_); refine gc_seq ?_; refine gc_region ?_; apply gw_d; exact w_buildP [] (cells := #[.int .i64 0, .int .i64 0, .int .i64 0, .int .i64 0, .int .i64 0, .int .i64 0]) (by kernel_rfl) rfl rfl rfl; refine gM rfl rfl (by conv => (lhs; whnf)) ?_; refine w_store_all rfl rfl rfl rfl rfl (.there .here) rfl ?_; refine gM rfl rfl (by conv => (lhs; whnf)) ?_; refine gO ?_; refine gc_ret ?_; refine gx_then_ret ?_; refine gx_block_ret ?_; refine gx_then_ret ?_; refine gx_then_ret ?_; refine gx_block_ret ?_; refine gx_then_ret ?_; rotate_left; refine gc_skip ?_; refine gx_next ?_; refine gc_seq ?_; refine gc_seq ?_; refine gc_region ?_; refine gF rfl rfl rfl ?_; apply gw_d; exact w_load_box rfl rfl rfl (.there (.there (.there .here))) rfl; refine gL rfl rfl rfl ?_; refine gM rfl rfl (by conv => (lhs; whnf)) ?_; refine gO ?_; refine gc_block ?_; rotate_left)
      all_goals first | (exfalso; omega) | skip
      all_goals exact gx_ret3c (cs := #[.int .i64 0, .int .i64 0, .int .i64 0, .int .i64 0, .int .i64 0, .int .i64 0]) rfl rfl rfl rfl .here rfl (fun _ _ => rfl)
    focus (refine gc_skip ?_; refine gx_next ?_; refine gc_seq ?_; refine gc_seq ?_; refine gc_region ?_; refine gF rfl rfl rfl ?_; apply gw_d; exact w_load_box rfl rfl rfl (.there (.there .here)) rfl; refine gF rfl rfl rfl ?_; apply gw_d; exact w_load_box rfl rfl rfl .here rfl; refine gC rfl rfl rfl rfl rfl ?_; refine gM rfl rfl (by conv => (lhs; whnf)) ?_; refine gw_guard_dec rfl rfl (fun _ => ?_) (fun _ => ?_); refine gU rfl ?_; refine gU rfl ?_; refine gU rfl ?_; refine gU rfl ?_; refine gU rfl ?_; apply gw_d; exact det_pick_t (v := .bool _) rfl rfl rfl rfl; refine gM rfl rfl (by conv => (lhs; whnf)) ?_; refine gU rfl ?_; refine gU rfl ?_; refine gU rfl ?_; apply gw_d; exact det_pick_t (v := .bool _) rfl rfl rfl rfl; refine gM rfl rfl (by conv => (lhs; whnf)) ?_; refine gU rfl ?_; refine gU rfl ?_; refine gU rfl ?_; refine gU rfl ?_; refine gU rfl ?_; refine gU rfl ?_; apply gw_d; exact det_pick_t (v := .bool _) rfl rfl rfl rfl; refine gO ?_; refine gc_if_true rfl ?_; refine gc_seq ?_; refine gc_region ?_; rotate_left; refine gF rfl rfl rfl ?_; apply gw_d; exact w_load_box rfl rfl rfl (.there (.there .here)) rfl; refine gF rfl rfl rfl ?_; apply gw_d; exact w_load_box rfl rfl rfl .here rfl; refine gC rfl rfl rfl rfl rfl ?_; apply gw_d; exact det_pick_f (v := .bool _) rfl rfl rfl rfl; refine gM rfl rfl (by conv => (lhs; whnf)) ?_; refine gw_guard_dec rfl rfl (fun _ => ?_) (fun _ => ?_); refine gU rfl ?_; refine gU rfl ?_; refine gU rfl ?_; apply gw_d; exact det_pick_t (v := .bool _) rfl rfl rfl rfl; refine gM rfl rfl (by conv => (lhs; whnf)) ?_; refine gU rfl ?_; refine gU rfl ?_; refine gU rfl ?_; refine gU rfl ?_; refine gU rfl ?_; refine gU rfl ?_; apply gw_d; exact det_pick_t (v := .bool _) rfl rfl rfl rfl; refine gO ?_; refine gc_if_true rfl ?_; refine gc_seq ?_; refine gc_region ?_; rotate_left; refine gF rfl rfl rfl ?_; apply gw_d; exact w_load_box rfl rfl rfl (.there (.there .here)) rfl; refine gC rfl rfl rfl rfl rfl ?_; apply gw_d; exact det_pick_f (v := .bool _) rfl rfl rfl rfl; refine gM rfl rfl (by conv => (lhs; whnf)) ?_; refine gw_guard_dec rfl rfl (fun _ => ?_) (fun _ => ?_); refine gU rfl ?_; refine gU rfl ?_; refine gU rfl ?_; refine gU rfl ?_; refine gU rfl ?_; refine gU rfl ?_; apply gw_d; exact det_pick_t (v := .bool _) rfl rfl rfl rfl; refine gO ?_; refine gc_if_true rfl ?_; refine gc_seq ?_; refine gc_region ?_; rotate_left; refine gF rfl rfl rfl ?_; apply gw_d; exact w_load_box rfl rfl rfl (.there (.there .here)) rfl; refine gF rfl rfl rfl ?_; apply gw_d; exact w_load_box rfl rfl rfl (.there (.there (.there .here))) rfl; refine gL rfl rfl rfl ?_; refine gC rfl rfl rfl rfl rfl ?_; apply gw_d; exact det_pick_f (v := .bool _) rfl rfl rfl rfl; refine gO ?_; refine gc_if_dec rfl (fun _ => ?_) (fun _ => ?_); refine gc_seq ?_; refine gc_region ?_; rotate_left; refine gc_skip ?_; refine gx_next ?_; refine gc_seq ?_; refine gc_seq ?_; refine gc_region ?_; refine gF rfl rfl rfl ?_; apply gw_d; exact w_load_box rfl rfl rfl (.there (.there (.there .here))) rfl; refine gL rfl rfl rfl ?_; refine gM rfl rfl (by conv => (lhs; whnf)) ?_; refine gO ?_; refine gc_block ?_; rotate_left)
    all_goals first | (exfalso; omega) | skip
    have hnE : trE n bs ps r = (match whoAt ps r.tick r.op with | none => (6 : Int) | some _ => 0) := by
      unfold trE
      rw [hbun]
      dsimp only
      rw [if_neg hr]
      try rfl
    refine gc_loopK (σ := Nat) [53, 54, 55, 10, 56, 57, 58, 59, 60, 61, 62, 63, 64, 65, 66, 67, 68, 69, 70, 4, 6, 71, 52] (fun j => [(52, .int .i64 j)]) (fun j => j ≤ ps.length ∧ (ps.take j).find? (fun x => decide (x.tick = r.tick) && decide (x.op = r.op)) = none) (fun j => ps.length - j) 0 ⟨Nat.zero_le _, rfl⟩ ⟨rfl, trivial⟩ ?_
    rintro j base2 ⟨hj, hJ⟩
    focus (refine gc_seq ?_; refine gc_region ?_; refine gC rfl rfl rfl rfl rfl ?_; refine gO ?_; refine gc_seq ?_)
    refine gc_if_dec rfl (fun h3 => ?_) (fun h3 => ?_)
    · have hjl : j < ps.length := by omega
      obtain ⟨ad2, rfl, hpk, hcp, _⟩ := hpcell j hjl
      by_cases hm : ps[j].tick = r.tick ∧ ps[j].op = r.op
      · have hwho : whoAt ps r.tick r.op = some ps[j] := find_take hjl hJ (by rw [decide_eq_true hm.1, decide_eq_true hm.2]; rfl)
        have hE : trE n bs ps r = 0 := by rw [hnE, hwho]
        have hW : trW n bs ps r = ps[j].who := by unfold trW; rw [if_pos hE, hwho]; rfl
        have hB : trB n bs ps r = bs[k] := by unfold trB; rw [if_pos hE, hbun]; rfl
        rw [hE, hW, hB]
        focus (refine gc_skip ?_; refine gx_next ?_; refine gc_seq ?_; refine gc_block ?_; refine gc_seq ?_; refine gc_region ?_; apply gw_d; exact w_index rfl rfl rfl rfl (by with_reducible exact rfl) (by omega); apply gw_d; exact w_load_elem rfl rfl rfl (by assumption) (by assumption) (by rfl); refine w_alloc rfl (fun _ => ?_); refine w_store_all rfl rfl rfl rfl rfl .here rfl ?_; refine gN ?_; refine gF rfl rfl rfl ?_; apply gw_d; exact w_load_box rfl rfl rfl .here rfl; refine gF rfl rfl rfl ?_; apply gw_d; exact w_load_box rfl rfl rfl (.there (.there (.there .here))) rfl; refine gC rfl rfl rfl rfl rfl ?_; refine gM rfl rfl (by conv => (lhs; whnf)) ?_)
        focus (refine gw_guard_dec rfl rfl (fun _ => ?_) (fun _ => ?_); refine gF rfl rfl rfl ?_; apply gw_d; exact w_load_box rfl rfl rfl .here rfl; refine gF rfl rfl rfl ?_; apply gw_d; exact w_load_box rfl rfl rfl (.there (.there (.there .here))) rfl; refine gC rfl rfl rfl rfl rfl ?_; apply gw_d; exact det_pick_t (v := .bool _) rfl rfl rfl rfl; refine gO ?_; refine gc_if_dec rfl (fun _ => ?_) (fun _ => ?_); refine gc_seq ?_; rotate_left; refine gc_skip ?_; refine gx_block ?_; refine gx_next ?_; refine gc_region ?_; apply gw_d; exact det_ar rfl rfl rfl rfl rfl (by omega); refine gM rfl rfl (by conv => (lhs; whnf)) ?_; refine gw_nil ?_; rotate_left; refine gU rfl ?_; refine gU rfl ?_; refine gU rfl ?_; refine gU rfl ?_; refine gU rfl ?_; apply gw_d; exact det_pick_f (v := .bool _) rfl rfl rfl rfl; refine gO ?_; refine gc_if_false rfl ?_; refine gc_skip ?_; refine gx_block ?_; refine gx_next ?_; refine gc_region ?_; apply gw_d; exact det_ar rfl rfl rfl rfl rfl (by omega); refine gM rfl rfl (by conv => (lhs; whnf)) ?_; refine gw_nil ?_; rotate_left)
        all_goals first | (exfalso; omega) | skip
        refine gc_draw 4 (by kernel_rfl) (by kernel_rfl) ?_
        focus (apply gd_d; exact w_field rfl rfl rfl; apply gd_d; exact w_load_box rfl rfl rfl .here rfl; apply gd_d; exact w_load_boxN rfl rfl rfl (.there .here) rfl; apply gd_d; exact det_m rfl rfl (by conv => (lhs; whnf)); refine gd_nil ?_; refine w_store_all rfl rfl rfl rfl rfl (.there (.there .here)) rfl ?_; refine gM rfl rfl (by conv => (lhs; whnf)) ?_; refine gO ?_; refine gc_ret ?_; refine gx_block_ret ?_; refine gx_then_ret ?_; refine gx_then_ret ?_; refine gx_block_ret ?_; refine gx_then_ret ?_; refine gx_block_ret ?_; refine gx_then_ret ?_; refine gx_then_ret ?_; refine gx_block_ret ?_; refine gx_then_ret ?_)
        exact gx_ret3c (cs := bunC bs[k]) rfl rfl rfl rfl .here rfl (fun _ _ => rfl)
      · have hJ' := find_snoc hjl hJ (by
          cases hx : (decide (ps[j].tick = r.tick) && decide (ps[j].op = r.op)) with
          | false => rfl
          | true =>
            rw [Bool.and_eq_true, decide_eq_true_eq, decide_eq_true_eq] at hx
            exact absurd hx hm)
        focus (refine gc_skip ?_; refine gx_next ?_; refine gc_seq ?_; refine gc_block ?_; refine gc_seq ?_; refine gc_region ?_; apply gw_d; exact w_index rfl rfl rfl rfl (by with_reducible exact rfl) (by omega); apply gw_d; exact w_load_elem rfl rfl rfl (by assumption) (by assumption) (by rfl); refine w_alloc rfl (fun _ => ?_); refine w_store_all rfl rfl rfl rfl rfl .here rfl ?_; refine gN ?_; refine gF rfl rfl rfl ?_; apply gw_d; exact w_load_box rfl rfl rfl .here rfl; refine gF rfl rfl rfl ?_; apply gw_d; exact w_load_box rfl rfl rfl (.there (.there (.there .here))) rfl; refine gC rfl rfl rfl rfl rfl ?_; refine gM rfl rfl (by conv => (lhs; whnf)) ?_)
        focus (refine gw_guard_dec rfl rfl (fun _ => ?_) (fun _ => ?_); refine gF rfl rfl rfl ?_; apply gw_d; exact w_load_box rfl rfl rfl .here rfl; refine gF rfl rfl rfl ?_; apply gw_d; exact w_load_box rfl rfl rfl (.there (.there (.there .here))) rfl; refine gC rfl rfl rfl rfl rfl ?_; apply gw_d; exact det_pick_t (v := .bool _) rfl rfl rfl rfl; refine gO ?_; refine gc_if_dec rfl (fun _ => ?_) (fun _ => ?_); refine gc_seq ?_; rotate_left; refine gc_skip ?_; refine gx_block ?_; refine gx_next ?_; refine gc_region ?_; apply gw_d; exact det_ar rfl rfl rfl rfl rfl (by omega); refine gM rfl rfl (by conv => (lhs; whnf)) ?_; refine gw_nil ?_; rotate_left; refine gU rfl ?_; refine gU rfl ?_; refine gU rfl ?_; refine gU rfl ?_; refine gU rfl ?_; apply gw_d; exact det_pick_f (v := .bool _) rfl rfl rfl rfl; refine gO ?_; refine gc_if_false rfl ?_; refine gc_skip ?_; refine gx_block ?_; refine gx_next ?_; refine gc_region ?_; apply gw_d; exact det_ar rfl rfl rfl rfl rfl (by omega); refine gM rfl rfl (by conv => (lhs; whnf)) ?_; refine gw_nil ?_; rotate_left)
        all_goals first | (exfalso; exact hm ⟨by assumption, by assumption⟩) | skip
        all_goals exact gx_round (j + 1) ⟨by omega, hJ'⟩ (by omega) (by repeat (first | exact Keeps.refl | refine Keeps.upd rfl ?_ | refine Keeps.sets rfl ?_ | refine Keeps.havoc rfl ?_)) ⟨rfl, trivial⟩ Sub.tail
    · obtain rfl : j = ps.length := by omega
      rw [List.take_length] at hJ
      have hE : trE n bs ps r = 6 := by unfold whoAt at hnE; rw [hnE, hJ]
      obtain ⟨hW, hB⟩ := trE_bad (n := n) (bs := bs) (ps := ps) (r := r) (by rw [hE]; decide)
      rw [hE, hW, hB]
      focus (refine gc_exit ?_; refine gx_then_exit ?_; refine gx_then_exit ?_; refine gx_block_exit ?_; refine gx_next ?_; refine gc_seq ?_; refine gc_region ?_; apply gw_d; exact w_buildP [] (cells := #[.int .i64 0, .int .i64 0, .int .i64 0, .int .i64 0, .int .i64 0, .int .i64 0]) (by kernel_rfl) rfl rfl rfl; refine gM rfl rfl (by conv => (lhs; whnf)) ?_; refine w_store_all rfl rfl rfl rfl rfl (.there .here) rfl ?_; refine gM rfl rfl (by conv => (lhs; whnf)) ?_; refine gO ?_; refine gc_ret ?_; refine gx_block_ret ?_; refine gx_then_ret ?_; refine gx_then_ret ?_; refine gx_block_ret ?_; refine gx_then_ret ?_)
      exact gx_ret3c (cs := #[.int .i64 0, .int .i64 0, .int .i64 0, .int .i64 0, .int .i64 0, .int .i64 0]) rfl rfl rfl rfl .here rfl (fun _ _ => rfl)
  · obtain rfl : k = bs.length := by omega
    rw [List.take_length] at hI
    have hE : trE n bs ps r = 6 := by unfold trE bunAt; rw [hI]
    obtain ⟨hW, hB⟩ := trE_bad (n := n) (bs := bs) (ps := ps) (r := r) (by rw [hE]; decide)
    rw [hE, hW, hB]
    focus (refine gc_exit ?_; refine gx_then_exit ?_; refine gx_then_exit ?_; refine gx_block_exit ?_; refine gx_next ?_; refine gc_seq ?_; refine gc_region ?_; apply gw_d; exact w_buildP [] (cells := #[.int .i64 0, .int .i64 0, .int .i64 0, .int .i64 0, .int .i64 0, .int .i64 0]) (by kernel_rfl) rfl rfl rfl; refine gM rfl rfl (by conv => (lhs; whnf)) ?_; refine w_store_all rfl rfl rfl rfl rfl .here rfl ?_; refine gM rfl rfl (by conv => (lhs; whnf)) ?_; refine gO ?_; refine gc_ret ?_)
    exact gx_ret3c (cs := #[.int .i64 0, .int .i64 0, .int .i64 0, .int .i64 0, .int .i64 0, .int .i64 0]) rfl rfl rfl rfl .here rfl (fun _ _ => rfl)

section
variable {w : World} {v0 v1 v2 v3 v4 v5 v6 vb vw vx : Value} {s : Sty} {bs : List Bun} {ws : List Wrk} {xs : List Scn}
end
end Go.Proofs.YtckhibfbdnoigaaGreatDoor

/- Contracts: returns.part, returns.Charges. -/
namespace Go.Proofs.YtckhibfbdnoigaaGreatDoor
open Go.RowKit
set_option maxRecDepth 100000
set_option maxHeartbeats 4000000

theorem part_ok (w : World) (hL : Lay w) (r le mach mins ply : Int) (nm : ByteArray) (Aa Au : Option Addr) (na ca nu cu : Nat) (b : Bun) (ht : tarE r le = 0) (hM : 0 ≤ mins ∧ mins ≤ 10000) (hb : 1 ≤ b.upto - b.fr ∧ b.upto - b.fr ≤ 40) (hp : b.fr ≤ ply ∧ ply < b.upto) :
    Ok Tryz.prog 28 [.agg #[.int .i64 r, .int .i64 le], .agg #[.string nm, .int .i64 mach, .int .i64 mins, .slice Aa na ca, .slice Au nu cu], .agg (bunC b), .int .i64 ply].toArray w fun y _ => y = .tuple #[.int .i64 ((shL (amtV r le mins (b.upto - b.fr)) (b.upto - b.fr).toNat).getD (ply - b.fr).toNat 0), .int .i64 0] := by
  obtain ⟨n, hn⟩ : ∃ n : Nat, b.upto - b.fr = (n : Int) := ⟨(b.upto - b.fr).toNat, by omega⟩
  obtain ⟨k, hk⟩ : ∃ k : Nat, ply - b.fr = (k : Int) := ⟨(ply - b.fr).toNat, by omega⟩
  have hkn : k < n := by omega
  have hamE : amtE r le mins (n : Int) = 0 := by
    unfold amtE
    rw [if_neg (by rw [ht]; decide), if_neg (by omega)]
  have har := amtV_range r le mins (n : Int)
  have hAm : ∀ (L : List Res) (w' : World), St w L w' → Ok Tryz.prog 11 [.agg #[.int .i64 r, .int .i64 le], .int .i64 mins, .int .i64 (b.upto - b.fr)].toArray w' fun y _ => y = .tuple #[.int .i64 (amtV r le mins (n : Int)), .int .i64 0] := fun L w' s => by
    have := wAmount_ok w' r le mins (n : Int) (hL.later s)
    rw [hamE, ← hn] at this
    rw [← hn]
    exact this
  have hsh : shE (amtV r le mins (n : Int)) n = 0 := by
    unfold shE
    rw [if_neg]
    rw [money_iff.2 (by omega)]
    simp
    omega
  have hS : ∀ (L : List Res) (w' : World), St w L w' → OkM Tryz.prog 30 [.int .i64 (amtV r le mins (n : Int)), .int .i64 (b.upto - b.fr)].toArray w' (fun b : Nat => .tuple #[.slice (some ⟨b, 0, none⟩) n n, .int .i64 0]) (fun b => [Box b 3 ((shL (amtV r le mins (n : Int)) n).map (Value.int .i64)).toArray]) := fun L w' s => by
    rw [hn]
    exact wShare_good w' _ n hsh
  have hlen := shL_len (amtV r le mins (n : Int)) n
  have hrow : ((shL (amtV r le mins (n : Int)) n).map (Value.int .i64)).toArray[k * 1]? = some (.int .i64 ((shL (amtV r le mins (n : Int)) n).getD k 0)) := row_get (Value.int .i64) 0 (by omega)
  have e1 : (b.upto - b.fr).toNat = n := by omega
  have e2 : (ply - b.fr).toNat = k := by omega
  rw [e1, e2, show amtV r le mins (b.upto - b.fr) = amtV r le mins (n : Int) from by rw [hn]]
  unfold bunC
  refine ok_enter Tryz.func28 rfl Tryz.ntmps28 rfl ?_
  focus (refine gc_seq ?_; refine gc_region ?_; refine gw_boxd (v := .agg _) rfl rfl (fun _ => ?_); refine gw_boxd (v := .agg _) rfl rfl (fun _ => ?_); refine gw_boxd (v := .agg _) rfl rfl (fun _ => ?_); refine gM rfl rfl (by conv => (lhs; whnf)) ?_; refine gM rfl rfl (by conv => (lhs; whnf)) ?_; refine gN ?_; refine gF rfl rfl rfl ?_; apply gw_d; exact w_load_box rfl rfl rfl .here rfl; refine gF rfl rfl rfl ?_; apply gw_d; exact w_load_box rfl rfl rfl .here rfl; apply gw_d; exact det_ar rfl rfl rfl rfl rfl (by omega); refine gM rfl rfl (by conv => (lhs; whnf)) ?_; refine gN ?_; apply gw_d; exact w_load_boxN rfl rfl rfl (.there (.there .here)) rfl; refine gF rfl rfl rfl ?_; apply gw_d; exact w_load_box rfl rfl rfl (.there .here) rfl; refine gM rfl rfl (by conv => (lhs; whnf)) ?_; apply gw_d; exact w_call rfl rfl (hAm _) rfl; refine gM rfl rfl (by conv => (lhs; whnf)) ?_; apply gw_d; exact det_extract rfl rfl rfl (by conv => (lhs; whnf)); apply gw_d; exact det_extract rfl rfl rfl (by conv => (lhs; whnf)); refine gM rfl rfl (by conv => (lhs; whnf)) ?_; refine gM rfl rfl (by conv => (lhs; whnf)) ?_; refine gO ?_; refine gc_seq ?_; refine gc_seq ?_; refine gc_region ?_; refine gM rfl rfl (by conv => (lhs; whnf)) ?_; refine gC rfl rfl rfl rfl rfl ?_; refine gO ?_)
  refine gc_if_dec rfl (fun h => absurd rfl h) (fun _ => ?_)
  focus (refine gc_skip ?_; refine gx_next ?_; refine gc_seq ?_; refine gc_region ?_; refine gM rfl rfl (by conv => (lhs; whnf)) ?_; refine gM rfl rfl (by conv => (lhs; whnf)) ?_)
  refine gw_callm rfl (hS _) rfl (fun g => ?_)
  focus (refine gM rfl rfl (by conv => (lhs; whnf)) ?_; apply gw_d; exact det_extract rfl rfl rfl (by conv => (lhs; whnf)); apply gw_d; exact det_extract rfl rfl rfl (by conv => (lhs; whnf)); refine gM rfl rfl (by conv => (lhs; whnf)) ?_; refine gM rfl rfl (by conv => (lhs; whnf)) ?_; refine gO ?_; refine gc_seq ?_; refine gc_seq ?_; refine gc_region ?_; refine gM rfl rfl (by conv => (lhs; whnf)) ?_; refine gC rfl rfl rfl rfl rfl ?_; refine gO ?_)
  refine gc_if_dec rfl (fun h => absurd rfl h) (fun _ => ?_)
  focus (refine gc_skip ?_; refine gx_next ?_; refine gc_seq ?_; refine gc_region ?_; refine gM rfl rfl (by conv => (lhs; whnf)) ?_; refine gM rfl rfl (by conv => (lhs; whnf)) ?_; refine gF rfl rfl rfl ?_; apply gw_d; exact w_load_box rfl rfl rfl (.there .here) rfl; apply gw_d; exact det_ar rfl rfl rfl rfl rfl (by omega); apply gw_d; exact w_index (m := k) rfl rfl rfl rfl hk hkn; apply gw_d; exact w_load_row rfl rfl rfl .here hrow; refine gM rfl rfl (by conv => (lhs; whnf)) ?_; refine gM rfl rfl (by conv => (lhs; whnf)) ?_; refine gO ?_; refine gc_ret ?_)
  refine gx_ret2 (u := .int _ _) (v := .int _ _) rfl rfl rfl (fun _ _ => ?_)
  rfl

def chgErr (r le e : Int) (bs : List Bun) (ws : List Wrk) (nx nl : Nat) : Int := if nl > 300 then 5 else if ¬ judgeAllE e bs ws nx = 0 then judgeAllE e bs ws nx else tarE r le
theorem chgErr_zero {r le e : Int} {bs : List Bun} {ws : List Wrk} {nx nl : Nat} (h : chgErr r le e bs ws nx nl = 0) : nl ≤ 300 ∧ judgeAllE e bs ws nx = 0 ∧ tarE r le = 0 := by
  unfold chgErr at h
  split at h
  · cases h
  · rename_i h1
    split at h
    · rename_i h2; exact absurd h h2
    · rename_i h2; exact ⟨by omega, Classical.not_not.1 h2, h⟩
theorem chgErr_mk {r le e : Int} {bs : List Bun} {ws : List Wrk} {nx nl : Nat} (h1 : nl ≤ 300) (h2 : judgeAllE e bs ws nx = 0) (h3 : tarE r le = 0) : chgErr r le e bs ws nx nl = 0 := by
  unfold chgErr
  rw [if_neg (by omega), if_neg (by rw [h2]; decide)]
  exact h3
section
variable {w : World} {v0 v1 v2 v3 v4 v5 v6 vb vw vx vl : Value} {r le : Int} {s : Sty} {bs : List Bun} {ws : List Wrk} {xs : List Scn} {l : List Ret}
theorem Charges_ok (hL : Lay w) (hs : StyV w w.heap.size (.agg #[v0, v1, v2, v3, v4, v5, v6]) s) (hb : Sl rBun w w.heap.size vb bs) (hw : Sl rWrk w w.heap.size vw ws) (hx : Sl rScn w w.heap.size vx xs) (hl : Sl rRet w w.heap.size vl l) (he : chgErr r le (opCheckE s plE) bs ws xs.length l.length = 0) :
    OkM Tryz.prog 10 [.agg #[v0, v1, v2, v3, v4, v5, v6], vb, vw, vx, .agg #[.int .i64 r, .int .i64 le], vl].toArray w
      (fun x : (Option Addr × Nat) × Nat => .tuple #[.slice x.1.1 (chgL r le s.ops bs (paidL s.ops ws (ticks bs) xs) l).length x.1.2, .slice (some ⟨x.2, 0, none⟩) l.length l.length, .int .i64 0])
      (fun x => [Own x.1.1 (chgL r le s.ops bs (paidL s.ops ws (ticks bs) xs) l).length x.1.2 57 5 ((chgL r le s.ops bs (paidL s.ops ws (ticks bs) xs) l).flatMap encC), Box x.2 3 ((outsR (okR s.ops.length bs (paidL s.ops ws (ticks bs) xs)) [] l).map (Value.int .i64)).toArray]) := by
  obtain ⟨h300, h2, ht⟩ := chgErr_zero he
  obtain ⟨hOk, hx300⟩ := judge_zero h2
  obtain ⟨hSm, hMin⟩ := scan_ops hOk
  have hPl := hOk.bundles
  have h6 := sty_ops hs
  obtain ⟨Al, cl, rfl, hlc, hlm⟩ := len_small h6
  obtain ⟨Ab, cb, rfl, hbc, hbm⟩ := len_small hb
  obtain ⟨Ar, cr, rfl, hrc, hrm, hrcell⟩ := hl.ret
  have hC : ∀ (L : List Res) (w' : World), St w L w' → Ok Tryz.prog 9 [.agg #[.int .i64 r, .int .i64 le]].toArray w' fun x _ => x = .int .i64 0 := fun L w' s => by
    have := wCheck_ok w' r le (hL.later s)
    rw [ht] at this
    exact this
  have hD : ∀ (L : List Res) (w' : World), St w L w' → OkM Tryz.prog 8 [.agg #[v0, v1, v2, v3, v4, v5, .slice Al s.ops.length cl], .slice Ab bs.length cb, vw, vx].toArray w' (fun x : Option Addr × Nat => .tuple #[.slice x.1 (paidL s.ops ws (ticks bs) xs).length x.2, .int .i64 0]) (fun x => [Own x.1 (paidL s.ops ws (ticks bs) xs).length x.2 51 4 ((paidL s.ops ws (ticks bs) xs).flatMap encX)]) := fun L w' s' => cPaid_ok (StyV.later s' hs) (hb.later s') (hw.later s') (hx.later s') h2
  have hT : ∀ (L L' : List Res) (w' : World) (A : Option Addr) (k : Nat) (x : Ret), Pick L (Own A (paidL s.ops ws (ticks bs) xs).length k 51 4 ((paidL s.ops ws (ticks bs) xs).flatMap encX)) L' → St w L w' → Ok Tryz.prog 27 [.agg #[.slice Al s.ops.length cl, .slice Ab bs.length cb, .slice A (paidL s.ops ws (ticks bs) xs).length k], .agg #[.int .i64 x.tick, .int .i64 x.ply, .int .i64 x.op]].toArray w' fun y _ => y = .tuple #[.int .i64 (trW s.ops.length bs (paidL s.ops ws (ticks bs) xs) x), .agg (bunC (trB s.ops.length bs (paidL s.ops ws (ticks bs) xs) x)), .int .i64 (trE s.ops.length bs (paidL s.ops ws (ticks bs) xs) x)] := fun L L' w' A k x hp s' =>
    trace_ok w' Al s.ops.length cl _ _ bs (paidL s.ops ws (ticks bs) xs) x (hb.later s') (Sl.own (R := rScn) (enc := encX) s' hp rfl (fun q hq => paid_rep hx (paid_mem hq))) hlm
  generalize paidL s.ops ws (ticks bs) xs = ps at hD hT ⊢
  unfold OkM
  refine ok_enter Tryz.func10 rfl Tryz.ntmps10 rfl ?_
  focus (refine gc_seq ?_; refine gc_region ?_; refine gw_boxd (v := .agg _) rfl rfl (fun _ => ?_); refine gw_boxd (v := .agg _) rfl rfl (fun _ => ?_); refine gM rfl rfl (by conv => (lhs; whnf)) ?_; refine gM rfl rfl (by conv => (lhs; whnf)) ?_; refine gM rfl rfl (by conv => (lhs; whnf)) ?_; refine gO ?_; refine gc_seq ?_; refine gc_seq ?_; refine gc_region ?_; refine gM rfl rfl (by conv => (lhs; whnf)) ?_; refine gL rfl rfl rfl ?_; refine gC rfl rfl rfl rfl rfl ?_; refine gO ?_)
  rename_i bS bT
  refine gc_if_dec rfl (fun h => by omega) (fun _ => ?_)
  focus (refine gc_skip ?_; refine gx_next ?_; refine gc_seq ?_; refine gc_region ?_; apply gw_d; exact w_load_boxN rfl rfl rfl (.there .here) rfl; refine gM rfl rfl (by conv => (lhs; whnf)) ?_; refine gM rfl rfl (by conv => (lhs; whnf)) ?_; refine gM rfl rfl (by conv => (lhs; whnf)) ?_)
  refine gw_callm rfl (hD _) rfl (fun x => ?_)
  obtain ⟨A, ca⟩ := x
  focus (refine gM rfl rfl (by conv => (lhs; whnf)) ?_; apply gw_d; exact det_extract rfl rfl rfl (by conv => (lhs; whnf)); apply gw_d; exact det_extract rfl rfl rfl (by conv => (lhs; whnf)); refine gM rfl rfl (by conv => (lhs; whnf)) ?_; refine gM rfl rfl (by conv => (lhs; whnf)) ?_; refine gO ?_; refine gc_seq ?_; refine gc_seq ?_; refine gc_region ?_; refine gM rfl rfl (by conv => (lhs; whnf)) ?_; refine gC rfl rfl rfl rfl rfl ?_; refine gO ?_)
  refine gc_if_dec rfl (fun h => absurd rfl h) (fun _ => ?_)
  focus (refine gc_skip ?_; refine gx_next ?_; refine gc_seq ?_; refine gc_seq ?_; refine gc_region ?_; apply gw_d; exact w_load_boxN rfl rfl rfl (.there .here) rfl; apply gw_d; exact w_call rfl rfl (hC _) rfl; refine gM rfl rfl (by conv => (lhs; whnf)) ?_; refine gN ?_; refine gM rfl rfl (by conv => (lhs; whnf)) ?_; refine gC rfl rfl rfl rfl rfl ?_; refine gO ?_)
  refine gc_if_dec rfl (fun h => absurd rfl h) (fun _ => ?_)
  focus (refine gc_skip ?_; refine gx_next ?_; refine gc_seq ?_; refine gc_region ?_; refine gF rfl rfl rfl ?_; apply gw_d; exact w_load_box rfl rfl rfl (.there (.there .here)) rfl; refine gM rfl rfl (by conv => (lhs; whnf)) ?_; refine gM rfl rfl (by conv => (lhs; whnf)) ?_; apply gw_d; exact w_buildP [(0, .slice Al s.ops.length cl), (1, .slice Ab bs.length cb), (2, .slice A ps.length ca)] (cells := #[.slice Al s.ops.length cl, .slice Ab bs.length cb, .slice A ps.length ca]) (by kernel_rfl) rfl rfl rfl; refine w_alloc rfl (fun _ => ?_); refine w_store_all rfl rfl rfl rfl rfl .here rfl ?_; refine gN ?_)
  rename_i bH
  refine gw_makeMap (kInts retF) rfl (fun bm => ?_)
  focus (refine gM rfl rfl (by conv => (lhs; whnf)) ?_; refine gN ?_; refine gM rfl rfl (by conv => (lhs; whnf)) ?_; refine gN ?_; refine gM rfl rfl (by conv => (lhs; whnf)) ?_; refine gL rfl rfl rfl ?_)
  refine gw_make1 (n := l.length) rfl rfl rfl rfl rfl (by omega) (by omega) rfl (fun bo => ?_)
  rw [show Array.replicate l.length ((Value.int .i64 0).cells.getD 0 undef) = ((outRow (outsR (okR s.ops.length bs ps) [] (l.take 0)) l.length).map (Value.int .i64)).toArray from by rw [List.take_zero]; show _ = ((outRow [] l.length).map (Value.int .i64)).toArray; rw [outRow_nil]; exact row_make (Value.int .i64) l.length 0]
  focus (refine gM rfl rfl (by conv => (lhs; whnf)) ?_; refine gO ?_; refine gc_seq ?_; refine gc_seq ?_; refine gc_region ?_; refine gM rfl rfl (by conv => (lhs; whnf)) ?_; refine gL rfl rfl rfl ?_; refine gM rfl rfl (by conv => (lhs; whnf)) ?_; refine gO ?_; refine gc_block ?_)
  refine gc_own0 57 5 ?_
  refine gc_loop (σ := Nat × Option Addr × Nat) [59, 60, 61, 62, 23, 22, 64, 65, 66, 63, 67, 68, 69, 25, 24, 26, 70, 71, 72, 73, 74, 75, 76, 77, 78, 79, 80, 82, 83, 84, 85, 86, 87, 88, 89, 90, 91, 92, 81, 93, 94, 27, 95, 96, 97, 12, 13, 14, 98, 99, 100, 101, 102, 103, 104, 105, 106, 107, 108, 109, 110, 111, 112, 113, 114, 20, 115, 58] (fun q => [(58, .int .i64 q.1), (20, .slice q.2.1 (doneL (okR s.ops.length bs ps) (l.take q.1)).length q.2.2)])
    (fun q => [Own q.2.1 (doneL (okR s.ops.length bs ps) (l.take q.1)).length q.2.2 57 5 (((doneL (okR s.ops.length bs ps) (l.take q.1)).map (chgOf r le s.ops bs ps)).flatMap encC), Box bo 3 ((outRow (outsR (okR s.ops.length bs ps) [] (l.take q.1)) l.length).map (Value.int .i64)).toArray, MapR bm (kInts retF) (setM (doneL (okR s.ops.length bs ps) (l.take q.1))), Box bH 78 #[.slice Al s.ops.length cl, .slice Ab bs.length cb, .slice A ps.length ca], Own A ps.length ca 51 4 (ps.flatMap encX), Box bT 36 #[.int .i64 r, .int .i64 le], Box bS 29 #[v0, v1, v2, v3, v4, v5, .slice Al s.ops.length cl]])
    (fun q => q.1 ≤ l.length) (fun q => l.length - q.1) (0, none, 0) (Nat.zero_le _) ⟨rfl, rfl, trivial⟩ (.cons .here (.cons .here (.cons .here (.cons .here (.cons .here (.cons .here (.cons .here .nil))))))) ?_
  rintro ⟨k, A1, c1⟩ base hk
  dsimp only at hk ⊢
  focus (refine gc_seq ?_; refine gc_region ?_; refine gC rfl rfl rfl rfl rfl ?_; refine gO ?_; refine gc_seq ?_)
  refine gc_if_dec rfl (fun h => ?_) (fun h => ?_)
  · have hlt : k < l.length := by omega
    obtain ⟨ad, rfl, hbk, hce, _⟩ := hrcell k hlt
    have hts : l.take (k + 1) = l.take k ++ [l[k]] := List.take_succ_eq_append_getElem hlt
    have hds := doneL_snoc (ok := okR s.ops.length bs ps) (l.take k) l[k]
    have hos := outsR_snoc (ok := okR s.ops.length bs ps) l[k] (l.take k) []
    have hol := outsR_len (ok := okR s.ops.length bs ps) (l.take k) []
    have hdl := done_len (ok := okR s.ops.length bs ps) (l.take k)
    rw [List.length_take, Nat.min_eq_left hk] at hol hdl
    rw [← hts] at hds hos
    change outsR _ [] _ = _ ++ [outR _ (doneL _ _) _] at hos
    have hset := fun v => outRow_set (l := outsR (okR s.ops.length bs ps) [] (l.take k)) (n := l.length) (by omega) v
    have hrl := outRow_len (l := outsR (okR s.ops.length bs ps) [] (l.take k)) (n := l.length) (by omega)
    rw [hol] at hset
    generalize hx0 : l[k] = x at *
    generalize doneL (okR s.ops.length bs ps) (l.take k) = D at *
    generalize outsR (okR s.ops.length bs ps) [] (l.take k) = O at *
    focus (refine gc_skip ?_; refine gx_next ?_; refine gc_seq ?_; refine gc_block ?_; refine gc_seq ?_; refine gc_region ?_; refine gM rfl rfl (by conv => (lhs; whnf)) ?_; apply gw_d; exact w_index rfl rfl rfl rfl (by with_reducible exact rfl) (by omega); apply gw_d; exact w_load_elem rfl rfl rfl (by assumption) (by assumption) (by rfl); refine w_alloc rfl (fun _ => ?_); refine gM rfl rfl (by conv => (lhs; whnf)) ?_; refine w_store_all rfl rfl rfl rfl rfl .here rfl ?_; refine gN ?_; apply gw_d; exact w_load_boxN rfl rfl rfl (.there (.there (.there (.there .here)))) rfl; apply gw_d; exact w_load_boxN rfl rfl rfl .here rfl; apply gw_d; exact w_call rfl rfl (fun w' s' => hT _ _ w' A ca x (.there (.there (.there (.there (.there .here))))) s') rfl; refine gM rfl rfl (by conv => (lhs; whnf)) ?_; apply gw_d; exact det_extract rfl rfl rfl (by conv => (lhs; whnf)); apply gw_d; exact det_extract rfl rfl rfl (by conv => (lhs; whnf)); apply gw_d; exact det_extract rfl rfl rfl (by conv => (lhs; whnf)); refine w_alloc rfl (fun _ => ?_); refine gM rfl rfl (by conv => (lhs; whnf)) ?_; refine w_store_all rfl rfl rfl rfl rfl .here rfl ?_; refine gM rfl rfl (by conv => (lhs; whnf)) ?_; refine gO ?_; refine gc_seq ?_; refine gc_seq ?_; refine gc_region ?_; refine gM rfl rfl (by conv => (lhs; whnf)) ?_; refine gC rfl rfl rfl rfl rfl ?_; refine gO ?_)
    by_cases hE : trE s.ops.length bs ps x = 0
    · have hok : okR s.ops.length bs ps x = true := decide_eq_true hE
      obtain ⟨b, y, hTr⟩ := trE_zero hE
      refine gc_if_dec rfl (fun h => absurd hE h) (fun _ => ?_)
      by_cases hD2 : x ∈ D
      · have hhas : hasB D x = true := hasB_iff.2 hD2
        have hn : nextD (okR s.ops.length bs ps) D x = D := by unfold nextD; rw [if_neg (fun hc => hc.2 hD2)]
        have ho : outR (okR s.ops.length bs ps) D x = 2 := by unfold outR; rw [if_neg (by rw [hok]; decide), if_pos hD2]
        rw [hn] at hds
        rw [ho] at hos
        focus (refine gc_skip ?_; refine gx_next ?_; refine gc_seq ?_; refine gc_seq ?_; refine gc_region ?_; refine gM rfl rfl (by conv => (lhs; whnf)) ?_; apply gw_d; exact w_load_boxN rfl rfl rfl (.there .here) rfl; apply gw_d; exact det_eq (c' := .bool true) (w_lookup (k := x) (structLaw (n := 3) (f := retF) (fun _ => rfl) retF_inj) rfl rfl rfl rfl (.there (.there (.there (.there .here))))) (by rw [setM_has, hhas]); refine gO ?_)
        refine gc_if_true rfl ?_
        focus (refine gc_seq ?_; refine gc_region ?_; refine gM rfl rfl (by conv => (lhs; whnf)) ?_; refine gM rfl rfl (by conv => (lhs; whnf)) ?_; apply gw_d; exact w_index (m := k) rfl rfl rfl rfl rfl hlt)
        refine w_store_row (n := 1) (v := .int .i64 2) rfl rfl rfl rfl rfl (.there (.there (.there .here))) (by simp; omega) (row_set (Value.int .i64) (by omega) 2) ?_
        focus (refine gO ?_; refine gc_exit ?_; refine gx_then_exit ?_; refine gx_block_exit ?_; refine gx_next ?_; refine gc_region ?_; apply gw_d; exact det_ar rfl rfl rfl rfl rfl (by omega); refine gM rfl rfl (by conv => (lhs; whnf)) ?_; refine gw_nil ?_)
        refine gx_round (k + 1, A1, c1) hlt (by dsimp only; omega) (by repeat (first | exact Keeps.refl | refine Keeps.upd rfl ?_ | refine Keeps.sets rfl ?_ | refine Keeps.havoc rfl ?_)) ⟨rfl, by dsimp only; rw [hds]; rfl, trivial⟩ ?_
        dsimp only
        rw [hds, hos, hset]
        exact .cons (.there (.there (.there .here))) (.cons .here (.cons (.there (.there .here)) (.cons (.there (.there .here)) (.cons (.there (.there .here)) (.cons (.there (.there .here)) (.cons (.there (.there .here)) .nil))))))
      · have hhas : hasB D x = false := by
          cases hb : hasB D x with
          | false => rfl
          | true => exact absurd (hasB_iff.1 hb) hD2
        have hn : nextD (okR s.ops.length bs ps) D x = D ++ [x] := by unfold nextD; rw [if_pos ⟨hok, hD2⟩]
        have ho : outR (okR s.ops.length bs ps) D x = 1 := by unfold outR; rw [if_neg (by rw [hok]; decide), if_neg hD2]
        rw [hn] at hds
        rw [ho] at hos
        obtain ⟨o, hop⟩ : ∃ o : Nat, x.op = (o : Int) := ⟨x.op.toNat, by have := hTr.op; omega⟩
        have hol2 : o < s.ops.length := by have := hTr.op; omega
        obtain ⟨ad3, _, hv, _, _, hb3, hocell⟩ := h6.at' 5 rfl (by omega)
        injection hv with e1 e2 e3
        subst e1 e3
        obtain ⟨cs, hco, Aa, ca', Au, cu, rfl, hnm, q1, q2⟩ := hocell o hol2
        have hmin : minAt s.ops x.op = s.ops[o].minutes := by
          unfold minAt
          rw [hop, Int.toNat_natCast, List.getElem?_eq_getElem hol2]
          rfl
        have hsh : (shL (amtV r le s.ops[o].minutes (b.upto - b.fr)) (b.upto - b.fr).toNat).getD (x.ply - b.fr).toNat 0 = shareOf r le s.ops bs x := by
          unfold shareOf amtF frAt
          rw [cnt_bun hTr.bun, hTr.bun, hmin]
          rfl
        have hbb := hTr.b
        have hww := hTr.w
        rw [hbb]
        have hP : ∀ (L : List Res) (w' : World), St w L w' → Ok Tryz.prog 28 [.agg #[.int .i64 r, .int .i64 le], .agg #[.string s.ops[o].name, .int .i64 s.ops[o].machine, .int .i64 s.ops[o].minutes, .slice Aa s.ops[o].after.length ca', .slice Au s.ops[o].uses.length cu], .agg (bunC b), .int .i64 x.ply].toArray w' fun y _ => y = .tuple #[.int .i64 (shareOf r le s.ops bs x), .int .i64 0] := fun L w' s' => by
          have := part_ok w' (hL.later s') r le s.ops[o].machine s.ops[o].minutes x.ply s.ops[o].name Aa Au s.ops[o].after.length ca' s.ops[o].uses.length cu b ht (hMin o hol2) (hPl.h b (bunAt_mem hTr.bun).1) hTr.ply
          rw [hsh] at this
          exact this
        focus (refine gc_skip ?_; refine gx_next ?_; refine gc_seq ?_; refine gc_seq ?_; refine gc_region ?_; refine gM rfl rfl (by conv => (lhs; whnf)) ?_; apply gw_d; exact w_load_boxN rfl rfl rfl (.there .here) rfl; apply gw_d; exact det_eq (c' := .bool false) (w_lookup (k := x) (structLaw (n := 3) (f := retF) (fun _ => rfl) retF_inj) rfl rfl rfl rfl (.there (.there (.there (.there .here))))) (by rw [setM_has, hhas]); refine gO ?_)
        refine gc_if_false rfl ?_
        focus (refine gc_skip ?_; refine gx_next ?_; refine gc_seq ?_)
        refine gc_draw 15 (by kernel_rfl) (by kernel_rfl) ?_
        focus (apply gd_d; exact w_load_boxN rfl rfl rfl (.there (.there (.there (.there (.there (.there (.there .here))))))) rfl; apply gd_d; exact w_field rfl rfl rfl; apply gd_d; exact w_load_box rfl rfl rfl (.there (.there (.there (.there (.there (.there (.there (.there .here)))))))) rfl; apply gd_d; exact w_field rfl rfl rfl; apply gd_d; exact w_load_box rfl rfl rfl (.there .here) rfl; apply gd_d; exact w_index (m := o) rfl rfl rfl rfl hop hol2; apply gd_d; exact w_load_elem rfl rfl rfl (by assumption) (by assumption) (by rfl); apply gd_d; exact w_load_boxN rfl rfl rfl .here rfl; apply gd_d; exact w_field rfl rfl rfl; apply gd_d; exact w_load_box rfl rfl rfl (.there .here) rfl; apply gd_d; exact w_call rfl rfl (hP _) rfl; apply gd_d; exact det_m rfl rfl (by conv => (lhs; whnf)); apply gd_d; exact det_extract rfl rfl rfl (by conv => (lhs; whnf)); apply gd_d; exact det_extract rfl rfl rfl (by conv => (lhs; whnf)); apply gd_d; exact det_m rfl rfl (by conv => (lhs; whnf)); refine gd_nil ?_; refine gM rfl rfl (by conv => (lhs; whnf)) ?_; refine gO ?_; refine gc_seq ?_; refine gc_seq ?_; refine gc_region ?_; refine gM rfl rfl (by conv => (lhs; whnf)) ?_; refine gC rfl rfl rfl rfl rfl ?_; refine gO ?_)
        refine gc_if_dec rfl (fun h => absurd rfl h) (fun _ => ?_)
        focus (refine gc_skip ?_; refine gx_next ?_; refine gc_seq ?_; refine gc_region ?_; refine gM rfl rfl (by conv => (lhs; whnf)) ?_; refine gM rfl rfl (by conv => (lhs; whnf)) ?_; apply gw_d; exact w_index (m := k) rfl rfl rfl rfl rfl hlt)
        refine w_store_row (n := 1) (v := .int .i64 1) rfl rfl rfl rfl rfl (.there (.there (.there .here))) (by simp; omega) (row_set (Value.int .i64) (by omega) 1) ?_
        focus (refine gN ?_; refine gM rfl rfl (by conv => (lhs; whnf)) ?_; apply gw_d; exact w_load_boxN rfl rfl rfl (.there (.there .here)) rfl)
        refine gw_mapSet (k := x) (v := .bool true) (structLaw (n := 3) (f := retF) (fun _ => rfl) retF_inj) rfl rfl rfl rfl (.there (.there (.there (.there .here)))) ?_
        rw [← setM_snoc]
        focus (refine gO ?_; refine gc_region ?_; refine gM rfl rfl (by conv => (lhs; whnf)) ?_; refine gM rfl rfl (by conv => (lhs; whnf)) ?_; refine gF rfl rfl rfl ?_; apply gw_d; exact w_load_box rfl rfl rfl (.there (.there (.there .here))) rfl; refine gF rfl rfl rfl ?_; apply gw_d; exact w_load_box rfl rfl rfl (.there (.there (.there .here))) rfl; refine gF rfl rfl rfl ?_; apply gw_d; exact w_load_box rfl rfl rfl (.there (.there (.there .here))) rfl; refine gM rfl rfl (by conv => (lhs; whnf)) ?_; apply gw_d; exact w_buildP [(0, .int .i64 (trW s.ops.length bs ps x)), (1, .int .i64 x.tick), (2, .int .i64 x.ply), (3, .int .i64 x.op), (4, .int .i64 (shareOf r le s.ops bs x))] (cells := #[.int .i64 (trW s.ops.length bs ps x), .int .i64 x.tick, .int .i64 x.ply, .int .i64 x.op, .int .i64 (shareOf r le s.ops bs x)]) (by kernel_rfl) rfl rfl rfl)
        refine gw_bslice1 (v := .agg #[.int .i64 (trW s.ops.length bs ps x), .int .i64 x.tick, .int .i64 x.ply, .int .i64 x.op, .int .i64 (shareOf r le s.ops bs x)]) rfl rfl rfl rfl rfl (fun bb => ?_)
        refine gw_append (news := encC (chgOf r le s.ops bs ps x)) rfl rfl rfl (.there (.there (.there (.there (.there .here))))) rfl (fun w' s _ => ?_) (fun u hu => ?_) (by unfold maxLen; omega) (by omega) (by decide) rfl (fun A3 c3 => ?_)
        · refine ⟨⟨bb, 0, none⟩, rfl, fun i u hu => ?_⟩
          rw [add_zero]
          refine (Box.cell s.head i).trans ?_
          change (#[Value.int .i64 (trW _ bs ps x), .int .i64 x.tick, .int .i64 x.ply, .int .i64 x.op, .int .i64 (shareOf r le _ bs x)] : Array Value)[i]? = some u
          rw [List.getElem?_toArray]
          exact hu
        · unfold encC at hu
          simp only [List.mem_cons, List.not_mem_nil, or_false] at hu
          rcases hu with rfl | rfl | rfl | rfl | rfl <;> rfl
        · focus (refine gM rfl rfl (by conv => (lhs; whnf)) ?_; refine gw_nil ?_; refine gx_block ?_; refine gx_next ?_; refine gc_region ?_; apply gw_d; exact det_ar rfl rfl rfl rfl rfl (by omega); refine gM rfl rfl (by conv => (lhs; whnf)) ?_; refine gw_nil ?_)
          refine gx_round (k + 1, A3, c3) hlt (by dsimp only; omega) (by repeat (first | exact Keeps.refl | refine Keeps.upd rfl ?_ | refine Keeps.sets rfl ?_ | refine Keeps.havoc rfl ?_)) ⟨rfl, by dsimp only; rw [hds, List.length_append]; rfl, trivial⟩ ?_
          dsimp only
          rw [hds, hos, hset, List.length_append, List.map_append, List.flatMap_append]
          have e5 : (([x].map (chgOf r le s.ops bs ps)).flatMap encC) = encC (chgOf r le s.ops bs ps x) := by simp
          rw [e5]
          exact .cons .here (.cons (.there (.there .here)) (.cons (.there .here) (.cons (.there (.there (.there .here))) (.cons (.there (.there (.there .here))) (.cons (.there (.there (.there .here))) (.cons (.there (.there (.there .here))) .nil))))))
    · have hok : okR s.ops.length bs ps x = false := decide_eq_false hE
      have hn : nextD (okR s.ops.length bs ps) D x = D := by unfold nextD; rw [if_neg (fun hc => by rw [hok] at hc; cases hc.1)]
      have ho : outR (okR s.ops.length bs ps) D x = 3 := by unfold outR; rw [if_pos hok]
      rw [hn] at hds
      rw [ho] at hos
      refine gc_if_dec rfl (fun _ => ?_) (fun h => absurd hE h)
      focus (refine gc_seq ?_; refine gc_region ?_; refine gM rfl rfl (by conv => (lhs; whnf)) ?_; refine gM rfl rfl (by conv => (lhs; whnf)) ?_; apply gw_d; exact w_index (m := k) rfl rfl rfl rfl rfl hlt)
      refine w_store_row (n := 1) (v := .int .i64 3) rfl rfl rfl rfl rfl (.there (.there (.there .here))) (by simp; omega) (row_set (Value.int .i64) (by omega) 3) ?_
      focus (refine gO ?_; refine gc_exit ?_; refine gx_then_exit ?_; refine gx_block_exit ?_; refine gx_next ?_; refine gc_region ?_; apply gw_d; exact det_ar rfl rfl rfl rfl rfl (by omega); refine gM rfl rfl (by conv => (lhs; whnf)) ?_; refine gw_nil ?_)
      refine gx_round (k + 1, A1, c1) hlt (by dsimp only; omega) (by repeat (first | exact Keeps.refl | refine Keeps.upd rfl ?_ | refine Keeps.sets rfl ?_ | refine Keeps.havoc rfl ?_)) ⟨rfl, by dsimp only; rw [hds]; rfl, trivial⟩ ?_
      dsimp only
      rw [hds, hos, hset]
      exact .cons (.there (.there (.there .here))) (.cons .here (.cons (.there (.there .here)) (.cons (.there (.there .here)) (.cons (.there (.there .here)) (.cons (.there (.there .here)) (.cons (.there (.there .here)) .nil))))))
  · obtain rfl : k = l.length := by omega
    have hfull : outRow (outsR (okR s.ops.length bs ps) [] l) l.length = outsR (okR s.ops.length bs ps) [] l := by
      have := outsR_len (ok := okR s.ops.length bs ps) l []
      rw [← this]
      exact outRow_full
    rw [List.take_length, hfull]
    have hcl : (chgL r le s.ops bs ps l).length = (doneL (okR s.ops.length bs ps) l).length := by unfold chgL; rw [List.length_map]
    focus (refine gc_exit ?_; refine gx_then_exit ?_; refine gx_then_exit ?_; refine gx_block_exit ?_; refine gx_next ?_; refine gc_seq ?_; refine gc_region ?_; refine gM rfl rfl (by conv => (lhs; whnf)) ?_; refine gM rfl rfl (by conv => (lhs; whnf)) ?_; refine gM rfl rfl (by conv => (lhs; whnf)) ?_; refine gM rfl rfl (by conv => (lhs; whnf)) ?_; refine gM rfl rfl (by conv => (lhs; whnf)) ?_; refine gO ?_; refine gc_ret ?_)
    exact gx_ret3 (u := .slice _ _ _) (v := .slice _ _ _) (x := .int _ _) rfl rfl rfl rfl (fun w' s' => ⟨((A1, c1), bo), by dsimp only; rw [hcl], by
      dsimp only
      rw [hcl]
      exact (St.sub (K := [Own A1 (doneL (okR s.ops.length bs ps) l).length c1 57 5 ((chgL r le s.ops bs ps l).flatMap encC), Box bo 3 ((outsR (okR s.ops.length bs ps) [] l).map (Value.int .i64)).toArray]) (.cons .here (.cons .here .nil)) s').sep⟩)
end
end Go.Proofs.YtckhibfbdnoigaaGreatDoor

/- Plain facts of TopReturns: all garments of all bundles returned for all operations. No program in sight. -/
namespace Go.Proofs.YtckhibfbdnoigaaGreatDoor
open Go.RowKit

def opR (t p : Int) (k : Nat) : List Ret := (List.range k).map fun o : Nat => ⟨t, p, (o : Int)⟩
def plyR (b : Bun) (n k : Nat) : List Ret := (List.range k).flatMap fun q : Nat => opR b.tick (b.fr + (q : Int)) n
def allR (bs : List Bun) (n : Nat) : List Ret := bs.flatMap fun b => plyR b n (b.upto - b.fr).toNat
theorem opR_succ (t p : Int) (k : Nat) : opR t p (k + 1) = opR t p k ++ [⟨t, p, (k : Int)⟩] := by
  unfold opR
  rw [List.range_succ, List.map_append]
  rfl
theorem plyR_succ (b : Bun) (n k : Nat) : plyR b n (k + 1) = plyR b n k ++ opR b.tick (b.fr + (k : Int)) n := by
  unfold plyR
  rw [List.range_succ, List.flatMap_append]
  simp
theorem allR_snoc (bs : List Bun) (b : Bun) (n : Nat) : allR (bs ++ [b]) n = allR bs n ++ plyR b n (b.upto - b.fr).toNat := by
  unfold allR
  rw [List.flatMap_append]
  simp
theorem opR_len (t p : Int) (k : Nat) : (opR t p k).length = k := by simp [opR]
theorem plyR_len (b : Bun) (n : Nat) : ∀ k, (plyR b n k).length = k * n
  | 0 => by simp [plyR]
  | k + 1 => by rw [plyR_succ, List.length_append, plyR_len b n k, opR_len, Nat.succ_mul]
theorem allR_mem {bs : List Bun} {n : Nat} {x : Ret} : x ∈ allR bs n ↔ ∃ b ∈ bs, x.tick = b.tick ∧ (b.fr ≤ x.ply ∧ x.ply < b.upto) ∧ (0 ≤ x.op ∧ x.op < n) := by
  unfold allR plyR opR
  simp only [List.mem_flatMap, List.mem_map, List.mem_range]
  constructor
  · rintro ⟨b, hb, p, hp, o, ho, rfl⟩
    refine ⟨b, hb, rfl, ?_, ?_⟩ <;> dsimp only <;> omega
  · rintro ⟨b, hb, h1, h2, h3⟩
    refine ⟨b, hb, (x.ply - b.fr).toNat, by omega, x.op.toNat, by omega, ?_⟩
    cases x
    simp only [Ret.mk.injEq]
    simp only at h1 h2 h3
    exact ⟨h1.symm, by omega, by omega⟩
theorem find_apart {ps : List Scn} (ha : ps.Pairwise Apart) : ∀ y ∈ ps, whoAt ps y.tick y.op = some y := by
  induction ps with
  | nil => intro y hy; cases hy
  | cons x ps ih =>
    intro y hy
    obtain ⟨h1, h2⟩ := List.pairwise_cons.1 ha
    unfold whoAt
    rcases List.mem_cons.1 hy with rfl | hy
    · rw [List.find?_cons_of_pos (by simp)]
    · have := h1 y hy
      rw [List.find?_cons_of_neg (by
        unfold Apart at this
        simpa using this)]
      exact ih h2 y hy
theorem bun_tick {bs : List Bun} (_h : Tix (ticks bs)) {t : Int} (ht : hasB (ticks bs) t = true) : ∃ b, bunAt bs t = some b := by
  obtain ⟨i, hi, he⟩ := tk_has ht
  have hi' : i < bs.length := by simpa [ticks] using hi
  cases hf : bunAt bs t with
  | some b => exact ⟨b, rfl⟩
  | none =>
    unfold bunAt at hf
    have := List.find?_eq_none.1 hf bs[i] (List.getElem_mem hi')
    rw [ticks_at hi'] at he
    simp [he] at this
section
variable {r le : Int} {l : List Opn} {bs : List Bun} {ps : List Scn}
/-- All charges for a paid scan together are what it paid. -/
theorem sum_whole (hT : Tix (ticks bs)) (hp : Plies bs) (ha : ps.Pairwise Apart) {y : Scn} (hy : y ∈ ps) (ht : hasB (ticks bs) y.tick = true) (ho : 0 ≤ y.op ∧ y.op < l.length) :
    sumTO (chgL r le l bs ps (allR bs l.length ++ allR bs l.length)) y.tick y.op = amtF r le l bs (y.tick, y.op) := by
  obtain ⟨b, hb⟩ := bun_tick hT ht
  have h1 := hp.h b (bunAt_mem hb).1
  obtain ⟨n, hn⟩ : ∃ n : Nat, b.upto - b.fr = n := ⟨(b.upto - b.fr).toNat, by omega⟩
  have hw := find_apart ha y hy
  obtain ⟨h2, h3⟩ := sum_all (r := r) (le := le) (l := l) (ps := ps) hp hb hn ho hw
  unfold chgL at h3 ⊢
  rw [h2, List.map_map] at h3
  rw [done_twice, sumTO_map]
  refine Eq.trans (sumI_perm (List.Perm.map _ ?_)) h3
  refine (List.perm_ext_iff_of_nodup ((done_nodup _).filter _) (allP_nodup _ _ _ _)).2 fun x => ?_
  rw [List.mem_filter, done_mem, decide_eq_true_eq]
  constructor
  · rintro ⟨⟨h4, h5⟩, h6, h7⟩
    have h8 := pos_of hb hn ⟨h5, h6, h7⟩
    unfold allP
    refine List.mem_map.2 ⟨(x.ply - b.fr).toNat, List.mem_range.2 (by omega), ?_⟩
    cases x
    simp only [Ret.mk.injEq]
    simp only at h6 h7 h8
    exact ⟨h6.symm, by omega, h7.symm⟩
  · intro hx
    obtain ⟨g1, g2, g3, g4⟩ := allP_mem hx
    refine ⟨⟨allR_mem.2 ⟨b, (bunAt_mem hb).1, by rw [g1, (bunAt_mem hb).2], by omega, by omega⟩, ?_⟩, g1, g2⟩
    exact decide_eq_true (trE_mk (b := b) (x := y) (by rw [g1]; exact hb) (by omega) (by omega) (by rw [g1, g2]; exact hw))
/-- What is charged for what a scan was paid for, its worker is charged. -/
theorem chg_who (ha : ps.Pairwise Apart) {y : Scn} (hy : y ∈ ps) {xs : List Ret} {c : Chg} (hc : c ∈ chgL r le l bs ps xs) (h1 : c.tick = y.tick) (h2 : c.op = y.op) : c.who = y.who := by
  obtain ⟨x, rfl, _, hok⟩ := chg_mem hc
  obtain ⟨b, z, hz⟩ := trE_zero (of_decide_eq_true hok)
  show trW _ _ _ x = _
  have h1' : x.tick = y.tick := h1
  have h2' : x.op = y.op := h2
  have := hz.who
  rw [h1', h2', find_apart ha y hy] at this
  rw [hz.w, ← Option.some.inj this]
theorem chg_paid {xs : List Ret} {c : Chg} (hc : c ∈ chgL r le l bs ps xs) : ∃ y ∈ ps, y.tick = c.tick ∧ y.op = c.op := by
  obtain ⟨x, rfl, _, hok⟩ := chg_mem hc
  obtain ⟨b, z, hz⟩ := trE_zero (of_decide_eq_true hok)
  obtain ⟨g1, g2, g3⟩ := whoAt_mem hz.who
  exact ⟨z, g1, g2, g3⟩
end
def sumA (cs : List Chg) : Int := sumI (cs.map (·.amt))
theorem sumA_snoc (cs : List Chg) (q : Chg) : sumA (cs ++ [q]) = sumA cs + q.amt := by
  unfold sumA
  rw [List.map_append, sumI_append]
  simp [sumI]
def totS (ch : List Chg) (ps : List Scn) : Int := sumI (ps.map fun y => sumTO ch y.tick y.op)
theorem totS_snoc (ch : List Chg) (ps : List Scn) (y : Scn) : totS ch (ps ++ [y]) = totS ch ps + sumTO ch y.tick y.op := by
  unfold totS
  rw [List.map_append, sumI_append]
  simp [sumI]
theorem one_match {c : Chg} : ∀ {ps : List Scn}, ps.Pairwise Apart → (∃ y ∈ ps, y.tick = c.tick ∧ y.op = c.op) → sumI (ps.map fun y => if c.tick = y.tick ∧ c.op = y.op then c.amt else 0) = c.amt
  | [], _, ⟨_, hy, _⟩ => by cases hy
  | x :: ps, ha, ⟨y, hy, e1, e2⟩ => by
    obtain ⟨h1, h2⟩ := List.pairwise_cons.1 ha
    rw [List.map_cons, sumI_cons]
    rcases List.mem_cons.1 hy with rfl | hy
    · rw [if_pos ⟨e1.symm, e2.symm⟩]
      have : ps.map (fun z => if c.tick = z.tick ∧ c.op = z.op then c.amt else 0) = ps.map fun _ => (0 : Int) := List.map_congr_left fun z hz => by
        rw [if_neg]
        rintro ⟨g1, g2⟩
        exact h1 z hz ⟨by rw [e1, g1], by rw [e2, g2]⟩
      rw [this]
      have h0 : ∀ qs : List Scn, sumI (qs.map fun _ => (0 : Int)) = 0 := fun qs => by
        induction qs with
        | nil => rfl
        | cons _ qs ih => rw [List.map_cons, sumI_cons, ih]; rfl
      rw [h0]
      omega
    · have := h1 y hy
      rw [if_neg (fun ⟨g1, g2⟩ => this ⟨by rw [e1, g1], by rw [e2, g2]⟩), one_match h2 ⟨y, hy, e1, e2⟩]
      omega
theorem totS_all : ∀ {ch : List Chg} {ps : List Scn}, ps.Pairwise Apart → (∀ c ∈ ch, ∃ y ∈ ps, y.tick = c.tick ∧ y.op = c.op) → totS ch ps = sumA ch := by
  intro ch ps ha
  suffices h : ∀ n, n ≤ ch.length → (∀ c ∈ ch, ∃ y ∈ ps, y.tick = c.tick ∧ y.op = c.op) → totS (ch.take n) ps = sumA (ch.take n) by
    intro hc
    have := h ch.length (Nat.le_refl _) hc
    rwa [List.take_length] at this
  intro n
  induction n with
  | zero =>
    intro _ _
    rw [List.take_zero]
    unfold totS sumA
    have h0 : ∀ qs : List Scn, sumI (qs.map fun y => sumTO [] y.tick y.op) = 0 := fun qs => by
      induction qs with
      | nil => rfl
      | cons _ qs ih => rw [List.map_cons, sumI_cons, ih]; rfl
    exact h0 ps
  | succ n ih =>
    intro hn hc
    have ih' := ih (by omega) hc
    have h1 := one_match ha (hc ch[n] (List.getElem_mem (by omega)))
    rw [List.take_succ_eq_append_getElem (by omega), sumA_snoc, ← ih', ← h1]
    unfold totS
    rw [← sumI_add]
    congr 1
    apply List.map_congr_left
    intro y _
    rw [sumTO_snoc]
    split <;> omega
theorem sumTO_range {cs : List Chg} (h : ∀ q ∈ cs, 0 ≤ q.amt ∧ q.amt ≤ 1000000000) (t o : Int) : 0 ≤ sumTO cs t o ∧ sumTO cs t o ≤ 1000000000 * cs.length := by
  suffices g : ∀ n, n ≤ cs.length → 0 ≤ sumTO (cs.take n) t o ∧ sumTO (cs.take n) t o ≤ 1000000000 * n by
    have := g cs.length (Nat.le_refl _)
    rwa [List.take_length] at this
  intro n
  induction n with
  | zero => intro _; rw [List.take_zero]; exact ⟨Int.le_refl 0, by show (0 : Int) ≤ _; omega⟩
  | succ n ih =>
    intro hn
    obtain ⟨h1, h2⟩ := ih (by omega)
    have ha := h cs[n] (List.getElem_mem (by omega))
    rw [List.take_succ_eq_append_getElem (by omega), sumTO_snoc]
    split <;> constructor <;> omega
theorem sumA_range {cs : List Chg} (h : ∀ q ∈ cs, 0 ≤ q.amt ∧ q.amt ≤ 1000000000) : ∀ n, n ≤ cs.length → 0 ≤ sumA (cs.take n) ∧ sumA (cs.take n) ≤ 1000000000 * n
  | 0, _ => by rw [List.take_zero]; show (0 : Int) ≤ 0 ∧ (0 : Int) ≤ 1000000000 * ((0 : Nat) : Int); omega
  | n + 1, hn => by
    obtain ⟨h1, h2⟩ := sumA_range h n (by omega)
    have ha := h cs[n] (List.getElem_mem (by omega))
    rw [List.take_succ_eq_append_getElem (by omega), sumA_snoc]
    constructor <;> omega
theorem totS_range {cs : List Chg} (h : ∀ q ∈ cs, 0 ≤ q.amt ∧ q.amt ≤ 1000000000) (h3 : cs.length ≤ 300) (ps : List Scn) : ∀ n, n ≤ ps.length → 0 ≤ totS cs (ps.take n) ∧ totS cs (ps.take n) ≤ 300000000000 * n
  | 0, _ => by rw [List.take_zero]; show (0 : Int) ≤ 0 ∧ (0 : Int) ≤ 300000000000 * ((0 : Nat) : Int); omega
  | n + 1, hn => by
    obtain ⟨h1, h2⟩ := totS_range h h3 ps n (by omega)
    have ha := sumTO_range h ps[n].tick ps[n].op
    rw [List.take_succ_eq_append_getElem (by omega), totS_snoc]
    constructor <;> omega
/-! ### The list of returns as the loops build it -/
def accR (bs : List Bun) (n i : Nat) (b : Bun) (p o : Nat) : List Ret := allR (bs.take i) n ++ (plyR b n p ++ opR b.tick (b.fr + (p : Int)) o)
theorem accR_zero (bs : List Bun) (n i : Nat) (b : Bun) : accR bs n i b 0 0 = allR (bs.take i) n := by simp [accR, plyR, opR]
theorem accR_op (bs : List Bun) (n i : Nat) (b : Bun) (p o : Nat) : accR bs n i b p (o + 1) = accR bs n i b p o ++ [⟨b.tick, b.fr + (p : Int), (o : Int)⟩] := by
  unfold accR
  rw [opR_succ]
  simp
theorem accR_ply (bs : List Bun) (n i : Nat) (b : Bun) (p : Nat) : accR bs n i b (p + 1) 0 = accR bs n i b p n := by
  unfold accR
  rw [plyR_succ]
  simp [opR]
theorem accR_bun {bs : List Bun} (n : Nat) {i m : Nat} {b : Bun} (hi : i < bs.length) (hb : bs[i] = b) (hm : b.upto - b.fr = (m : Int)) : accR bs n i b m 0 = allR (bs.take (i + 1)) n := by
  have e : (b.upto - b.fr).toNat = m := by omega
  unfold accR
  rw [List.take_succ_eq_append_getElem hi, hb, allR_snoc, e]
  simp [opR]
theorem accR_len (bs : List Bun) (n i : Nat) (b : Bun) (p o : Nat) : (accR bs n i b p o).length = (allR (bs.take i) n).length + (p * n + o) := by
  unfold accR
  rw [List.length_append, List.length_append, plyR_len, opR_len]
theorem encR_one {l : List Ret} : ∀ u ∈ l.flatMap encR, u.oneCell' = true := fun u hu => by
  obtain ⟨x, _, hx⟩ := List.mem_flatMap.1 hu
  unfold encR at hx
  simp only [List.mem_cons, List.not_mem_nil, or_false] at hx
  rcases hx with rfl | rfl | rfl <;> rfl
theorem flat_len' {α : Type} {enc : α → List Value} {sz : Nat} : ∀ {l : List α} (_ : ∀ x ∈ l, (enc x).length = sz), (l.flatMap enc).length = l.length * sz
  | [], _ => by simp
  | x :: l, h => by rw [List.flatMap_cons, List.length_append, h x List.mem_cons_self, flat_len' fun y hy => h y (List.mem_cons_of_mem _ hy), List.length_cons, Nat.succ_mul]; omega
theorem chgL_len {r le : Int} {l : List Opn} {bs : List Bun} {ps : List Scn} (xs : List Ret) : (chgL r le l bs ps xs).length ≤ xs.length := by
  unfold chgL
  rw [List.length_map]
  exact done_len xs
/-- What the loop over the bundles holds. -/
def wantF (a t : Int) (bs : List Bun) : Int := if hasB (ticks bs) t = true then a else 0
theorem wantF_snoc (a t : Int) (bs : List Bun) (b : Bun) : wantF a t (bs ++ [b]) = if b.tick = t then a else wantF a t bs := by
  unfold wantF hasB ticks
  rw [List.map_append, List.any_append]
  by_cases h : b.tick = t
  · simp [h]
  · simp [h]
end Go.Proofs.YtckhibfbdnoigaaGreatDoor
