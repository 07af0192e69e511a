/- Texts in one file: W5 W6 W7 W1 W2 W8 S3 Q57 W12 W9 W3 C16 C23 W10 W11 Q10 FwK Case QB S58 Shop QR V1 V2 V3 C29. -/
import Derived.Test.YtckhibfbdnoigaaGreatDoorTC3
import Derived.Test.YtckhibfbdnoigaaGreatDoorTC2
set_option maxRecDepth 100000
set_option maxHeartbeats 8000000
namespace Go.Proofs.YtckhibfbdnoigaaGreatDoor
open Go.RowKit
theorem Sl.bun {w : World} {B : Nat} {v : Value} {l : List Bun} (h : Sl rBun w B v l) : ∃ A c, v = .slice A l.length c ∧ l.length ≤ c ∧ l.length ≤ 9223372036854775807 ∧
  ∀ k (hk : k < l.length), ∃ ad, A = some ad ∧ ad.block < B ∧ (∀ j u, [Value.int .i64 l[k].tick, .int .i64 l[k].garm, .int .i64 l[k].size, .int .i64 l[k].lot, .int .i64 l[k].fr, .int .i64 l[k].upto][j]? = some u → w.cell? (ad.add (k * 6 + j)) = some u) ∧ inI64 l[k].tick ∧ inI64 l[k].fr ∧ inI64 l[k].upto := by
 obtain ⟨A, c, hv, h1, h2, h3⟩ := h
 refine ⟨A, c, hv, h1, by unfold maxLen at h2; omega, fun k hk => ?_⟩
 obtain ⟨ad, cs, ha, hlt, hc, rfl, hr⟩ := h3 k hk
 exact ⟨ad, ha, hlt, hc, hr⟩
def bunE (l : List Bun) (i : Nat) : Int := match l[i]? with
 | some b => if b.fr ≥ b.upto ∨ b.upto - b.fr > 40 then 3 else if ((l.take i).any fun y => decide (y.tick = b.tick)) = true then 7 else 0
 | none => 0
def scanE (e : Int) (bs : List Bun) (ws : List Wrk) : Int := if ¬ e = 0 then e else if bs.length > 60 then 5 else if ¬ firstE (bunE bs) bs.length = 0 then firstE (bunE bs) bs.length else skillE ws
theorem wrap_u64 (i : Int) : IntKind.u64.wrap i = i % 18446744073709551616 := by
 unfold IntKind.wrap
 rfl
theorem scanCheck_ok (w : World) (v0 v1 v2 v3 v4 v5 v6 vb vw : Value) (e : Int) (bs : List Bun) (ws : List Wrk) (hO : ∀ (L : List Res) (w' : World), St w L w' → Ok Tryz.prog 63 [.agg #[v0, v1, v2, v3, v4, v5, v6]].toArray w' fun x _ => x = .int .i64 e)
  (hb : Sl rBun w w.heap.size vb bs) (hw : Sl rWrk w w.heap.size vw ws) : Ok Tryz.prog 53 [.agg #[v0, v1, v2, v3, v4, v5, v6], vb, vw].toArray w fun x _ => x = .int .i64 (scanE e bs ws) := by
 obtain ⟨A, c, rfl, hc, hm, hcell⟩ := hb.bun
 obtain ⟨Aw, cw, rfl, hwc, hwm, _⟩ := hw.wrk
 refine ok_enter Tryz.func53 rfl Tryz.ntmps53 rfl ?_
 (refine gV ?_; refine gw_boxd (v := .agg _) rfl rfl (fun _ => ?_); refine gM ?_; refine gO ?_; refine gQ ?_; refine gV ?_; apply gw_d; exact w_load_boxN rfl rfl rfl .here rfl; apply gw_d; exact w_call rfl rfl (hO _) rfl; refine gM ?_; refine gN ?_; refine gM ?_; refine gC ?_; refine gO ?_)
 refine gc_if_dec rfl (fun h => ?_) (fun h => ?_)
 ·(refine gV ?_; (iterate 2 refine gM ?_); refine gO ?_; refine gR ?_; refine gT ?_)
  refine gi1 (fun _ _ => ?_)
  unfold scanE
  rw [if_pos h]
 have he : e = 0 := by simpa using h
 (refine gK ?_; refine gX ?_; refine gQ ?_; refine gV ?_; refine gM ?_; refine gL ?_; refine gC ?_; refine gO ?_)
 refine gc_if_dec rfl (fun h => ?_) (fun h60 => ?_)
 ·(refine gV ?_; refine gM ?_; refine gO ?_; refine gR ?_; refine gT ?_)
  refine gi1 (fun _ _ => ?_)
  unfold scanE
  rw [if_neg (by rw [he]; decide), if_pos (by omega)]
 have hE : scanE e bs ws = if ¬ firstE (bunE bs) bs.length = 0 then firstE (bunE bs) bs.length else skillE ws := by
  unfold scanE
  rw [if_neg (by rw [he]; decide), if_neg (by omega)]
 rw [hE]
 (refine gK ?_; refine gX ?_; refine gQ ?_; refine gV ?_; refine gM ?_; refine gL ?_; refine gM ?_; refine gO ?_; refine gB ?_)
 refine gc_loopK (σ := Nat) [23, 24, 25, 26, 9, 8, 27, 28, 29, 30, 31, 32, 33, 34, 35, 36, 37, 38, 39, 40, 41, 6, 42, 43, 44, 45, 46, 47, 48, 49, 11, 50, 51, 52, 53, 54, 55, 56, 22] (fun k => [(22, .int .i64 k)]) (fun k => k ≤ bs.length ∧ firstE (bunE bs) k = 0) (fun k => bs.length - k) 0 ⟨Nat.zero_le _, rfl⟩ ⟨rfl, trivial⟩ ?_
 rintro k base ⟨hk, hI⟩
 (refine gV ?_; refine gC ?_; refine gO ?_; refine gQ ?_)
 refine gc_if_dec rfl (fun h => ?_) (fun h => ?_)
 ·have hlt : k < bs.length := by omega
  obtain ⟨ad, rfl, hbk, hce, h1, h2, h3⟩ := hcell k hlt
  unfold inI64 at h1 h2 h3
  have hW : bunE bs k = if bs[k].fr ≥ bs[k].upto ∨ bs[k].upto - bs[k].fr > 40 then 3 else if ((bs.take k).any fun y => decide (y.tick = bs[k].tick)) = true then 7 else 0 := by
   unfold bunE
   rw [List.getElem?_eq_getElem hlt]
  have hstop : ∀ x : Int, bunE bs k = x → ¬ x = 0 → (if ¬ firstE (bunE bs) bs.length = 0 then firstE (bunE bs) bs.length else skillE ws) = x := fun x hx hx0 => by
   have := firstE_stop hI (by rw [hx]; exact hx0) hlt
   rw [this, hx, if_pos hx0]
  (refine gK ?_; refine gX ?_; refine gQ ?_; refine gB ?_; refine gV ?_; refine gM ?_; apply gw_d; exact w_index rfl rfl rfl rfl (by with_reducible exact rfl) (by omega); apply gw_d; exact w_load_elem rfl rfl rfl (by assumption) (by assumption) (by rfl); refine w_alloc rfl (fun _ => ?_); refine gM ?_; refine w_store_all rfl rfl rfl rfl rfl .here rfl ?_; refine gO ?_; refine gQ ?_; refine gV ?_; refine gF ?_; refine gW .here ?_; refine gF ?_; refine gW .here ?_; refine gC ?_; refine gM ?_)
  by_cases h4 : bs[k].fr ≥ bs[k].upto
  ·rw [if_pos (.inl h4)] at hW
   focus (refine gD (fun _ => ?_) (fun _ => ?_); (iterate 8 refine gU ?_); refine gPp ?_; refine gO ?_; refine gc_if_true rfl ?_; refine gV ?_; refine gM ?_; refine gO ?_; refine gR ?_; refine gT ?_; refine gY ?_; (iterate 2 refine gT ?_); refine gY ?_; refine gT ?_; rotate_left; refine gF ?_; refine gW .here ?_; rotate_left)
   all_goals first | (exfalso; omega) | skip
   refine gi1 (fun _ _ => ?_)
   rw [hstop 3 hW (by decide)]
  have hu : (bs[k].upto % 18446744073709551616 - bs[k].fr % 18446744073709551616) % 18446744073709551616 = bs[k].upto - bs[k].fr := by omega
  by_cases h5 : bs[k].upto - bs[k].fr > 40
  ·rw [if_pos (.inr h5)] at hW
   focus (refine gD (fun _ => ?_) (fun _ => ?_); (iterate 8 refine gU ?_); refine gPp ?_; refine gO ?_; refine gc_if_true rfl ?_; refine gV ?_; refine gM ?_; refine gO ?_; refine gR ?_; refine gT ?_; refine gY ?_; (iterate 2 refine gT ?_); refine gY ?_; refine gT ?_; rotate_left; refine gF ?_; refine gW .here ?_; apply gw_d; exact det_conv (r := bs[k].upto % 18446744073709551616) rfl rfl rfl (wrap_u64 _); refine gF ?_; refine gW .here ?_; apply gw_d; exact det_conv (r := bs[k].fr % 18446744073709551616) rfl rfl rfl (wrap_u64 _); apply gw_d; exact det_eq (c' := .int .u64 (bs[k].upto - bs[k].fr)) (det_ar_wrap rfl rfl rfl rfl rfl) (by rw [wrap_u64, hu]); refine gC ?_; refine gPq ?_; refine gO ?_; refine gc_if_dec rfl (fun _ => ?_) (fun _ => ?_); refine gV ?_; refine gM ?_; refine gO ?_; refine gR ?_; refine gT ?_; refine gY ?_; (iterate 2 refine gT ?_); refine gY ?_; refine gT ?_; rotate_left; refine gK ?_; refine gX ?_; refine gV ?_; (iterate 2 refine gM ?_); apply gw_d; exact w_cut_hi rfl rfl rfl rfl (by with_reducible exact rfl) (by omega); refine gL ?_; refine gM ?_; refine gO ?_; refine gB ?_; rotate_left)
   all_goals first | (exfalso; omega) | skip
   refine gi1 (fun _ _ => ?_)
   rw [hstop 3 hW (by decide)]
  rw [if_neg (by omega)] at hW
  focus (refine gD (fun _ => ?_) (fun _ => ?_); (iterate 8 refine gU ?_); refine gPp ?_; refine gO ?_; refine gc_if_true rfl ?_; refine gV ?_; refine gM ?_; refine gO ?_; refine gR ?_; refine gT ?_; refine gY ?_; (iterate 2 refine gT ?_); refine gY ?_; refine gT ?_; rotate_left; refine gF ?_; refine gW .here ?_; apply gw_d; exact det_conv (r := bs[k].upto % 18446744073709551616) rfl rfl rfl (wrap_u64 _); refine gF ?_; refine gW .here ?_; apply gw_d; exact det_conv (r := bs[k].fr % 18446744073709551616) rfl rfl rfl (wrap_u64 _); apply gw_d; exact det_eq (c' := .int .u64 (bs[k].upto - bs[k].fr)) (det_ar_wrap rfl rfl rfl rfl rfl) (by rw [wrap_u64, hu]); refine gC ?_; refine gPq ?_; refine gO ?_; refine gc_if_dec rfl (fun _ => ?_) (fun _ => ?_); refine gV ?_; refine gM ?_; refine gO ?_; refine gR ?_; refine gT ?_; refine gY ?_; (iterate 2 refine gT ?_); refine gY ?_; refine gT ?_; rotate_left; refine gK ?_; refine gX ?_; refine gV ?_; (iterate 2 refine gM ?_); apply gw_d; exact w_cut_hi rfl rfl rfl rfl (by with_reducible exact rfl) (by omega); refine gL ?_; refine gM ?_; refine gO ?_; refine gB ?_; rotate_left)
  all_goals first | (exfalso; omega) | skip
  refine gc_loopK (σ := Nat) [47, 48, 49, 11, 50, 51, 52, 53, 54, 6, 55, 46] (fun j => [(46, .int .i64 j)]) (fun j => j ≤ k ∧ ((bs.take j).any fun y => decide (y.tick = bs[k].tick)) = false) (fun j => k - j) 0 ⟨Nat.zero_le _, rfl⟩ ⟨rfl, trivial⟩ ?_
  rintro j base2 ⟨hj, hJ⟩
  (refine gV ?_; refine gC ?_; refine gO ?_; refine gQ ?_)
  refine gc_if_dec rfl (fun h => ?_) (fun h => ?_)
  ·have hjl : j < bs.length := by omega
   obtain ⟨ad2, h6, hb2, hce2, _⟩ := hcell j hjl
   injection h6 with h6
   subst h6
   (refine gK ?_; refine gX ?_; refine gQ ?_; refine gB ?_; refine gV ?_; apply gw_d; exact w_index rfl rfl rfl rfl (by with_reducible exact rfl) (by omega); apply gw_d; exact w_load_elem rfl rfl rfl (by assumption) (by assumption) (by rfl); refine w_alloc rfl (fun _ => ?_); refine w_store_all rfl rfl rfl rfl rfl .here rfl ?_; refine gN ?_; refine gF ?_; refine gW .here ?_; refine gF ?_; refine gW (.there .here) ?_; refine gC ?_; refine gO ?_)
   refine gc_if_dec rfl (fun h => ?_) (fun h => ?_)
   ·(refine gV ?_; refine gM ?_; refine gO ?_; refine gR ?_; refine gY ?_; (iterate 2 refine gT ?_); (iterate 2 refine gY ?_); (iterate 2 refine gT ?_); refine gY ?_; refine gT ?_)
    refine gi1 (fun _ _ => ?_)
    rw [if_pos (List.any_eq_true.2 ⟨bs[j], List.mem_take_iff_getElem.2 ⟨j, by omega, rfl⟩, decide_eq_true h⟩)] at hW
    rw [hstop 7 hW (by decide)]
   ·(refine gK ?_; refine gH ?_; refine gX ?_; refine gG ?_; refine gA ?_; refine gM ?_; refine gw_nil ?_)
    exact gx_round (j + 1) ⟨by omega, take_any_snoc hjl hJ (decide_eq_false h)⟩ (by omega) kK ⟨rfl, trivial⟩ Sub.tail
  ·obtain rfl : j = k := by omega
   rw [if_neg (by rw [hJ]; decide)] at hW
   (refine gI ?_; (iterate 2 refine gZ ?_); refine gJ ?_; refine gH ?_; refine gX ?_; refine gG ?_; refine gA ?_; refine gM ?_; refine gw_nil ?_)
   exact gx_round (j + 1) ⟨by omega, firstE_snoc hI hW⟩ (by omega) kK ⟨rfl, trivial⟩ Sub.tail
 ·obtain rfl : k = bs.length := by omega
  rw [if_neg (by rw [hI]; decide)]
  (refine gI ?_; (iterate 2 refine gZ ?_); refine gJ ?_; refine gX ?_; refine gV ?_; refine gM ?_; apply gw_d; exact w_call rfl rfl (fun w' s => skillCheck_ok w' _ ws (hw.later s)) rfl; refine gM ?_; refine gO ?_; refine gR ?_)
  refine gi1 (fun _ _ => ?_)
  rfl
def Small (l : List Opn) : Prop := l.length ≤ 16 ∧ ∀ k (hk : k < l.length), ∀ a ∈ l[k].after, 0 ≤ a ∧ a < l.length
theorem judge_nil (w : World) (vl vw : Value) (x : Scn) : Ok Tryz.prog 54 [vl, vw, .pointer none, .agg #[.int .i64 x.tick, .int .i64 x.op, .int .i64 x.who, .int .i64 x.time]].toArray w fun r _ => r = .int .i64 3 := by
 refine ok_enter Tryz.func54 rfl Tryz.ntmps54 rfl ?_
 (refine gV ?_; refine gw_boxd (v := .agg _) rfl rfl (fun _ => ?_); refine gM ?_; refine gO ?_; refine gQ ?_; refine gV ?_; refine gM ?_; apply gw_d; exact w_peqnil (te := 130) (by kernel_rfl) rfl rfl rfl rfl; refine gM ?_; (iterate 3 refine gU ?_); refine gPp ?_; refine gM ?_; (iterate 5 refine gU ?_); refine gPp ?_; refine gM ?_; (iterate 3 refine gU ?_); refine gPp ?_; refine gM ?_; (iterate 5 refine gU ?_); refine gPp ?_; refine gM ?_; (iterate 3 refine gU ?_); refine gPp ?_; refine gM ?_; (iterate 3 refine gU ?_); refine gPp ?_; refine gO ?_; refine gc_if_true rfl ?_; refine gV ?_; refine gM ?_; refine gO ?_; refine gR ?_; refine gT ?_)
 refine gi1 (fun _ _ => ?_)
 rfl
theorem judge_ok (w : World) (vl vw : Value) (b : Nat) (ty : TypeId) (l : List Opn) (ws : List Wrk) (ps : List Scn) (x : Scn) (hl : Sl rOp w w.heap.size vl l) (hw : Sl rWrk w w.heap.size vw ws) (hS : Small l)
  (hr : w.heap[b]? = some (.cells (recC ps x.tick) ty (0, 0))) :
  Ok Tryz.prog 54 [vl, vw, .pointer (some ⟨b, 0, none⟩), .agg #[.int .i64 x.tick, .int .i64 x.op, .int .i64 x.who, .int .i64 x.time]].toArray w fun r _ => r = .int .i64 (judgeE l ws ps x) := by
 obtain ⟨A, c, rfl, hc, hm⟩ := len_small hl
 obtain ⟨Aw, cw, rfl, hwc, hwm, hwcell⟩ := hw.wrk
 have hbb : (⟨b, 0, none⟩ : Addr).block < w.heap.size := (Array.getElem?_eq_some_iff.1 hr).1
 have hcell : ∀ i, w.cell? ((⟨b, 0, none⟩ : Addr).add i) = (recC ps x.tick)[i]? := fun i => by
  rw [add_zero]
  exact Box.cell (ty := ty) hr i
 have hP : ∀ m : Nat, m < 16 → w.cell? ((⟨b, 0, none⟩ : Addr).add (0 + m * 1)) = some (.bool (paidB ps x.tick m)) := fun m hm => by
  rw [hcell, Nat.zero_add, Nat.mul_one, recC_paid _ _ hm]
 have hLst : w.cell? ((⟨b, 0, none⟩ : Addr).add 16) = some (.int .i64 (lastT ps x.tick)) := by rw [hcell, recC_last]
 by_cases hK : 0 ≤ x.op ∧ x.op < l.length ∧ 0 ≤ x.who ∧ x.who < ws.length ∧ 0 ≤ x.time ∧ x.time ≤ 1073741824
 ·have hE : judgeE l ws ps x = if canAt ws x.who (machAt l x.op) = false then 4 else if paidB ps x.tick x.op = true then 2 else if (afterAt l x.op).all (fun a => paidB ps x.tick a) = false then 5 else if x.time < lastT ps x.tick then 6 else 1 := by
   unfold judgeE knownB
   rw [if_neg (by rw [decide_eq_true hK]; decide)]
  rw [hE]
  obtain ⟨o, ho⟩ : ∃ o : Nat, x.op = (o : Int) := ⟨x.op.toNat, by omega⟩
  obtain ⟨m, hmw⟩ : ∃ m : Nat, x.who = (m : Int) := ⟨x.who.toNat, by omega⟩
  have hol : o < l.length := by omega
  have hml : m < ws.length := by omega
  have ho16 : o < 16 := by have := hS.1; omega
  obtain ⟨ad, _, hv, _, _, hb, hocell⟩ := hl.at' 5 rfl (by omega)
  injection hv with e1 e2 e3
  subst e1 e3
  obtain ⟨cs, hce, Aa, ca, Au, cu, rfl, hnm, q1, q2⟩ := hocell o hol
  have ha : Sl rInt w w.heap.size (.slice Aa l[o].after.length ca) l[o].after := q1
  obtain ⟨_, _, hv, hac, ham, hacell⟩ := ha.int
  injection hv with e1 e2 e3
  subst e1 e3
  obtain ⟨ad2, Am, cm, rfl, hb2, hce2, hnm2, hms⟩ := hwcell m hml
  have hcan : canAt ws x.who (machAt l x.op) = hasB ws[m].machines l[o].machine := by
   unfold canAt machAt
   rw [ho, hmw, Int.toNat_natCast, Int.toNat_natCast, List.getElem?_eq_getElem hol, List.getElem?_eq_getElem hml]
   rfl
  have haft : afterAt l x.op = l[o].after := by
   unfold afterAt
   rw [ho, Int.toNat_natCast, List.getElem?_eq_getElem hol]
   rfl
  rw [hcan, haft]
  have hPo := hP o ho16
  rw [← ho] at hPo
  have hSa := hS.2 o hol
  have hCan : ∀ (L : List Res) (w' : World), St w L w' → Ok Tryz.prog 65 [.agg #[.string ws[m].name, .slice Am ws[m].machines.length cm], .int .i64 l[o].machine].toArray w' fun x _ => x = .bool (hasB ws[m].machines l[o].machine) := fun L w' s => can_ok w' ws[m].name Am 0 l[o].machine cm ws[m].machines (hms.later s)
  refine ok_enter Tryz.func54 rfl Tryz.ntmps54 rfl ?_
  focus (refine gV ?_; refine gw_boxd (v := .agg _) rfl rfl (fun _ => ?_); refine gM ?_; refine gO ?_; refine gQ ?_; refine gV ?_; refine gM ?_; apply gw_d; exact w_peqnil (te := 130) (by kernel_rfl) rfl rfl rfl rfl; refine gM ?_; refine gF ?_; refine gW .here ?_; refine gC ?_; refine gPq ?_; refine gM ?_; refine gD (fun _ => ?_) (fun _ => ?_); (iterate 5 refine gU ?_); refine gPp ?_; refine gM ?_; (iterate 3 refine gU ?_); refine gPp ?_; refine gM ?_; (iterate 5 refine gU ?_); refine gPp ?_; refine gM ?_; (iterate 3 refine gU ?_); refine gPp ?_; refine gM ?_; (iterate 3 refine gU ?_); refine gPp ?_; refine gO ?_; refine gc_if_true rfl ?_; refine gV ?_; refine gM ?_; refine gO ?_; refine gR ?_; refine gT ?_; rotate_left; refine gF ?_; refine gW .here ?_; refine gM ?_; refine gL ?_; refine gC ?_; refine gPq ?_; refine gM ?_; refine gD (fun _ => ?_) (fun _ => ?_); (iterate 3 refine gU ?_); refine gPp ?_; refine gM ?_; (iterate 5 refine gU ?_); refine gPp ?_; refine gM ?_; (iterate 3 refine gU ?_); refine gPp ?_; refine gM ?_; (iterate 3 refine gU ?_); refine gPp ?_; refine gO ?_; refine gc_if_true rfl ?_; refine gV ?_; refine gM ?_; refine gO ?_; refine gR ?_; refine gT ?_; rotate_left; refine gF ?_; refine gW .here ?_; refine gC ?_; refine gPq ?_; refine gM ?_; refine gD (fun _ => ?_) (fun _ => ?_); (iterate 5 refine gU ?_); refine gPp ?_; refine gM ?_; (iterate 3 refine gU ?_); refine gPp ?_; refine gM ?_; (iterate 3 refine gU ?_); refine gPp ?_; refine gO ?_; refine gc_if_true rfl ?_; refine gV ?_; refine gM ?_; refine gO ?_; refine gR ?_; refine gT ?_; rotate_left; refine gF ?_; refine gW .here ?_; refine gM ?_; refine gL ?_; refine gC ?_; refine gPq ?_; refine gM ?_; refine gD (fun _ => ?_) (fun _ => ?_); (iterate 3 refine gU ?_); refine gPp ?_; refine gM ?_; (iterate 3 refine gU ?_); refine gPp ?_; refine gO ?_; refine gc_if_true rfl ?_; refine gV ?_; refine gM ?_; refine gO ?_; refine gR ?_; refine gT ?_; rotate_left; refine gF ?_; refine gW .here ?_; refine gC ?_; refine gPq ?_; refine gM ?_; refine gD (fun _ => ?_) (fun _ => ?_); (iterate 3 refine gU ?_); refine gPp ?_; refine gO ?_; refine gc_if_true rfl ?_; refine gV ?_; refine gM ?_; refine gO ?_; refine gR ?_; refine gT ?_; rotate_left; refine gF ?_; refine gW .here ?_; refine gC ?_; refine gPq ?_; refine gO ?_; refine gc_if_dec rfl (fun _ => ?_) (fun _ => ?_); refine gV ?_; refine gM ?_; refine gO ?_; refine gR ?_; refine gT ?_; rotate_left; refine gK ?_; refine gX ?_; refine gV ?_; refine gM ?_; refine gF ?_; refine gW .here ?_; rotate_left)
  all_goals first | (exfalso; omega) | skip
  (apply gw_d; exact w_index (m := o) rfl rfl rfl rfl ho hol; apply gw_d; exact w_load_elem rfl rfl rfl (by assumption) (by assumption) (by rfl); refine w_alloc rfl (fun _ => ?_); refine w_store_all rfl rfl rfl rfl rfl .here rfl ?_; refine gO ?_; refine gQ ?_; refine gQ ?_)
  refine gc_draw 9 (by kernel_rfl) (by kernel_rfl) ?_
  (refine dM ?_; apply gd_d; exact w_field rfl rfl rfl; apply gd_d; exact w_load_box rfl rfl rfl (.there .here) rfl; apply gd_d; exact w_index (m := m) rfl rfl rfl rfl hmw hml; apply gd_d; exact w_load_elem rfl rfl rfl (by assumption) (by assumption) (by rfl); apply gd_d; exact w_field rfl rfl rfl; apply gd_d; exact w_load_box rfl rfl rfl .here rfl; apply gd_d; exact w_call rfl rfl (hCan _) rfl; apply gd_d; exact det_not_ rfl rfl rfl; refine gd_nil ?_; refine gO ?_)
  refine gc_if rfl (fun h => ?_) (fun h => ?_)
  ·(refine gV ?_; refine gM ?_; refine gO ?_; refine gR ?_; refine gT ?_)
   refine gi1 (fun _ _ => ?_)
   rw [if_pos (by simpa using h)]
  rw [if_neg (by rw [show hasB ws[m].machines l[o].machine = true by simpa using h]; decide)]
  (refine gK ?_; refine gX ?_; refine gQ ?_; refine gQ ?_)
  refine gc_draw 7 (by kernel_rfl) (by kernel_rfl) ?_
  (refine dM ?_; apply gd_d; exact w_field rfl rfl rfl; apply gd_d; exact w_load_box rfl rfl rfl (.there .here) rfl; apply gd_d; exact w_nilcheck rfl rfl rfl; apply gd_d; exact w_field rfl rfl rfl; apply gd_d; exact w_index_arr (m := o) rfl rfl rfl rfl ho ho16; apply gd_d; exact w_load_fld rfl rfl rfl (by assumption) (by assumption); refine gd_nil ?_; refine gO ?_)
  refine gc_if rfl (fun h => ?_) (fun h => ?_)
  ·(refine gV ?_; refine gM ?_; refine gO ?_; refine gR ?_; refine gT ?_)
   refine gi1 (fun _ _ => ?_)
   rw [if_pos h]
  rw [if_neg (by rw [h]; decide)]
  (refine gK ?_; refine gX ?_; refine gQ ?_; refine gV ?_; refine gF ?_; refine gW .here ?_; refine gL ?_; refine gM ?_; refine gO ?_; refine gB ?_)
  refine gc_loopK (σ := Nat) [73, 74, 75, 11, 76, 77, 78, 79, 80, 81, 82, 8, 83, 72] (fun k => [(72, .int .i64 k)]) (fun k => k ≤ l[o].after.length ∧ (l[o].after.take k).all (fun a => paidB ps x.tick a) = true) (fun k => l[o].after.length - k) 0 ⟨Nat.zero_le _, rfl⟩ ⟨rfl, trivial⟩ ?_
  rintro k base ⟨hk, hI⟩
  (refine gV ?_; refine gC ?_; refine gO ?_; refine gQ ?_)
  refine gc_if_dec rfl (fun h2 => ?_) (fun h2 => ?_)
  ·have hkl : k < l[o].after.length := by omega
   obtain ⟨ad3, rfl, hb3, hce3, _⟩ := hacell k hkl
   have hpr := hSa l[o].after[k] (List.getElem_mem hkl)
   obtain ⟨p, hp⟩ : ∃ p : Nat, l[o].after[k] = (p : Int) := ⟨l[o].after[k].toNat, by omega⟩
   have hp16 : p < 16 := by have := hS.1; omega
   have hPp := hP p hp16
   rw [← hp] at hPp
   (refine gK ?_; refine gX ?_; refine gQ ?_; refine gB ?_; refine gV ?_; apply gw_d; exact w_index rfl rfl rfl rfl (by with_reducible exact rfl) (by omega); apply gw_d; exact w_load_at rfl rfl rfl (by assumption) (by assumption); refine gM ?_; refine gN ?_; (iterate 2 refine gM ?_); apply gw_d; exact w_nilcheck rfl rfl rfl; refine gF ?_; apply gw_d; exact w_index_arr (m := p) rfl rfl rfl rfl hp hp16; apply gw_d; exact w_load_fld rfl rfl rfl (by assumption) (by assumption); apply gw_d; exact det_not_ rfl rfl rfl; refine gO ?_)
   refine gc_if rfl (fun h3 => ?_) (fun h3 => ?_)
   ·(refine gV ?_; refine gM ?_; refine gO ?_; refine gR ?_; refine gY ?_; (iterate 2 refine gT ?_); refine gY ?_; refine gT ?_)
    refine gi1 (fun _ _ => ?_)
    have h4 : l[o].after.all (fun a => paidB ps x.tick a) = false := by
     rw [List.all_eq_false]
     exact ⟨l[o].after[k], List.getElem_mem hkl, by simpa using h3⟩
    rw [if_pos h4]
   ·(refine gK ?_; refine gH ?_; refine gX ?_; refine gG ?_; refine gA ?_; refine gM ?_; refine gw_nil ?_)
    refine gx_round (k + 1) ⟨by omega, ?_⟩ (by omega) kK ⟨rfl, trivial⟩ (Sub.all _)
    rw [List.take_succ_eq_append_getElem hkl, List.all_append, hI]
    have : paidB ps x.tick l[o].after[k] = true := by simpa using h3
    simp [this]
  obtain rfl : k = l[o].after.length := by omega
  rw [List.take_length] at hI
  rw [if_neg (by rw [hI]; decide)]
  (refine gI ?_; (iterate 2 refine gZ ?_); refine gJ ?_; refine gX ?_; refine gQ ?_; refine gQ ?_)
  refine gc_draw 7 (by kernel_rfl) (by kernel_rfl) ?_
  (apply gd_d; exact w_field rfl rfl rfl; apply gd_d; exact w_load_box rfl rfl rfl (.there .here) rfl; refine dM ?_; apply gd_d; exact w_nilcheck rfl rfl rfl; apply gd_d; exact w_field rfl rfl rfl; apply gd_d; exact w_load_at rfl rfl rfl (by assumption) (by assumption); apply gd_d; exact det_cmp rfl rfl rfl rfl rfl; refine gd_nil ?_; refine gO ?_)
  refine gc_if_dec rfl (fun h3 => ?_) (fun h3 => ?_)
  ·(refine gV ?_; refine gM ?_; refine gO ?_; refine gR ?_; refine gT ?_)
   refine gi1 (fun _ _ => ?_)
   rw [if_pos h3]
  ·(refine gK ?_; refine gX ?_; refine gV ?_; refine gM ?_; refine gO ?_; refine gR ?_)
   refine gi1 (fun _ _ => ?_)
   rw [if_neg h3]
 ·have hE : judgeE l ws ps x = 3 := by
   unfold judgeE knownB
   rw [if_pos (by rw [decide_eq_false hK])]
  rw [hE]
  refine ok_enter Tryz.func54 rfl Tryz.ntmps54 rfl ?_
  focus (refine gV ?_; refine gw_boxd (v := .agg _) rfl rfl (fun _ => ?_); refine gM ?_; refine gO ?_; refine gQ ?_; refine gV ?_; refine gM ?_; apply gw_d; exact w_peqnil (te := 130) (by kernel_rfl) rfl rfl rfl rfl; refine gM ?_; refine gF ?_; refine gW .here ?_; refine gC ?_; refine gPq ?_; refine gM ?_; refine gD (fun _ => ?_) (fun _ => ?_); (iterate 5 refine gU ?_); refine gPp ?_; refine gM ?_; (iterate 3 refine gU ?_); refine gPp ?_; refine gM ?_; (iterate 5 refine gU ?_); refine gPp ?_; refine gM ?_; (iterate 3 refine gU ?_); refine gPp ?_; refine gM ?_; (iterate 3 refine gU ?_); refine gPp ?_; refine gO ?_; refine gc_if_true rfl ?_; refine gV ?_; refine gM ?_; refine gO ?_; refine gR ?_; refine gT ?_; rotate_left; refine gF ?_; refine gW .here ?_; refine gM ?_; refine gL ?_; refine gC ?_; refine gPq ?_; refine gM ?_; refine gD (fun _ => ?_) (fun _ => ?_); (iterate 3 refine gU ?_); refine gPp ?_; refine gM ?_; (iterate 5 refine gU ?_); refine gPp ?_; refine gM ?_; (iterate 3 refine gU ?_); refine gPp ?_; refine gM ?_; (iterate 3 refine gU ?_); refine gPp ?_; refine gO ?_; refine gc_if_true rfl ?_; refine gV ?_; refine gM ?_; refine gO ?_; refine gR ?_; refine gT ?_; rotate_left; refine gF ?_; refine gW .here ?_; refine gC ?_; refine gPq ?_; refine gM ?_; refine gD (fun _ => ?_) (fun _ => ?_); (iterate 5 refine gU ?_); refine gPp ?_; refine gM ?_; (iterate 3 refine gU ?_); refine gPp ?_; refine gM ?_; (iterate 3 refine gU ?_); refine gPp ?_; refine gO ?_; refine gc_if_true rfl ?_; refine gV ?_; refine gM ?_; refine gO ?_; refine gR ?_; refine gT ?_; rotate_left; refine gF ?_; refine gW .here ?_; refine gM ?_; refine gL ?_; refine gC ?_; refine gPq ?_; refine gM ?_; refine gD (fun _ => ?_) (fun _ => ?_); (iterate 3 refine gU ?_); refine gPp ?_; refine gM ?_; (iterate 3 refine gU ?_); refine gPp ?_; refine gO ?_; refine gc_if_true rfl ?_; refine gV ?_; refine gM ?_; refine gO ?_; refine gR ?_; refine gT ?_; rotate_left; refine gF ?_; refine gW .here ?_; refine gC ?_; refine gPq ?_; refine gM ?_; refine gD (fun _ => ?_) (fun _ => ?_); (iterate 3 refine gU ?_); refine gPp ?_; refine gO ?_; refine gc_if_true rfl ?_; refine gV ?_; refine gM ?_; refine gO ?_; refine gR ?_; refine gT ?_; rotate_left; refine gF ?_; refine gW .here ?_; refine gC ?_; refine gPq ?_; refine gO ?_; refine gc_if_dec rfl (fun _ => ?_) (fun _ => ?_); refine gV ?_; refine gM ?_; refine gO ?_; refine gR ?_; refine gT ?_; rotate_left; refine gK ?_; refine gX ?_; refine gV ?_; refine gM ?_; refine gF ?_; refine gW .here ?_; rotate_left)
  all_goals first | (refine gi1 (fun _ _ => ?_); rfl) | skip
  exfalso
  omega
def ticks (bs : List Bun) : List Int := bs.map (·.tick)
theorem ticks_at {bs : List Bun} {k : Nat} (hk : k < bs.length) : tkAt (ticks bs) k = bs[k].tick := by
 unfold tkAt ticks
 simp [hk]
structure ScanOk (e : Int) (bs : List Bun) (ws : List Wrk) : Prop where
 op : e = 0
 le : bs.length ≤ 60
 tix : Tix (ticks bs)
 plies : ∀ k (hk : k < bs.length), 1 ≤ bs[k].upto - bs[k].fr ∧ bs[k].upto - bs[k].fr ≤ 40
 skill : skillE ws = 0
theorem scan_good {e : Int} {bs : List Bun} {ws : List Wrk} (h : scanE e bs ws = 0) : ScanOk e bs ws := by
 unfold scanE at h
 split at h
 ·rename_i h1; exact absurd h h1
 rename_i h1
 split at h
 ·cases h
 rename_i h2
 split at h
 ·rename_i h3; exact absurd h h3
 rename_i h3
 have h4 : firstE (bunE bs) bs.length = 0 := by simpa using h3
 have h5 : ∀ k (hk : k < bs.length), ¬ (bs[k].fr ≥ bs[k].upto ∨ bs[k].upto - bs[k].fr > 40) ∧ ((bs.take k).any fun y => decide (y.tick = bs[k].tick)) = false := fun k hk => by
  have h6 := firstE_at h4 k hk
  unfold bunE at h6
  rw [List.getElem?_eq_getElem hk] at h6
  dsimp only at h6
  split at h6
  ·cases h6
  ·rename_i h7
   split at h6
   ·cases h6
   ·rename_i h8; exact ⟨h7, by simpa using h8⟩
 refine ⟨by simpa using h1, by omega, fun i j hij hj => ?_, fun k hk => by have := (h5 k hk).1; omega, h⟩
 have hj' : j < bs.length := by simpa [ticks] using hj
 rw [ticks_at (by omega), ticks_at hj']
 intro hc
 have := List.any_eq_false.1 (h5 j hj').2 bs[i] (List.mem_take_iff_getElem.2 ⟨i, by omega, rfl⟩)
 simp [hc] at this
theorem Sl.scn {w : World} {B : Nat} {v : Value} {l : List Scn} (h : Sl rScn w B v l) : ∃ A c, v = .slice A l.length c ∧ l.length ≤ c ∧ l.length ≤ 9223372036854775807 ∧
  ∀ k (hk : k < l.length), ∃ ad, A = some ad ∧ ad.block < B ∧ (∀ j u, [Value.int .i64 l[k].tick, .int .i64 l[k].op, .int .i64 l[k].who, .int .i64 l[k].time][j]? = some u → w.cell? (ad.add (k * 4 + j)) = some u) ∧ inI64 l[k].tick ∧ inI64 l[k].op ∧ inI64 l[k].who ∧ inI64 l[k].time := by
 obtain ⟨A, c, hv, h1, h2, h3⟩ := h
 refine ⟨A, c, hv, h1, by unfold maxLen at h2; omega, fun k hk => ?_⟩
 obtain ⟨ad, cs, ha, hlt, hc, rfl, hr⟩ := h3 k hk
 exact ⟨ad, ha, hlt, hc, hr⟩
theorem judgeAll_bad (w : World) (v0 v1 v2 v3 v4 v5 v6 vb vw vx : Value) (e : Int) (bs : List Bun) (ws : List Wrk) (hO : ∀ (L : List Res) (w' : World), St w L w' → Ok Tryz.prog 63 [.agg #[v0, v1, v2, v3, v4, v5, v6]].toArray w' fun x _ => x = .int .i64 e)
  (hb : Sl rBun w w.heap.size vb bs) (hw : Sl rWrk w w.heap.size vw ws) (he : ¬ scanE e bs ws = 0) : Ok Tryz.prog 43 [.agg #[v0, v1, v2, v3, v4, v5, v6], vb, vw, vx].toArray w fun x _ => x = .tuple #[.slice none 0 0, .map none, .int .i64 (scanE e bs ws)] := by
 have hC : ∀ (L : List Res) (w' : World), St w L w' → Ok Tryz.prog 53 [.agg #[v0, v1, v2, v3, v4, v5, v6], vb, vw].toArray w' fun x _ => x = .int .i64 (scanE e bs ws) := fun L w' s => scanCheck_ok w' v0 v1 v2 v3 v4 v5 v6 vb vw e bs ws (fun L' w2 s2 => hO [] w2 ⟨s.below.trans (Below.mono s2.below s.below.size), trivial⟩) (hb.later s) (hw.later s)
 refine ok_enter Tryz.func43 rfl Tryz.ntmps43 rfl ?_
 (refine gV ?_; refine gw_boxd (v := .agg _) rfl rfl (fun _ => ?_); (iterate 3 refine gM ?_); refine gO ?_; refine gQ ?_; refine gV ?_; apply gw_d; exact w_load_boxN rfl rfl rfl .here rfl; (iterate 2 refine gM ?_); apply gw_d; exact w_call rfl rfl (hC _) rfl; refine gM ?_; refine gN ?_; refine gM ?_; refine gC ?_; refine gO ?_)
 refine gc_if_dec rfl (fun h => ?_) (fun h => absurd he h)
 (refine gV ?_; (iterate 4 refine gM ?_); refine gO ?_; refine gR ?_; refine gT ?_)
 refine gx_ret3 (u := .slice _ _ _) (v := .map _) (x := .int _ _) rfl rfl rfl rfl (fun _ _ => ?_)
 rfl
theorem judgeAll_long (w : World) (v0 v1 v2 v3 v4 v5 v6 vb vw vx : Value) (e : Int) (bs : List Bun) (ws : List Wrk) (xs : List Scn) (hO : ∀ (L : List Res) (w' : World), St w L w' → Ok Tryz.prog 63 [.agg #[v0, v1, v2, v3, v4, v5, v6]].toArray w' fun x _ => x = .int .i64 e)
  (hb : Sl rBun w w.heap.size vb bs) (hw : Sl rWrk w w.heap.size vw ws) (hx : Sl rScn w w.heap.size vx xs) (he : scanE e bs ws = 0) (h300 : xs.length > 300) : Ok Tryz.prog 43 [.agg #[v0, v1, v2, v3, v4, v5, v6], vb, vw, vx].toArray w fun x _ => x = .tuple #[.slice none 0 0, .map none, .int .i64 5] := by
 have hC : ∀ (L : List Res) (w' : World), St w L w' → Ok Tryz.prog 53 [.agg #[v0, v1, v2, v3, v4, v5, v6], vb, vw].toArray w' fun x _ => x = .int .i64 0 := fun L w' s => by
  have := scanCheck_ok w' v0 v1 v2 v3 v4 v5 v6 vb vw e bs ws (fun L' w2 s2 => hO [] w2 ⟨s.below.trans (Below.mono s2.below s.below.size), trivial⟩) (hb.later s) (hw.later s)
  rw [he] at this
  exact this
 obtain ⟨Ax, cx, rfl, hxc, hxm, hxcell⟩ := hx.scn
 refine ok_enter Tryz.func43 rfl Tryz.ntmps43 rfl ?_
 (refine gV ?_; refine gw_boxd (v := .agg _) rfl rfl (fun _ => ?_); (iterate 3 refine gM ?_); refine gO ?_; refine gQ ?_; refine gV ?_; apply gw_d; exact w_load_boxN rfl rfl rfl .here rfl; (iterate 2 refine gM ?_); apply gw_d; exact w_call rfl rfl (hC _) rfl; refine gM ?_; refine gN ?_; refine gM ?_; refine gC ?_; refine gO ?_)
 refine gc_if_dec rfl (fun h => absurd rfl h) (fun _ => ?_)
 (refine gK ?_; refine gX ?_; refine gQ ?_; refine gV ?_; refine gM ?_; refine gL ?_; refine gC ?_; refine gO ?_)
 refine gc_if_dec rfl (fun h => ?_) (fun h => by omega)
 (refine gV ?_; (iterate 3 refine gM ?_); refine gO ?_; refine gR ?_; refine gT ?_)
 refine gx_ret3 (u := .slice _ _ _) (v := .map _) (x := .int _ _) rfl rfl rfl rfl (fun _ _ => ?_)
 rfl
theorem judgeAll_ok (w : World) (v0 v1 v2 v3 v4 v5 v6 vb vw vx : Value) (e : Int) (l : List Opn) (bs : List Bun) (ws : List Wrk) (xs : List Scn) (hO : ∀ (L : List Res) (w' : World), St w L w' → Ok Tryz.prog 63 [.agg #[v0, v1, v2, v3, v4, v5, v6]].toArray w' fun x _ => x = .int .i64 e)
  (hl : Sl rOp w w.heap.size v6 l) (hb : Sl rBun w w.heap.size vb bs) (hw : Sl rWrk w w.heap.size vw ws) (hx : Sl rScn w w.heap.size vx xs) (hS : Small l) (he : scanE e bs ws = 0) (h300 : ¬ xs.length > 300) :
  OkM Tryz.prog 43 [.agg #[v0, v1, v2, v3, v4, v5, v6], vb, vw, vx].toArray w (fun x : Nat × Nat => .tuple #[.slice (some ⟨x.1, 0, none⟩) xs.length xs.length, .map (some x.2), .int .i64 0]) (fun x => [Box x.1 3 ((outs l ws (ticks bs) [] xs).map (Value.int .i64)).toArray]) := by
 have hC : ∀ (L : List Res) (w' : World), St w L w' → Ok Tryz.prog 53 [.agg #[v0, v1, v2, v3, v4, v5, v6], vb, vw].toArray w' fun x _ => x = .int .i64 0 := fun L w' s => by
  have := scanCheck_ok w' v0 v1 v2 v3 v4 v5 v6 vb vw e bs ws (fun L' w2 s2 => hO [] w2 ⟨s.below.trans (Below.mono s2.below s.below.size), trivial⟩) (hb.later s) (hw.later s)
  rw [he] at this
  exact this
 have hOk := scan_good he
 have htl : (ticks bs).length = bs.length := by simp [ticks]
 obtain ⟨Al, cl, rfl, hlc, hlm⟩ := len_small hl
 obtain ⟨Ab, cb, rfl, hbc, hbm, hbcell⟩ := hb.bun
 obtain ⟨Aw, cw, rfl, hwc, hwm, _⟩ := hw.wrk
 obtain ⟨Ax, cx, rfl, hxc, hxm, hxcell⟩ := hx.scn
 unfold OkM
 refine ok_enter Tryz.func43 rfl Tryz.ntmps43 rfl ?_
 (refine gV ?_; refine gw_boxd (v := .agg _) rfl rfl (fun _ => ?_); (iterate 3 refine gM ?_); refine gO ?_; refine gQ ?_; refine gV ?_; apply gw_d; exact w_load_boxN rfl rfl rfl .here rfl; (iterate 2 refine gM ?_); apply gw_d; exact w_call rfl rfl (hC _) rfl; refine gM ?_; refine gN ?_; refine gM ?_; refine gC ?_; refine gO ?_)
 rename_i bv
 refine gc_if_dec rfl (fun h => absurd rfl h) (fun _ => ?_)
 (refine gK ?_; refine gX ?_; refine gQ ?_; refine gV ?_; refine gM ?_; refine gL ?_; refine gC ?_; refine gO ?_)
 refine gc_if_dec rfl (fun h => by omega) (fun _ => ?_)
 (refine gK ?_; refine gX ?_; refine gV ?_)
 refine gw_makeMap kInt rfl (fun bm => ?_)
 (refine gM ?_; refine gO ?_; refine gQ ?_; refine gV ?_; refine gM ?_; refine gL ?_; refine gM ?_; refine gO ?_; refine gB ?_)
 refine gc_ent (coll_nil (F := recF (ticks bs) (fun _ => 0) 130 [])) ?_
 refine gc_loop (σ := Nat × (Nat → Nat)) [33, 34, 35, 14, 36, 37, 38, 39, 40, 41, 32] (fun s => [(32, .int .i64 s.1)]) (fun s => [Coll s.1 (recF (ticks bs) s.2 130 []), MapR bm kInt (mapK (ticks bs) s.2 s.1), Box bv 29 #[v0, v1, v2, v3, v4, v5, .slice Al l.length cl]]) (fun s => s.1 ≤ bs.length) (fun s => bs.length - s.1) (0, fun _ => 0) (Nat.zero_le _) ⟨rfl, trivial⟩ (.cons .here (.cons .here (.cons .here .nil))) ?_
 rintro ⟨k, β⟩ base hk
 dsimp only at hk ⊢
 (refine gV ?_; refine gC ?_; refine gO ?_; refine gQ ?_)
 refine gc_if_dec rfl (fun h => ?_) (fun h => ?_)
 ·have hlt : k < bs.length := by omega
  obtain ⟨ad, rfl, hbk, hce, h1, h2, h3⟩ := hbcell k hlt
  (refine gK ?_; refine gX ?_; refine gQ ?_; refine gB ?_; refine gV ?_; apply gw_d; exact w_index rfl rfl rfl rfl (by with_reducible exact rfl) (by omega); apply gw_d; exact w_load_elem rfl rfl rfl (by assumption) (by assumption) (by rfl); refine w_alloc rfl (fun _ => ?_); refine w_store_all rfl rfl rfl rfl rfl .here rfl ?_; refine gO ?_; refine gG ?_; refine gM ?_; refine gF ?_; refine gW .here ?_; apply gw_d; exact w_buildP [] (cells := recC [] 0) (by rfl) rfl rfl rfl; refine gw_boxd (v := .agg _) rfl rfl (fun _ => ?_))
  rename_i b1 b2
  refine gw_mapSet (k := bs[k].tick) (v := .pointer (some ⟨b2, 0, none⟩)) intLawC rfl rfl rfl rfl (.there (.there (.there .here))) ?_
  have hmap : aset (mapK (ticks bs) β k) bs[k].tick (.pointer (some ⟨b2, 0, none⟩)) = mapK (ticks bs) (fun i => if i = k then b2 else β i) (k + 1) := by
   show _ = aset (mapK (ticks bs) (fun i => if i = k then b2 else β i) k) (tkAt (ticks bs) k) (ptrAt (fun i => if i = k then b2 else β i) k)
   rw [mapK_congr (β := β) (β' := fun i => if i = k then b2 else β i) k (fun i hi => by rw [if_neg (by omega)]), ticks_at hlt]
   simp [ptrAt]
  rw [hmap]
  (refine gw_nil ?_; refine gH ?_; refine gX ?_; refine gG ?_; refine gA ?_; refine gM ?_; refine gw_nil ?_)
  refine gx_roundE (k + 1, fun i => if i = k then b2 else β i) hlt (by dsimp only; omega) kK ⟨rfl, trivial⟩ ?_
  refine Ent.trans (Sub.ent (K := [Box b2 130 (recC [] (tkAt (ticks bs) k)), Coll k (recF (ticks bs) β 130 []), MapR bm kInt (mapK (ticks bs) (fun i => if i = k then b2 else β i) (k + 1)), Box bv 29 #[v0, v1, v2, v3, v4, v5, .slice Al l.length cl]]) (.cons (.there .here) (.cons (.there (.there .here)) (.cons .here (.cons (.there .here) .nil))))) rec_push
 obtain rfl : k = bs.length := by omega
 (refine gI ?_; (iterate 2 refine gZ ?_); refine gJ ?_; refine gX ?_; refine gV ?_; refine gM ?_; refine gL ?_)
 refine gw_make1 (n := xs.length) rfl rfl rfl rfl rfl (by omega) (by omega) rfl (fun g => ?_)
 rw [show Array.replicate xs.length ((Value.int .i64 0).cells.getD 0 undef) = ((outRow (outs l ws (ticks bs) [] (xs.take 0)) xs.length).map (Value.int .i64)).toArray from by rw [List.take_zero]; show _ = ((outRow [] xs.length).map (Value.int .i64)).toArray; rw [outRow_nil]; exact row_make (Value.int .i64) xs.length 0]
 (refine gM ?_; refine gO ?_; refine gQ ?_; refine gV ?_; refine gM ?_; refine gL ?_; refine gM ?_; refine gO ?_; refine gB ?_)
 refine gc_loop (σ := Nat) [48, 49, 50, 51, 17, 16, 52, 53, 54, 55, 18, 56, 57, 58, 59, 60, 61, 62, 63, 64, 65, 66, 67, 68, 69, 70, 71, 72, 73, 74, 75, 76, 77, 78, 79, 80, 81, 47] (fun i => [(47, .int .i64 i)]) (fun i => [Box g 3 ((outRow (outs l ws (ticks bs) [] (xs.take i)) xs.length).map (Value.int .i64)).toArray, Coll (ticks bs).length (recF (ticks bs) β 130 (paidL l ws (ticks bs) (xs.take i))), MapR bm kInt (mapK (ticks bs) β (ticks bs).length), Box bv 29 #[v0, v1, v2, v3, v4, v5, .slice Al l.length cl]]) (fun i => i ≤ xs.length) (fun i => xs.length - i) 0 (Nat.zero_le _) ⟨rfl, trivial⟩ (by rw [htl]; exact (.cons .here (.cons .here (.cons .here (.cons .here .nil))))) ?_
 rintro i base2 hi
 (refine gV ?_; refine gC ?_; refine gO ?_; refine gQ ?_)
 refine gc_if_dec rfl (fun h2 => ?_) (fun h2 => ?_)
 ·have hil : i < xs.length := by omega
  obtain ⟨ad2, rfl, hxk, hcx, x1, x2, x3, x4⟩ := hxcell i hil
  have hol := outs_len l ws (ticks bs) (xs.take i) []
  rw [List.length_take, Nat.min_eq_left (by omega)] at hol
  have hosn := outs_snoc l ws (ticks bs) xs[i] (xs.take i) []
  have hpsn := paidL_snoc l ws (ticks bs) (xs.take i) xs[i]
  rw [← List.take_succ_eq_append_getElem hil] at hosn hpsn
  change _ = _ ++ [outE l ws (ticks bs) (paidL l ws (ticks bs) (xs.take i)) xs[i]] at hosn
  generalize paidL l ws (ticks bs) (xs.take i) = ps at *
  generalize outs l ws (ticks bs) [] (xs.take i) = os at *
  have hrl := outRow_len (l := os) (n := xs.length) (by omega)
  generalize xs[i] = x at *
  (refine gK ?_; refine gX ?_; refine gQ ?_; refine gB ?_; refine gV ?_; refine gM ?_; apply gw_d; exact w_index rfl rfl rfl rfl (by with_reducible exact rfl) (by omega); apply gw_d; exact w_load_elem rfl rfl rfl (by assumption) (by assumption) (by rfl); refine w_alloc rfl (fun _ => ?_); refine gM ?_; refine w_store_all rfl rfl rfl rfl rfl .here rfl ?_; refine gN ?_; refine gM ?_; refine gF ?_; refine gW .here ?_)
  rename_i bx
  have hset : ∀ v : Int, (outRow os xs.length).set i v = outRow (os ++ [v]) xs.length := fun v => by
   have := outRow_set (l := os) (n := xs.length) (by omega) v
   rw [hol] at this
   exact this
  have hgot : ∀ v : Int, (((outRow (os ++ [v]) xs.length).map (Value.int .i64)).toArray)[i * 1]? = some (.int .i64 v) := fun v => by
   rw [← hset v, row_get (Value.int .i64) 0 (by rw [List.length_set]; omega)]
   simp [hrl, hil]
  cases hT : hasB (ticks bs) x.tick with
  | false =>
   have hget := mapK_none (β := β) (ticks bs).length (tk_not hT)
   have hE : outE l ws (ticks bs) ps x = 3 := by unfold outE; rw [if_pos hT]
   have hN : nextP l ws (ticks bs) ps x = ps := by unfold nextP; rw [hE]; rfl
   rw [hE] at hosn
   rw [hN] at hpsn
   (apply gw_d; exact det_eq (c' := .pointer none) (w_lookup (k := x.tick) intLawC rfl rfl rfl rfl (.there (.there (.there .here)))) (by rw [hget]; rfl); refine gM ?_; refine gN ?_; (iterate 2 refine gM ?_); refine gF ?_; refine gW (.there (.there (.there (.there .here)))) ?_; (iterate 2 refine gM ?_); apply gw_d; exact w_load_boxN rfl rfl rfl .here rfl; apply gw_d; exact w_call rfl rfl (fun w' _ => judge_nil w' _ _ x) rfl; apply gw_d; exact w_index rfl rfl rfl rfl (by with_reducible exact rfl) (by omega))
   refine w_store_row (n := 1) (v := .int .i64 3) rfl rfl rfl rfl rfl (.there .here) (by simp; omega) (row_set (Value.int .i64) (by omega) _) ?_
   rw [hset 3]
   (refine gN ?_; (iterate 2 refine gM ?_); apply gw_d; exact w_index rfl rfl rfl rfl (by with_reducible exact rfl) (by omega); apply gw_d; exact w_load_row rfl rfl rfl .here (hgot 3); refine gC ?_; refine gO ?_)
   refine gc_if_dec rfl (fun h => absurd h (by decide)) (fun _ => ?_)
   (refine gK ?_; refine gH ?_; refine gX ?_; refine gG ?_; refine gA ?_; refine gM ?_; refine gw_nil ?_)
   refine gx_round (i + 1) hil (by omega) kK ⟨rfl, trivial⟩ ?_
   rw [hosn, hpsn]
   exact .cons .here (.cons (.there .here) (.cons (.there .here) (.cons (.there .here) .nil)))
  | true =>
   obtain ⟨j, hj, hjt⟩ := tk_has hT
   have hget := mapK_old (β := β) hOk.tix (ticks bs).length (Nat.le_refl _) j hj
   rw [hjt] at hget
   have hE : outE l ws (ticks bs) ps x = judgeE l ws ps x := by unfold outE; rw [if_neg (by rw [hT]; decide)]
   (apply gw_d; exact det_eq (c' := .pointer (some ⟨β j, 0, none⟩)) (w_lookup (k := x.tick) intLawC rfl rfl rfl rfl (.there (.there (.there .here)))) (by rw [hget]; rfl); refine gM ?_; refine gN ?_; (iterate 2 refine gM ?_); refine gF ?_; refine gW (.there (.there (.there (.there .here)))) ?_; (iterate 2 refine gM ?_); apply gw_d; exact w_load_boxN rfl rfl rfl .here rfl; apply gw_d; exact w_call rfl rfl (fun w' s => judge_ok w' (.slice Al l.length cl) (.slice Aw ws.length cw) (β j) 130 l ws ps x (hl.later s) (hw.later s) hS (by have h9 := (s.pick (.there (.there .here))).head.1 j hj; unfold recF at h9; rw [hjt] at h9; exact h9)) rfl; apply gw_d; exact w_index rfl rfl rfl rfl (by with_reducible exact rfl) (by omega))
   refine w_store_row (n := 1) (v := .int .i64 (judgeE l ws ps x)) rfl rfl rfl rfl rfl (.there .here) (by simp; omega) (row_set (Value.int .i64) (by omega) _) ?_
   rw [hset]
   rw [hE] at hosn
   (refine gN ?_; (iterate 2 refine gM ?_); apply gw_d; exact w_index rfl rfl rfl rfl (by with_reducible exact rfl) (by omega); apply gw_d; exact w_load_row rfl rfl rfl .here (hgot _); refine gC ?_; refine gO ?_)
   refine gc_if_dec rfl (fun h1 => ?_) (fun h1 => ?_)
   ·have hN : nextP l ws (ticks bs) ps x = ps ++ [x] := by unfold nextP; rw [hE, if_pos h1]
    rw [hN] at hpsn
    have hkn : 0 ≤ x.op ∧ x.op < l.length := by
     unfold judgeE at h1
     split at h1
     ·cases h1
     ·rename_i h9
      have : knownB l ws x = true := by simpa using h9
      unfold knownB at this
      have := of_decide_eq_true this
      exact ⟨this.1, this.2.1⟩
    obtain ⟨o, ho⟩ : ∃ o : Nat, x.op = (o : Int) := ⟨x.op.toNat, by omega⟩
    have ho16 : o < 16 := by have := hS.1; omega
    have hrs := recC_size ps x.tick
    refine gc_ent (Ent.trans (Sub.ent (K := [Coll (ticks bs).length (recF (ticks bs) β 130 ps), Box g 3 ((outRow (os ++ [judgeE l ws ps x]) xs.length).map (Value.int .i64)).toArray, Box bx 51 #[.int .i64 x.tick, .int .i64 x.op, .int .i64 x.who, .int .i64 x.time], MapR bm kInt (mapK (ticks bs) β (ticks bs).length), Box bv 29 #[v0, v1, v2, v3, v4, v5, .slice Al l.length cl]]) (.cons (.there (.there .here)) (.cons .here (.cons .here (.cons .here (.cons .here .nil)))))) (rec_take hj)) ?_
    rw [hjt]
    refine gc_seq ?_
    refine gc_block_draw Nat 5 (fun i => ([[], [], [1], [0], [0, 3]] : List (List Nat)).getD i []) rfl (by kernel_rfl) ?_
    (apply gb_d; (intro γ; exact det_m rfl rfl (by conv => (lhs; whnf))); (intros; rfl); (intros; rfl); apply gb_d; (intro γ; exact w_field rfl rfl rfl); (intros; rfl); (intros; rfl); apply gb_d; (intro γ; exact w_load_box rfl rfl rfl (.there (.there (.there .here))) rfl); (intros; rfl); (intros; rfl); apply gb_d; (intro γ; exact w_nilcheck rfl rfl rfl); (intros; rfl); (intros; rfl); apply gb_d; (intro γ; exact w_field rfl rfl rfl); (intros; rfl); (intros; rfl))
    refine GB.nil (fun _ => ?_)
    (apply gw_d; exact w_index_arr (m := o) rfl rfl rfl rfl ho ho16)
    refine w_store_row (b := β j) (bt := 130) (cs := recC ps x.tick) (n := 1) (v := .bool true) (i := 0 + o * 1) (cs' := ((recC ps x.tick).toList.set o (.bool true)).toArray) rfl (congrArg (fun x => Value.pointer (some x)) (add_add ⟨β j, 0, none⟩ 0 (o * 1))) rfl rfl rfl .here (by omega) (by rw [Nat.zero_add, Nat.mul_one]; exact set_row (by omega) rfl) ?_
    (refine gO ?_; refine gG ?_; refine gM ?_; refine gF ?_; refine gW (.there (.there (.there .here))) ?_; apply gw_d; exact w_nilcheck rfl rfl rfl; refine gF ?_)
    refine w_store_row (b := β j) (bt := 130) (cs := ((recC ps x.tick).toList.set o (.bool true)).toArray) (n := 1) (v := .int .i64 x.time) (i := 16) (cs' := recC (ps ++ [x]) x.tick) rfl rfl rfl rfl rfl .here (by simp; omega) (by rw [set_row (by simp; omega) rfl]; show (((recC ps x.tick).toList.set o (.bool true)).set 16 (.int .i64 x.time)).toArray = _; rw [recC_pay ps x ho ho16]) ?_
    (refine gw_nil ?_; refine gH ?_; refine gX ?_; refine gG ?_; refine gA ?_; refine gM ?_; refine gw_nil ?_)
    refine gx_roundE (i + 1) hil (by omega) kK ⟨rfl, trivial⟩ ?_
    rw [hosn, hpsn]
    exact Ent.trans (rec_put hOk.tix hj hjt) (Sub.ent (.cons (.there .here) (.cons .here (.cons (.there .here) (.cons (.there .here) .nil)))))
   ·have hN : nextP l ws (ticks bs) ps x = ps := by unfold nextP; rw [hE, if_neg h1]
    rw [hN] at hpsn
    (refine gK ?_; refine gH ?_; refine gX ?_; refine gG ?_; refine gA ?_; refine gM ?_; refine gw_nil ?_)
    refine gx_round (i + 1) hil (by omega) kK ⟨rfl, trivial⟩ ?_
    rw [hosn, hpsn]
    exact .cons .here (.cons (.there .here) (.cons (.there .here) (.cons (.there .here) .nil)))
 ·obtain rfl : i = xs.length := by omega
  rw [List.take_length]
  have hol := outs_len l ws (ticks bs) xs []
  have hrow : outRow (outs l ws (ticks bs) [] xs) xs.length = outs l ws (ticks bs) [] xs := by
   have := outRow_full (l := outs l ws (ticks bs) [] xs)
   rw [hol] at this
   exact this
  rw [hrow]
  (refine gI ?_; (iterate 2 refine gZ ?_); refine gJ ?_; refine gX ?_; refine gV ?_; (iterate 5 refine gM ?_); refine gO ?_; refine gR ?_)
  exact gx_ret3 (u := .slice _ _ _) (v := .map _) (x := .int _ _) rfl rfl rfl rfl (fun w' s => ⟨(g, bm), rfl, (St.sub (K := [Box g 3 ((outs l ws (ticks bs) [] xs).map (Value.int .i64)).toArray]) (.cons .here .nil) s).sep⟩)
/-- What the package-level variable holds. -/
def Lay (w : World) : Prop := 0 < w.heap.size ∧ w.cell? ((⟨0, 0, none⟩ : Addr).add (0 * 1)) = some (.int .i64 100000) ∧ w.cell? ((⟨0, 0, none⟩ : Addr).add (1 * 1)) = some (.int .i64 1073741824)
theorem Lay.later {w0 w : World} {L : List Res} (s : St w0 L w) (h : Lay w0) : Lay w := by
 have hb := s.below.block _ h.1
 exact ⟨Nat.lt_of_lt_of_le h.1 s.below.size, (cell_same (by rw [add_block]; exact hb)).trans h.2.1, (cell_same (by rw [add_block]; exact hb)).trans h.2.2⟩
def tarV (r l : Int) : Value := .agg #[.int .i64 r, .int .i64 l]
def tarE (r l : Int) : Int := if (r < 0 ∨ r > 100000) ∨ (l < 0 ∨ l > 1073741824) then 3 else 0
theorem wCheck_ok (w : World) (r l : Int) (hL : Lay w) : Ok Tryz.prog 9 [tarV r l].toArray w fun x _ => x = .int .i64 (tarE r l) := by
 obtain ⟨hLb, hL0, hL1⟩ := hL
 have hLb' : ((⟨0, 0, none⟩ : Addr)).block < w.heap.size := hLb
 unfold tarV
 refine ok_enter Tryz.func9 rfl Tryz.ntmps9 rfl ?_
 (refine gV ?_; refine gw_boxd (v := .agg _) rfl rfl (fun _ => ?_); refine gM ?_; refine gO ?_; refine gQ ?_; refine gV ?_; refine gF ?_; refine gW .here ?_; refine gF ?_; refine gW .here ?_; apply gw_d; exact w_buildA (n := 2) (el := 3) (sz := 1) (cells := #[.int .i64 r, .int .i64 l]) (by kernel_rfl) (by kernel_rfl) rfl rfl (by rfl); refine gM ?_; refine gO ?_; refine gB ?_)
 refine gc_loopK (σ := Nat) [11, 12, 13, 3, 4, 14, 15, 16, 17, 18, 19, 20, 21, 22, 2, 23, 10] (fun k => [(10, .int .i64 k)]) (fun k => k ≤ 2 ∧ (1 ≤ k → ¬ (r < 0 ∨ r > 100000)) ∧ (2 ≤ k → ¬ (l < 0 ∨ l > 1073741824))) (fun k => 2 - k) 0 ⟨by omega, by omega, by omega⟩ ⟨rfl, trivial⟩ ?_
 rintro k base ⟨hk, h1, h2⟩
 obtain rfl | rfl | rfl : k = 0 ∨ k = 1 ∨ k = 2 := by omega
 ·focus (refine gV ?_; refine gC ?_; refine gO ?_; refine gQ ?_; refine gc_if_dec rfl (fun _ => ?_) (fun _ => ?_); refine gK ?_; refine gX ?_; refine gQ ?_; refine gB ?_; refine gV ?_; refine gM ?_; apply gw_d; exact w_aidx (n := 2) (el := 3) (m := 0) (v := .int .i64 r) (by kernel_rfl) (by kernel_rfl) (by kernel_rfl) rfl rfl rfl rfl rfl (by decide) rfl; (iterate 2 refine gM ?_); refine gN ?_; refine gM ?_; refine gC ?_; refine gM ?_; refine gD (fun _ => ?_) (fun _ => ?_); (iterate 5 refine gU ?_); refine gPp ?_; refine gO ?_; refine gc_if_true rfl ?_; refine gV ?_; refine gM ?_; refine gO ?_; refine gR ?_; refine gY ?_; (iterate 2 refine gT ?_); refine gY ?_; refine gT ?_; rotate_left; (iterate 2 refine gM ?_); apply gw_d; exact w_index_arr (m := 0) rfl rfl rfl rfl rfl (by decide); apply gw_d; exact w_load_at rfl rfl rfl (by assumption) (by assumption); refine gC ?_; refine gPq ?_; refine gO ?_; refine gc_if_dec rfl (fun _ => ?_) (fun _ => ?_); refine gV ?_; refine gM ?_; refine gO ?_; refine gR ?_; refine gY ?_; (iterate 2 refine gT ?_); refine gY ?_; refine gT ?_; rotate_left; refine gK ?_; refine gH ?_; refine gX ?_; refine gG ?_; refine gA ?_; refine gM ?_; refine gw_nil ?_; rotate_left; refine gI ?_; (iterate 2 refine gZ ?_); refine gJ ?_; refine gX ?_; refine gV ?_; refine gM ?_; refine gO ?_; refine gR ?_; rotate_left)
  all_goals first | (exfalso; omega) | skip
  ·refine gi1 (fun _ _ => ?_)
   unfold tarE
   rw [if_pos (by omega)]
  ·refine gi1 (fun _ _ => ?_)
   unfold tarE
   rw [if_pos (by omega)]
  ·exact gx_round 1 ⟨by omega, by omega, by omega⟩ (by omega) kK ⟨rfl, trivial⟩ (Sub.all _)
 ·focus (refine gV ?_; refine gC ?_; refine gO ?_; refine gQ ?_; refine gc_if_dec rfl (fun _ => ?_) (fun _ => ?_); refine gK ?_; refine gX ?_; refine gQ ?_; refine gB ?_; refine gV ?_; refine gM ?_; apply gw_d; exact w_aidx (n := 2) (el := 3) (m := 1) (v := .int .i64 l) (by kernel_rfl) (by kernel_rfl) (by kernel_rfl) rfl rfl rfl rfl rfl (by decide) rfl; (iterate 2 refine gM ?_); refine gN ?_; refine gM ?_; refine gC ?_; refine gM ?_; refine gD (fun _ => ?_) (fun _ => ?_); (iterate 5 refine gU ?_); refine gPp ?_; refine gO ?_; refine gc_if_true rfl ?_; refine gV ?_; refine gM ?_; refine gO ?_; refine gR ?_; refine gY ?_; (iterate 2 refine gT ?_); refine gY ?_; refine gT ?_; rotate_left; (iterate 2 refine gM ?_); apply gw_d; exact w_index_arr (m := 1) rfl rfl rfl rfl rfl (by decide); apply gw_d; exact w_load_at rfl rfl rfl (by assumption) (by assumption); refine gC ?_; refine gPq ?_; refine gO ?_; refine gc_if_dec rfl (fun _ => ?_) (fun _ => ?_); refine gV ?_; refine gM ?_; refine gO ?_; refine gR ?_; refine gY ?_; (iterate 2 refine gT ?_); refine gY ?_; refine gT ?_; rotate_left; refine gK ?_; refine gH ?_; refine gX ?_; refine gG ?_; refine gA ?_; refine gM ?_; refine gw_nil ?_; rotate_left; refine gI ?_; (iterate 2 refine gZ ?_); refine gJ ?_; refine gX ?_; refine gV ?_; refine gM ?_; refine gO ?_; refine gR ?_; rotate_left)
  all_goals first | (exfalso; omega) | skip
  ·refine gi1 (fun _ _ => ?_)
   unfold tarE
   rw [if_pos (by omega)]
  ·refine gi1 (fun _ _ => ?_)
   unfold tarE
   rw [if_pos (by omega)]
  ·exact gx_round 2 ⟨by omega, by omega, by omega⟩ (by omega) kK ⟨rfl, trivial⟩ (Sub.all _)
 ·focus (refine gV ?_; refine gC ?_; refine gO ?_; refine gQ ?_; refine gc_if_dec rfl (fun _ => ?_) (fun _ => ?_); refine gK ?_; refine gX ?_; refine gQ ?_; refine gB ?_; refine gV ?_; refine gM ?_; rotate_left; refine gI ?_; (iterate 2 refine gZ ?_); refine gJ ?_; refine gX ?_; refine gV ?_; refine gM ?_; refine gO ?_; refine gR ?_; rotate_left)
  all_goals first | (exfalso; omega) | skip
  refine gi1 (fun _ _ => ?_)
  unfold tarE
  rw [if_neg (by omega)]
def amtE (r l m c : Int) : Int := if ¬ tarE r l = 0 then tarE r l else if (m < 0 ∨ m > 10000) ∨ (c < 0 ∨ c > 1000) then 3 else 0
def amtV (r l m c : Int) : Int := if amtE r l m c = 0 then (m * c * r + 5000) / 10000 else 0
theorem tar_zero {r l : Int} (h : tarE r l = 0) : (0 ≤ r ∧ r ≤ 100000) ∧ (0 ≤ l ∧ l ≤ 1073741824) := by
 unfold tarE at h
 split at h
 ·cases h
 ·omega
theorem amt_zero {r l m c : Int} (h : amtE r l m c = 0) : tarE r l = 0 ∧ (0 ≤ m ∧ m ≤ 10000) ∧ (0 ≤ c ∧ c ≤ 1000) := by
 unfold amtE at h
 split at h
 ·rename_i h1; exact absurd h h1
 ·rename_i h1
  split at h
  ·cases h
  ·exact ⟨by simpa using h1, by omega⟩
theorem mul_le {a b A B : Int} (ha : 0 ≤ a) (hA : a ≤ A) (hb : 0 ≤ b) (hB : b ≤ B) : 0 ≤ a * b ∧ a * b ≤ A * B := ⟨Int.mul_nonneg ha hb, Int.le_trans (Int.mul_le_mul_of_nonneg_right hA hb) (Int.mul_le_mul_of_nonneg_left hB (by omega))⟩
theorem amt_range {r l m c : Int} (h : amtE r l m c = 0) : (0 ≤ m * c ∧ m * c ≤ 10000000) ∧ (0 ≤ m * c * r ∧ m * c * r ≤ 1000000000000) := by
 obtain ⟨h1, h2, h3⟩ := amt_zero h
 obtain ⟨h4, _⟩ := tar_zero h1
 have a := mul_le h2.1 h2.2 h3.1 h3.2
 have b := mul_le a.1 a.2 h4.1 h4.2
 exact ⟨by omega, by omega⟩
theorem wAmount_ok (w : World) (r l m c : Int) (hL : Lay w) : Ok Tryz.prog 11 [tarV r l, .int .i64 m, .int .i64 c].toArray w fun x _ => x = .tuple #[.int .i64 (amtV r l m c), .int .i64 (amtE r l m c)] := by
 have hC : ∀ (L : List Res) (w' : World), St w L w' → Ok Tryz.prog 9 [tarV r l].toArray w' fun x _ => x = .int .i64 (tarE r l) := fun L w' s => wCheck_ok w' r l (hL.later s)
 by_cases he : amtE r l m c = 0
 ·obtain ⟨h1, h2, h3⟩ := amt_zero he
  obtain ⟨r1, r2⟩ := amt_range he
  rw [h1] at hC
  unfold amtV
  rw [if_pos he, he]
  unfold tarV at hC ⊢
  refine ok_enter Tryz.func11 rfl Tryz.ntmps11 rfl ?_
  focus (refine gV ?_; refine gw_boxd (v := .agg _) rfl rfl (fun _ => ?_); (iterate 2 refine gM ?_); refine gO ?_; refine gQ ?_; refine gV ?_; apply gw_d; exact w_load_boxN rfl rfl rfl .here rfl; apply gw_d; exact w_call rfl rfl (hC _) rfl; refine gM ?_; refine gN ?_; refine gM ?_; refine gC ?_; refine gO ?_; refine gc_if_dec rfl (fun _ => ?_) (fun _ => ?_); refine gV ?_; (iterate 3 refine gM ?_); refine gO ?_; refine gR ?_; refine gT ?_; rotate_left; refine gK ?_; refine gX ?_; refine gQ ?_; refine gV ?_; refine gM ?_; refine gC ?_; refine gM ?_; refine gD (fun _ => ?_) (fun _ => ?_); (iterate 2 refine gU ?_); refine gPp ?_; refine gM ?_; (iterate 2 refine gU ?_); refine gPp ?_; refine gM ?_; (iterate 2 refine gU ?_); refine gPp ?_; refine gO ?_; refine gc_if_true rfl ?_; refine gV ?_; (iterate 2 refine gM ?_); refine gO ?_; refine gR ?_; refine gT ?_; rotate_left; refine gM ?_; refine gC ?_; refine gPq ?_; refine gM ?_; refine gD (fun _ => ?_) (fun _ => ?_); (iterate 2 refine gU ?_); refine gPp ?_; refine gM ?_; (iterate 2 refine gU ?_); refine gPp ?_; refine gO ?_; refine gc_if_true rfl ?_; refine gV ?_; (iterate 2 refine gM ?_); refine gO ?_; refine gR ?_; refine gT ?_; rotate_left; refine gM ?_; refine gC ?_; refine gPq ?_; refine gM ?_; refine gD (fun _ => ?_) (fun _ => ?_); (iterate 2 refine gU ?_); refine gPp ?_; refine gO ?_; refine gc_if_true rfl ?_; refine gV ?_; (iterate 2 refine gM ?_); refine gO ?_; refine gR ?_; refine gT ?_; rotate_left; refine gM ?_; refine gC ?_; refine gPq ?_; refine gO ?_; refine gc_if_dec rfl (fun _ => ?_) (fun _ => ?_); refine gV ?_; (iterate 2 refine gM ?_); refine gO ?_; refine gR ?_; refine gT ?_; rotate_left; refine gK ?_; refine gX ?_; refine gV ?_; (iterate 2 refine gM ?_); refine gA ?_; refine gF ?_; refine gW .here ?_; refine gA ?_; refine gA ?_; apply gw_d; exact det_quo rfl rfl rfl rfl (by omega) (by omega) (by omega); (iterate 2 refine gM ?_); refine gO ?_; refine gR ?_; rotate_left)
  all_goals first | (exfalso; omega) | skip
  refine gx_ret2 (u := .int _ _) (v := .int _ _) rfl rfl rfl (fun _ _ => ?_)
  rfl
 ·unfold amtV
  rw [if_neg he]
  by_cases h1 : tarE r l = 0
  ·have hE : amtE r l m c = 3 ∧ ((m < 0 ∨ m > 10000) ∨ (c < 0 ∨ c > 1000)) := by
    unfold amtE at he ⊢
    rw [if_neg (by rw [h1]; decide)] at he ⊢
    split
    ·rename_i h2; exact ⟨rfl, h2⟩
    ·rename_i h2; rw [if_neg h2] at he; exact absurd rfl he
   rw [hE.1]
   have h2 := hE.2
   rw [h1] at hC
   unfold tarV at hC ⊢
   refine ok_enter Tryz.func11 rfl Tryz.ntmps11 rfl ?_
   focus (refine gV ?_; refine gw_boxd (v := .agg _) rfl rfl (fun _ => ?_); (iterate 2 refine gM ?_); refine gO ?_; refine gQ ?_; refine gV ?_; apply gw_d; exact w_load_boxN rfl rfl rfl .here rfl; apply gw_d; exact w_call rfl rfl (hC _) rfl; refine gM ?_; refine gN ?_; refine gM ?_; refine gC ?_; refine gO ?_; refine gc_if_dec rfl (fun _ => ?_) (fun _ => ?_); refine gV ?_; (iterate 3 refine gM ?_); refine gO ?_; refine gR ?_; refine gT ?_; rotate_left; refine gK ?_; refine gX ?_; refine gQ ?_; refine gV ?_; refine gM ?_; refine gC ?_; refine gM ?_; refine gD (fun _ => ?_) (fun _ => ?_); (iterate 2 refine gU ?_); refine gPp ?_; refine gM ?_; (iterate 2 refine gU ?_); refine gPp ?_; refine gM ?_; (iterate 2 refine gU ?_); refine gPp ?_; refine gO ?_; refine gc_if_true rfl ?_; refine gV ?_; (iterate 2 refine gM ?_); refine gO ?_; refine gR ?_; refine gT ?_; rotate_left; refine gM ?_; refine gC ?_; refine gPq ?_; refine gM ?_; refine gD (fun _ => ?_) (fun _ => ?_); (iterate 2 refine gU ?_); refine gPp ?_; refine gM ?_; (iterate 2 refine gU ?_); refine gPp ?_; refine gO ?_; refine gc_if_true rfl ?_; refine gV ?_; (iterate 2 refine gM ?_); refine gO ?_; refine gR ?_; refine gT ?_; rotate_left; refine gM ?_; refine gC ?_; refine gPq ?_; refine gM ?_; refine gD (fun _ => ?_) (fun _ => ?_); (iterate 2 refine gU ?_); refine gPp ?_; refine gO ?_; refine gc_if_true rfl ?_; refine gV ?_; (iterate 2 refine gM ?_); refine gO ?_; refine gR ?_; refine gT ?_; rotate_left; refine gM ?_; refine gC ?_; refine gPq ?_; refine gO ?_; refine gc_if_dec rfl (fun _ => ?_) (fun _ => ?_); refine gV ?_; (iterate 2 refine gM ?_); refine gO ?_; refine gR ?_; refine gT ?_; rotate_left; refine gK ?_; refine gX ?_; refine gV ?_; (iterate 2 refine gM ?_); refine gA ?_; refine gF ?_; refine gW .here ?_; refine gA ?_; refine gA ?_; apply gw_d; exact det_quo rfl rfl rfl rfl (by omega) (by omega) (by omega); (iterate 2 refine gM ?_); refine gO ?_; refine gR ?_; rotate_left)
   all_goals first | (exfalso; omega) | skip
   all_goals (refine gx_ret2 (u := .int _ _) (v := .int _ _) rfl rfl rfl (fun _ _ => ?_); rfl)
  ·have hE : amtE r l m c = tarE r l := by
    unfold amtE
    rw [if_pos h1]
   rw [hE]
   unfold tarV at hC ⊢
   refine ok_enter Tryz.func11 rfl Tryz.ntmps11 rfl ?_
   (refine gV ?_; refine gw_boxd (v := .agg _) rfl rfl (fun _ => ?_); (iterate 2 refine gM ?_); refine gO ?_; refine gQ ?_; refine gV ?_; apply gw_d; exact w_load_boxN rfl rfl rfl .here rfl; apply gw_d; exact w_call rfl rfl (hC _) rfl; refine gM ?_; refine gN ?_; refine gM ?_; refine gC ?_; refine gO ?_)
   refine gc_if_dec rfl (fun _ => ?_) (fun h => absurd h1 h)
   (refine gV ?_; (iterate 3 refine gM ?_); refine gO ?_; refine gR ?_; refine gT ?_)
   refine gx_ret2 (u := .int _ _) (v := .int _ _) rfl rfl rfl (fun _ _ => ?_)
   rfl
def moneyB (n : Int) : Bool := decide (0 ≤ n) && decide (n ≤ 1099511627776)
theorem money_iff {n : Int} : moneyB n = true ↔ 0 ≤ n ∧ n ≤ 1099511627776 := by unfold moneyB; simp
theorem inRange_ok (w : World) (n : Int) : Ok Tryz.prog 44 [.int .i64 n].toArray w fun x _ => x = .bool (moneyB n) := by
 refine ok_enter Tryz.func44 rfl Tryz.ntmps44 rfl ?_
 focus (refine gV ?_; refine gM ?_; refine gN ?_; refine gM ?_; refine gC ?_; refine gM ?_; refine gD (fun _ => ?_) (fun _ => ?_); refine gM ?_; refine gC ?_; refine gPp ?_; refine gM ?_; refine gO ?_; refine gR ?_; rotate_left; (iterate 2 refine gU ?_); refine gPq ?_; refine gM ?_; refine gO ?_; refine gR ?_; rotate_left)
 ·refine gb1 (fun _ _ => ?_)
  unfold moneyB
  rename_i h
  rw [decide_eq_true (show 0 ≤ n by omega)]
  rfl
 ·refine gb1 (fun _ _ => ?_)
  unfold moneyB
  rename_i h
  rw [decide_eq_false (show ¬ 0 ≤ n by omega)]
  rfl
theorem Sl.pay {w : World} {B : Nat} {v : Value} {l : List Pay} (h : Sl rPay w B v l) : ∃ A c, v = .slice A l.length c ∧ l.length ≤ c ∧ l.length ≤ 9223372036854775807 ∧
  ∀ k (hk : k < l.length), ∃ ad, A = some ad ∧ ad.block < B ∧ (∀ j u, [Value.int .i64 l[k].who, .int .i64 l[k].work, .int .i64 l[k].top][j]? = some u → w.cell? (ad.add (k * 3 + j)) = some u) ∧ inI64 l[k].who ∧ inI64 l[k].work ∧ inI64 l[k].top := by
 obtain ⟨A, c, hv, h1, h2, h3⟩ := h
 refine ⟨A, c, hv, h1, by unfold maxLen at h2; omega, fun k hk => ?_⟩
 obtain ⟨ad, cs, ha, hlt, hc, hr⟩ := h3 k hk
 obtain ⟨rfl, hr⟩ := hr
 exact ⟨ad, ha, hlt, hc, hr⟩
def sumI (l : List Int) : Int := l.foldl (· + ·) 0
section
variable {w : World} {v0 v1 v2 v3 v4 v5 v6 vb vw vx : Value} {e : Int} {l : List Opn} {bs : List Bun} {ws : List Wrk} {xs : List Scn} (hO : ∀ (L : List Res) (w' : World), St w L w' → Ok Tryz.prog 63 [.agg #[v0, v1, v2, v3, v4, v5, v6]].toArray w' fun x _ => x = .int .i64 e)
include hO
def judgeAllE (e : Int) (bs : List Bun) (ws : List Wrk) (n : Nat) : Int := if ¬ scanE e bs ws = 0 then scanE e bs ws else if n > 300 then 5 else 0
theorem hO_later {L : List Res} {w' : World} (s : St w L w') : ∀ (L : List Res) (w2 : World), St w' L w2 → Ok Tryz.prog 63 [.agg #[v0, v1, v2, v3, v4, v5, v6]].toArray w2 fun x _ => x = .int .i64 e := fun _ w2 s2 => hO [] w2 ⟨s.below.trans (Below.mono s2.below s.below.size), trivial⟩
theorem Judge_bad (hb : Sl rBun w w.heap.size vb bs) (hw : Sl rWrk w w.heap.size vw ws) (hx : Sl rScn w w.heap.size vx xs) (he : ¬ judgeAllE e bs ws xs.length = 0) : Ok Tryz.prog 26 [.agg #[v0, v1, v2, v3, v4, v5, v6], vb, vw, vx].toArray w fun x _ => x = .tuple #[.slice none 0 0, .int .i64 (judgeAllE e bs ws xs.length)] := by
 have hJ : ∀ (L : List Res) (w' : World), St w L w' → Ok Tryz.prog 43 [.agg #[v0, v1, v2, v3, v4, v5, v6], vb, vw, vx].toArray w' fun x _ => x = .tuple #[.slice none 0 0, .map none, .int .i64 (judgeAllE e bs ws xs.length)] := fun L w' s => by
  by_cases h1 : scanE e bs ws = 0
  ·by_cases h2 : xs.length > 300
   ·have := judgeAll_long w' v0 v1 v2 v3 v4 v5 v6 vb vw vx e bs ws xs (hO_later hO s) (hb.later s) (hw.later s) (hx.later s) h1 h2
    have hE : judgeAllE e bs ws xs.length = 5 := by unfold judgeAllE; rw [if_neg (by rw [h1]; decide), if_pos h2]
    rw [hE]
    exact this
   ·exact absurd (by unfold judgeAllE; rw [if_neg (by rw [h1]; decide), if_neg h2]) he
  ·have := judgeAll_bad w' v0 v1 v2 v3 v4 v5 v6 vb vw vx e bs ws (hO_later hO s) (hb.later s) (hw.later s) h1
   have hE : judgeAllE e bs ws xs.length = scanE e bs ws := by unfold judgeAllE; rw [if_pos h1]
   rw [hE]
   exact this
 refine ok_enter Tryz.func26 rfl Tryz.ntmps26 rfl ?_
 (refine gV ?_; refine gw_boxd (v := .agg _) rfl rfl (fun _ => ?_); (iterate 2 refine gM ?_); refine gN ?_; apply gw_d; exact w_load_boxN rfl rfl rfl .here rfl; (iterate 3 refine gM ?_); apply gw_d; exact w_call rfl rfl (hJ _) rfl; refine gM ?_; apply gw_d; exact det_extract rfl rfl rfl (by conv => (lhs; whnf)); apply gw_d; exact det_extract rfl rfl rfl (by conv => (lhs; whnf)); apply gw_d; exact det_extract rfl rfl rfl (by conv => (lhs; whnf)); (iterate 3 refine gM ?_); refine gN ?_; (iterate 4 refine gM ?_); refine gO ?_; refine gR ?_)
 refine gx_ret2 (u := .slice _ _ _) (v := .int _ _) rfl rfl rfl (fun _ _ => ?_)
 rfl
theorem Judge_ok (hl : Sl rOp w w.heap.size v6 l) (hb : Sl rBun w w.heap.size vb bs) (hw : Sl rWrk w w.heap.size vw ws) (hx : Sl rScn w w.heap.size vx xs) (hS : Small l) (he : judgeAllE e bs ws xs.length = 0) :
  OkM Tryz.prog 26 [.agg #[v0, v1, v2, v3, v4, v5, v6], vb, vw, vx].toArray w (fun x : Nat => .tuple #[.slice (some ⟨x, 0, none⟩) xs.length xs.length, .int .i64 0]) (fun x => [Box x 3 ((outs l ws (ticks bs) [] xs).map (Value.int .i64)).toArray]) := by
 have h1 : scanE e bs ws = 0 := by
  unfold judgeAllE at he
  split at he
  ·rename_i h; exact absurd he h
  ·rename_i h; simpa using h
 have h2 : ¬ xs.length > 300 := fun h => by
  unfold judgeAllE at he
  rw [if_neg (by rw [h1]; decide), if_pos h] at he
  cases he
 unfold OkM
 refine ok_enter Tryz.func26 rfl Tryz.ntmps26 rfl ?_
 (refine gV ?_; refine gw_boxd (v := .agg _) rfl rfl (fun _ => ?_); (iterate 2 refine gM ?_); refine gN ?_; apply gw_d; exact w_load_boxN rfl rfl rfl .here rfl; (iterate 3 refine gM ?_))
 refine gw_callm rfl (fun w' s => judgeAll_ok w' v0 v1 v2 v3 v4 v5 v6 vb vw vx e l bs ws xs (hO_later hO s) (hl.later s) (hb.later s) (hw.later s) (hx.later s) hS h1 h2) rfl (fun x => ?_)
 (refine gM ?_; apply gw_d; exact det_extract rfl rfl rfl (by conv => (lhs; whnf)); apply gw_d; exact det_extract rfl rfl rfl (by conv => (lhs; whnf)); apply gw_d; exact det_extract rfl rfl rfl (by conv => (lhs; whnf)); (iterate 3 refine gM ?_); refine gN ?_; (iterate 4 refine gM ?_); refine gO ?_; refine gR ?_)
 exact gx_ret2 (u := .slice _ _ _) (v := .int _ _) rfl rfl rfl (fun w' s => ⟨x.1, rfl, (St.sub (K := [Box x.1 3 ((outs l ws (ticks bs) [] xs).map (Value.int .i64)).toArray]) (.cons .here .nil) s).sep⟩)
end
def minAt (l : List Opn) (o : Int) : Int := ((l[o.toNat]?).map (·.minutes)).getD 0
def cntAt (bs : List Bun) (t : Int) : Int := ((bs.find? fun b => decide (b.tick = t)).map fun b => b.upto - b.fr).getD 0
theorem outs_at' {l : List Opn} {ws : List Wrk} {tk : List Int} : ∀ {xs ps : List Scn} {i : Nat} (hi : i < xs.length), (outs l ws tk ps xs).getD i 0 = outE l ws tk ((xs.take i).foldl (nextP l ws tk) ps) xs[i]
 | x :: xs, ps, 0, _ => rfl
 | x :: xs, ps, i + 1, hi => by
  show (outs l ws tk (nextP l ws tk ps x) xs).getD i 0 = _
  rw [outs_at' (by simpa using hi)]
  rfl
theorem outs_at {l : List Opn} {ws : List Wrk} {tk : List Int} {xs : List Scn} {i : Nat} (hi : i < xs.length) : (outs l ws tk [] xs).getD i 0 = outE l ws tk (paidL l ws tk (xs.take i)) xs[i] := outs_at' hi
theorem next_len (l : List Opn) (ws : List Wrk) (tk : List Int) (ps : List Scn) (x : Scn) : (nextP l ws tk ps x).length ≤ ps.length + 1 := by
 unfold nextP
 split <;> simp
theorem paid_len' (l : List Opn) (ws : List Wrk) (tk : List Int) : ∀ (xs ps : List Scn), (xs.foldl (nextP l ws tk) ps).length ≤ ps.length + xs.length
 | [], ps => by simp
 | x :: xs, ps => by
  have h1 := paid_len' l ws tk xs (nextP l ws tk ps x)
  have h2 := next_len l ws tk ps x
  simp only [List.foldl_cons, List.length_cons]
  omega
theorem paidL_len (l : List Opn) (ws : List Wrk) (tk : List Int) (xs : List Scn) : (paidL l ws tk xs).length ≤ xs.length := by
 have := paid_len' l ws tk xs []
 unfold paidL
 simpa using this
theorem amtV_range (r l m c : Int) : 0 ≤ amtV r l m c ∧ amtV r l m c ≤ 1000000000 := by
 unfold amtV
 split
 ·rename_i h
  have := (amt_range h).2
  omega
 ·omega
/-! ### Pays -/
section
variable {l : List Opn} {ws : List Wrk} {tk : List Int}
theorem paid_mem {xs : List Scn} {y : Scn} (h : y ∈ paidL l ws tk xs) : y ∈ xs := by
 have : ∀ (xs ps : List Scn), y ∈ xs.foldl (nextP l ws tk) ps → y ∈ ps ∨ y ∈ xs := by
  intro xs
  induction xs with
  | nil => intro ps h; exact .inl h
  | cons x xs ih =>
   intro ps h
   rcases ih _ h with h | h
   ·unfold nextP at h
    split at h
    ·rcases List.mem_append.1 h with h | h
     ·exact .inl h
     ·rw [List.mem_singleton] at h; exact .inr (by rw [h]; exact List.mem_cons_self)
    ·exact .inl h
   ·exact .inr (List.mem_cons_of_mem _ h)
 rcases this xs [] h with h | h
 ·cases h
 ·exact h
end

theorem sumI_from (l : List Int) : ∀ a : Int, l.foldl (· + ·) a = a + sumI l := by
 unfold sumI
 induction l with
 | nil => intro a; simp
 | cons x l ih =>
  intro a
  rw [List.foldl_cons, List.foldl_cons, ih (a + x), ih (0 + x)]
  omega
theorem sumI_cons (x : Int) (l : List Int) : sumI (x :: l) = x + sumI l := by
 show (x :: l).foldl (· + ·) 0 = _
 rw [List.foldl_cons, sumI_from]
 omega
theorem sumI_append (a b : List Int) : sumI (a ++ b) = sumI a + sumI b := by
 show (a ++ b).foldl (· + ·) 0 = _
 rw [List.foldl_append, sumI_from]
 rfl
theorem sumI_nonneg : ∀ {l : List Int}, (∀ x ∈ l, 0 ≤ x) → 0 ≤ sumI l
 | [], _ => Int.le_refl _
 | x :: l, h => by
  rw [sumI_cons]
  have h1 := h x List.mem_cons_self
  have h2 := sumI_nonneg fun y hy => h y (List.mem_cons_of_mem _ hy)
  omega
/-! ### What Pays gives -/
def encX (x : Scn) : List Value := [.int .i64 x.tick, .int .i64 x.op, .int .i64 x.who, .int .i64 x.time]
section
variable {w : World} {v0 v1 v2 v3 v4 v5 v6 vb vw vx : Value} {e : Int} {l : List Opn} {bs : List Bun} {ws : List Wrk} {xs : List Scn} (hO : ∀ (L : List Res) (w' : World), St w L w' → Ok Tryz.prog 63 [.agg #[v0, v1, v2, v3, v4, v5, v6]].toArray w' fun x _ => x = .int .i64 e)
include hO
theorem Paid_bad (hb : Sl rBun w w.heap.size vb bs) (hw : Sl rWrk w w.heap.size vw ws) (hx : Sl rScn w w.heap.size vx xs) (he : ¬ judgeAllE e bs ws xs.length = 0) : Ok Tryz.prog 8 [.agg #[v0, v1, v2, v3, v4, v5, v6], vb, vw, vx].toArray w fun x _ => x = .tuple #[.slice none 0 0, .int .i64 (judgeAllE e bs ws xs.length)] := by
 have hJ : ∀ (L : List Res) (w' : World), St w L w' → Ok Tryz.prog 26 [.agg #[v0, v1, v2, v3, v4, v5, v6], vb, vw, vx].toArray w' fun x _ => x = .tuple #[.slice none 0 0, .int .i64 (judgeAllE e bs ws xs.length)] := fun L w' s => Judge_bad (hO_later hO s) (hb.later s) (hw.later s) (hx.later s) he
 refine ok_enter Tryz.func8 rfl Tryz.ntmps8 rfl ?_
 (refine gV ?_; refine gw_boxd (v := .agg _) rfl rfl (fun _ => ?_); (iterate 2 refine gM ?_); refine gN ?_; apply gw_d; exact w_load_boxN rfl rfl rfl .here rfl; (iterate 3 refine gM ?_); apply gw_d; exact w_call rfl rfl (hJ _) rfl; refine gM ?_; apply gw_d; exact det_extract rfl rfl rfl (by conv => (lhs; whnf)); apply gw_d; exact det_extract rfl rfl rfl (by conv => (lhs; whnf)); (iterate 2 refine gM ?_); refine gO ?_; refine gQ ?_; refine gV ?_; refine gM ?_; refine gC ?_; refine gO ?_)
 refine gc_if_dec rfl (fun _ => ?_) (fun h => absurd he h)
 (refine gV ?_; (iterate 3 refine gM ?_); refine gO ?_; refine gR ?_; refine gT ?_)
 refine gx_ret2 (u := .slice _ _ _) (v := .int _ _) rfl rfl rfl (fun _ _ => ?_)
 rfl
theorem Paid_ok (hl : Sl rOp w w.heap.size v6 l) (hb : Sl rBun w w.heap.size vb bs) (hw : Sl rWrk w w.heap.size vw ws) (hx : Sl rScn w w.heap.size vx xs) (hS : Small l) (he : judgeAllE e bs ws xs.length = 0) :
  OkM Tryz.prog 8 [.agg #[v0, v1, v2, v3, v4, v5, v6], vb, vw, vx].toArray w (fun x : Option Addr × Nat => .tuple #[.slice x.1 (paidL l ws (ticks bs) xs).length x.2, .int .i64 0]) (fun x => [Own x.1 (paidL l ws (ticks bs) xs).length x.2 51 4 ((paidL l ws (ticks bs) xs).flatMap encX)]) := by
 have hJ : ∀ (L : List Res) (w' : World), St w L w' → OkM Tryz.prog 26 [.agg #[v0, v1, v2, v3, v4, v5, v6], vb, vw, vx].toArray w' (fun x : Nat => .tuple #[.slice (some ⟨x, 0, none⟩) xs.length xs.length, .int .i64 0]) (fun x => [Box x 3 ((outs l ws (ticks bs) [] xs).map (Value.int .i64)).toArray]) := fun L w' s => Judge_ok (hO_later hO s) (hl.later s) (hb.later s) (hw.later s) (hx.later s) hS he
 have h300 : xs.length ≤ 300 := by
  unfold judgeAllE at he
  split at he
  ·rename_i h; exact absurd he h
  ·split at he
   ·cases he
   ·omega
 have hol := outs_len l ws (ticks bs) xs []
 have hoa : ∀ k (hk : k < xs.length), (outs l ws (ticks bs) [] xs).getD k 0 = outE l ws (ticks bs) (paidL l ws (ticks bs) (xs.take k)) xs[k] := fun k hk => outs_at hk
 obtain ⟨A0, c0, rfl, hxc, hxm, hxcell⟩ := hx.scn
 generalize hos : outs l ws (ticks bs) [] xs = os at hJ hol hoa
 unfold OkM
 refine ok_enter Tryz.func8 rfl Tryz.ntmps8 rfl ?_
 (refine gV ?_; refine gw_boxd (v := .agg _) rfl rfl (fun _ => ?_); (iterate 2 refine gM ?_); refine gN ?_; apply gw_d; exact w_load_boxN rfl rfl rfl .here rfl; (iterate 3 refine gM ?_))
 refine gw_callm rfl (hJ _) rfl (fun g => ?_)
 (refine gM ?_; apply gw_d; exact det_extract rfl rfl rfl (by conv => (lhs; whnf)); apply gw_d; exact det_extract rfl rfl rfl (by conv => (lhs; whnf)); (iterate 2 refine gM ?_); refine gO ?_; refine gQ ?_; refine gV ?_; refine gM ?_; refine gC ?_; refine gO ?_)
 refine gc_if_dec rfl (fun h => absurd rfl h) (fun _ => ?_)
 (refine gK ?_; refine gX ?_; refine gV ?_; refine gM ?_; refine gO ?_; refine gQ ?_; refine gV ?_; refine gM ?_; refine gL ?_; refine gM ?_; refine gO ?_; refine gB ?_)
 refine gc_own0 51 4 ?_
 refine gc_loop (σ := Nat × Option Addr × Nat) [29, 30, 31, 32, 14, 13, 33, 34, 35, 36, 37, 38, 39, 40, 41, 12, 42, 28] (fun s => [(28, .int .i64 s.1), (12, .slice s.2.1 (paidL l ws (ticks bs) (xs.take s.1)).length s.2.2)]) (fun s => [Own s.2.1 (paidL l ws (ticks bs) (xs.take s.1)).length s.2.2 51 4 ((paidL l ws (ticks bs) (xs.take s.1)).flatMap encX), Box g 3 (os.map (Value.int .i64)).toArray]) (fun s => s.1 ≤ xs.length) (fun s => xs.length - s.1) (0, none, 0) (Nat.zero_le _) ⟨rfl, rfl, trivial⟩ (.cons .here (.cons .here .nil)) ?_
 rintro ⟨k, A, c⟩ base hk
 dsimp only at hk ⊢
 (refine gV ?_; refine gC ?_; refine gO ?_; refine gQ ?_)
 refine gc_if_dec rfl (fun h => ?_) (fun h => ?_)
 ·have hlt : k < xs.length := by omega
  obtain ⟨ad, rfl, hb1, hce, _⟩ := hxcell k hlt
  have hpc : (os.map (Value.int .i64)).toArray[k * 1]? = some (.int .i64 (os.getD k 0)) := row_get (Value.int .i64) 0 (by omega)
  have hsn : paidL l ws (ticks bs) (xs.take (k + 1)) = nextP l ws (ticks bs) (paidL l ws (ticks bs) (xs.take k)) xs[k] := by rw [List.take_succ_eq_append_getElem hlt, paidL_snoc]
  have hpl := paidL_len l ws (ticks bs) (xs.take k)
  rw [List.length_take] at hpl
  rw [hoa k hlt] at hpc
  unfold nextP at hsn
  generalize paidL l ws (ticks bs) (xs.take k) = ps at hpc hsn hpl ⊢
  (refine gK ?_; refine gX ?_; refine gQ ?_; refine gB ?_; refine gV ?_; refine gM ?_; apply gw_d; exact w_index rfl rfl rfl rfl (by with_reducible exact rfl) (by omega); apply gw_d; exact w_load_elem rfl rfl rfl (by assumption) (by assumption) (by rfl); refine w_alloc rfl (fun _ => ?_); refine gM ?_; refine w_store_all rfl rfl rfl rfl rfl .here rfl ?_; refine gN ?_; (iterate 2 refine gM ?_); apply gw_d; exact w_index rfl rfl rfl rfl (by with_reducible exact rfl) (by omega); apply gw_d; exact w_load_row rfl rfl rfl (.there (.there .here)) hpc; refine gC ?_; refine gO ?_)
  refine gc_if_dec rfl (fun h2 => ?_) (fun h2 => ?_)
  ·rw [if_pos h2] at hsn
   (refine gG ?_; refine gM ?_; apply gw_d; exact w_load_boxN rfl rfl rfl .here rfl)
   refine gw_bslice1 (v := .agg #[.int .i64 xs[k].tick, .int .i64 xs[k].op, .int .i64 xs[k].who, .int .i64 xs[k].time]) rfl rfl rfl rfl rfl (fun bb => ?_)
   refine gw_append (news := encX xs[k]) rfl rfl rfl (.there (.there .here)) rfl (fun w' s _ => ?_) (fun u hu => ?_) (by unfold maxLen; omega) (by omega) (by decide) rfl (fun A3 c3 => ?_)
   ·refine ⟨⟨bb, 0, none⟩, rfl, fun i u hu => ?_⟩
    rw [add_zero]
    refine (Box.cell s.head i).trans ?_
    change (#[Value.int .i64 xs[k].tick, .int .i64 xs[k].op, .int .i64 xs[k].who, .int .i64 xs[k].time] : Array Value)[i]? = some u
    rw [List.getElem?_toArray]
    exact hu
   ·unfold encX at hu
    simp only [List.mem_cons, List.not_mem_nil, or_false] at hu
    rcases hu with rfl | rfl | rfl | rfl <;> rfl
   ·(refine gM ?_; refine gw_nil ?_; refine gH ?_; refine gX ?_; refine gG ?_; refine gA ?_; refine gM ?_; refine gw_nil ?_)
    refine gx_round (k + 1, A3, c3) hlt (by dsimp only; omega) kK ⟨rfl, by rw [hsn, List.length_append]; rfl, trivial⟩ ?_
    dsimp only
    rw [hsn, List.length_append, List.flatMap_append]
    exact .cons .here (.cons (.there (.there .here)) .nil)
  ·rw [if_neg h2] at hsn
   (refine gK ?_; refine gH ?_; refine gX ?_; refine gG ?_; refine gA ?_; refine gM ?_; refine gw_nil ?_)
   refine gx_round (k + 1, A, c) hlt (by dsimp only; omega) kK ⟨rfl, by rw [hsn]; rfl, trivial⟩ ?_
   dsimp only
   rw [hsn]
   exact .cons (.there .here) (.cons (.there .here) .nil)
 ·obtain rfl : k = xs.length := by omega
  rw [List.take_length]
  (refine gI ?_; (iterate 2 refine gZ ?_); refine gJ ?_; refine gX ?_; refine gV ?_; (iterate 3 refine gM ?_); refine gO ?_; refine gR ?_)
  exact gx_ret2 (u := .slice _ _ _) (v := .int _ _) rfl rfl rfl (fun w' s => ⟨(A, c), rfl, (St.sub (K := [Own A (paidL l ws (ticks bs) xs).length c 51 4 ((paidL l ws (ticks bs) xs).flatMap encX)]) (.cons .here .nil) s).sep⟩)
end
section
variable {w : World} {v0 v1 v2 v3 v4 v5 v6 vb vw vx : Value} {e r le : Int} {l : List Opn} {bs : List Bun} {ws : List Wrk} {xs : List Scn} (hO : ∀ (L : List Res) (w' : World), St w L w' → Ok Tryz.prog 63 [.agg #[v0, v1, v2, v3, v4, v5, v6]].toArray w' fun x _ => x = .int .i64 e) (hL : Lay w)
include hO hL
end
def shE (a p : Int) : Int := if moneyB a = false ∨ p < 1 ∨ p > 40 then 3 else 0
def shF (a : Int) (n i : Nat) : Int := if (i : Int) < a % n then a / n + 1 else a / n
def shL (a : Int) (n : Nat) : List Int := (List.range n).map (shF a n)
def shP (a : Int) (n k : Nat) : List Int := (List.range n).map fun i => if i < k then shF a n i else 0
theorem shL_len (a : Int) (n : Nat) : (shL a n).length = n := by simp [shL]
theorem shP_len (a : Int) (n k : Nat) : (shP a n k).length = n := by simp [shP]
theorem shP_zero (a : Int) (n : Nat) : shP a n 0 = List.replicate n 0 := by
 apply List.ext_getElem <;> simp [shP]
theorem shP_full (a : Int) (n : Nat) : shP a n n = shL a n := by
 apply List.ext_getElem
 ·simp [shP, shL]
 ·intro i h1 h2
  simp only [shP, List.length_map, List.length_range] at h1
  simp [shP, shL, h1]
theorem shP_set (a : Int) {n k : Nat} (_hk : k < n) (v : Int) : (shP a n k).set k v = (List.range n).map fun i => if i < k then shF a n i else if i = k then v else 0 := by
 apply List.ext_getElem
 ·simp [shP]
 ·intro i h1 h2
  simp only [shP, List.length_set, List.length_map, List.length_range] at h1
  simp only [shP, List.getElem_set, List.getElem_map, List.getElem_range]
  by_cases h : k = i
  ·subst h; simp
  ·have : ¬ i = k := fun h' => h h'.symm
   simp [h, this]
theorem shP_next (a : Int) {n k : Nat} (hk : k < n) : (shP a n k).set k (shF a n k) = shP a n (k + 1) := by
 rw [shP_set a hk]
 unfold shP
 apply List.map_congr_left
 intro i _
 by_cases h1 : i < k
 ·rw [if_pos h1, if_pos (by omega)]
 ·by_cases h2 : i = k
  ·subst h2; rw [if_neg h1, if_pos rfl, if_pos (by omega)]
  ·rw [if_neg h1, if_neg h2, if_neg (by omega)]
theorem sh_zero {a p : Int} (h : shE a p = 0) : (0 ≤ a ∧ a ≤ 1099511627776) ∧ 1 ≤ p ∧ p ≤ 40 := by
 unfold shE at h
 split at h
 ·cases h
 ·rename_i h1
  refine ⟨money_iff.1 ?_, by omega⟩
  cases h2 : moneyB a with
  | true => rfl
  | false => exact absurd (.inl h2) h1
theorem shF_range {a : Int} {n i : Nat} (h0 : 0 ≤ a) (h1 : a ≤ 1099511627776) : 0 ≤ shF a n i ∧ shF a n i ≤ 1099511627777 := by
 have h2 : 0 ≤ a / (n : Int) := Int.ediv_nonneg h0 (by omega)
 have h3 : a / (n : Int) ≤ a := Int.ediv_le_self _ h0
 unfold shF
 split <;> omega
theorem wShare_good (w : World) (a : Int) (n : Nat) (he : shE a n = 0) : OkM Tryz.prog 30 [.int .i64 a, .int .i64 (n : Int)].toArray w (fun b : Nat => .tuple #[.slice (some ⟨b, 0, none⟩) n n, .int .i64 0]) (fun b => [Box b 3 ((shL a n).map (Value.int .i64)).toArray]) := by
 obtain ⟨ha, hn1, hn2⟩ := sh_zero he
 have hmb : moneyB a = true := money_iff.2 ha
 have c1 : ∀ (L : List Res) (w' : World), St w L w' → Ok Tryz.prog 44 [.int .i64 a].toArray w' fun x _ => x = .bool true := fun _ w' _ => by have := inRange_ok w' a; rw [hmb] at this; exact this
 unfold OkM
 refine ok_enter Tryz.func30 rfl Tryz.ntmps30 rfl ?_
 focus (refine gV ?_; (iterate 2 refine gM ?_); refine gO ?_; refine gQ ?_; refine gV ?_; refine gM ?_; apply gw_d; exact w_call rfl rfl (c1 _) rfl; apply gw_d; exact det_not_ rfl rfl rfl; (iterate 2 refine gM ?_); refine gC ?_; refine gPq ?_; refine gM ?_; refine gD (fun _ => ?_) (fun _ => ?_); (iterate 2 refine gU ?_); refine gPp ?_; refine gO ?_; refine gc_if_true rfl ?_; refine gV ?_; (iterate 2 refine gM ?_); refine gO ?_; refine gR ?_; refine gT ?_; rotate_left; refine gM ?_; refine gC ?_; refine gPq ?_; refine gO ?_; refine gc_if_dec rfl (fun _ => ?_) (fun _ => ?_); refine gV ?_; (iterate 2 refine gM ?_); refine gO ?_; refine gR ?_; refine gT ?_; rotate_left; refine gK ?_; refine gX ?_; refine gV ?_; refine gM ?_; rotate_left)
 all_goals first | (exfalso; omega) | skip
 refine gw_make1 (n := n) rfl rfl rfl rfl rfl (by omega) (by omega) rfl (fun b => ?_)
 rw [show Array.replicate n ((Value.int .i64 0).cells.getD 0 undef) = ((shP a n 0).map (Value.int .i64)).toArray from by rw [shP_zero]; exact row_make (Value.int .i64) n 0]
 (refine gM ?_; refine gO ?_; refine gQ ?_; refine gV ?_; refine gM ?_; refine gL ?_; refine gM ?_; refine gO ?_; refine gB ?_)
 refine gc_loop (σ := Nat) [24, 25, 7, 26, 27, 28, 29, 30, 31, 32, 33, 34, 35, 36, 37, 38, 39, 40, 41, 42, 43, 23] (fun k => [(23, .int .i64 k)]) (fun k => [Box b 3 ((shP a n k).map (Value.int .i64)).toArray]) (fun k => k ≤ n) (fun k => n - k) 0 (Nat.zero_le _) ⟨rfl, trivial⟩ (.cons .here .nil) ?_
 rintro k base hk
 have hpl := shP_len a n k
 (refine gV ?_; refine gC ?_; refine gO ?_; refine gQ ?_)
 refine gc_if_dec rfl (fun h => ?_) (fun h => ?_)
 ·have hlt : k < n := by omega
  (refine gK ?_; refine gX ?_; refine gQ ?_; refine gB ?_; refine gV ?_; (iterate 2 refine gM ?_); refine gN ?_; (iterate 4 refine gM ?_); apply gw_d; exact det_quo rfl rfl rfl rfl (by omega) (by omega) (by omega); apply gw_d; exact w_index rfl rfl rfl rfl (by with_reducible exact rfl) (by omega))
  refine w_store_row (n := 1) (v := .int .i64 (a / (n : Int))) rfl rfl rfl rfl rfl .here (by simp; omega) (row_set (Value.int .i64) (by omega) _) ?_
  have hg : ((((shP a n k).set k (a / (n : Int))).map (Value.int .i64)).toArray)[k * 1]? = some (.int .i64 (((shP a n k).set k (a / (n : Int))).getD k 0)) := row_get (Value.int .i64) 0 (by simp; omega)
  have hg2 : ((shP a n k).set k (a / (n : Int))).getD k 0 = a / (n : Int) := by simp [hpl, hlt]
  rw [hg2] at hg
  have hr := shF_range (n := n) (i := k) ha.1 ha.2
  have hq : a / (n : Int) ≤ a := Int.ediv_le_self _ ha.1
  have hq0 : 0 ≤ a / (n : Int) := Int.ediv_nonneg ha.1 (by omega)
  (refine gN ?_; (iterate 3 refine gM ?_); apply gw_d; exact det_rem rfl rfl rfl rfl (by omega) (by omega); refine gC ?_; refine gO ?_)
  refine gc_if_dec rfl (fun h2 => ?_) (fun h2 => ?_)
  ·(refine gG ?_; (iterate 2 refine gM ?_); apply gw_d; exact w_index rfl rfl rfl rfl (by with_reducible exact rfl) (by omega); apply gw_d; exact w_load_row rfl rfl rfl .here hg; refine gA ?_; apply gw_d; exact w_index rfl rfl rfl rfl (by with_reducible exact rfl) (by omega))
   refine w_store_row (n := 1) (v := .int .i64 (a / (n : Int) + 1)) rfl rfl rfl rfl rfl .here (by simp; omega) (row_set (Value.int .i64) (by simp; omega) _) ?_
   (refine gw_nil ?_; refine gH ?_; refine gX ?_; refine gG ?_; refine gA ?_; refine gM ?_; refine gw_nil ?_)
   refine gx_round (k + 1) hlt (by omega) kK ⟨rfl, trivial⟩ ?_
   have e : (((shP a n k).set k (a / (n : Int))).set k (a / (n : Int) + 1)) = shP a n (k + 1) := by
    rw [List.set_set, ← shP_next a hlt]
    unfold shF
    rw [if_pos h2]
   rw [e]
   exact .cons .here .nil
  ·(refine gK ?_; refine gH ?_; refine gX ?_; refine gG ?_; refine gA ?_; refine gM ?_; refine gw_nil ?_)
   refine gx_round (k + 1) hlt (by omega) kK ⟨rfl, trivial⟩ ?_
   have e : ((shP a n k).set k (a / (n : Int))) = shP a n (k + 1) := by
    rw [← shP_next a hlt]
    unfold shF
    rw [if_neg h2]
   rw [e]
   exact .cons .here .nil
 ·obtain rfl : k = n := by omega
  rw [shP_full]
  (refine gI ?_; (iterate 2 refine gZ ?_); refine gJ ?_; refine gX ?_; refine gV ?_; (iterate 3 refine gM ?_); refine gO ?_; refine gR ?_)
  exact gx_ret2 (u := .slice _ _ _) (v := .int _ _) rfl rfl rfl (fun w' s => ⟨b, rfl, s.sep⟩)
theorem shL_take_snoc (a : Int) {n k : Nat} (hk : k < n) : (shL a n).take (k + 1) = (shL a n).take k ++ [shF a n k] := by
 rw [List.take_succ_eq_append_getElem (by rw [shL_len]; exact hk)]
 simp [shL]
def useE (s : Sty) (k : Nat) : Int := match s.uses[k]? with
 | some u => if u.1 < 0 ∨ u.1 ≥ s.pieces.length ∨ u.2.1 < 1 ∨ u.2.1 > 4 then 3 else 0
 | none => 0
def seamE (s : Sty) (k : Nat) : Int := match s.seams[k]? with
 | some u => if isEdgeB s u.1 u.2.1 = true ∧ isEdgeB s u.2.2.1 u.2.2.2.1 = true then if u.2.2.2.2.2 < 0 then 1 else 0 else 3
 | none => 0
def pieceAt (s : Sty) (pl : Pc → Int) (k : Nat) : Int := match s.pieces[k]? with
 | some p => pieceE (s.pieces.take k) p (pl p)
 | none => 0
def styleE (s : Sty) (pl : Pc → Int) : Int := if ¬ wholeE s = 0 then wholeE s else if ¬ firstE (pieceAt s pl) s.pieces.length = 0 then firstE (pieceAt s pl) s.pieces.length else
 if ¬ firstE (useE s) s.uses.length = 0 then firstE (useE s) s.uses.length else firstE (seamE s) s.seams.length
def plE (p : Pc) : Int := placedE p.edges p.corners p.notches
theorem style_ok (w : World) (v : Value) (s : Sty) (hs : StyV w w.heap.size v s) : Ok Tryz.prog 72 [v].toArray w fun r _ => r = .int .i64 (styleE s plE) := by
 have hs' := hs
 obtain ⟨As, cs, Am, cm, Ap, cp, Au, cu, Ae, ce, Ao, co, rfl, hnm, h1, h2, h3, h4, h5, h6⟩ := hs
 obtain ⟨_, _, hv, hpc, hpm⟩ := len_small h3
 injection hv with e1 e2 e3
 subst e1 e3
 obtain ⟨_, _, hv, huc, hum⟩ := len_small h4
 injection hv with e1 e2 e3
 subst e1 e3
 obtain ⟨_, _, hv, hec, hem⟩ := len_small h5
 injection hv with e1 e2 e3
 subst e1 e3
 refine ok_enter Tryz.func72 rfl Tryz.ntmps72 rfl ?_
 (refine gV ?_; refine gw_boxd (v := .agg _) rfl rfl (fun _ => ?_); refine gM ?_; refine gO ?_; refine gQ ?_; refine gV ?_; apply gw_d; exact w_load_boxN rfl rfl rfl .here rfl; apply gw_d; exact w_call rfl rfl (fun w s => whole_ok w _ _ (hs'.later s)) rfl; refine gM ?_; refine gN ?_; refine gM ?_; refine gC ?_; refine gO ?_)
 refine gc_if_dec rfl (fun h => ?_) (fun h => ?_)
 ·(refine gV ?_; (iterate 2 refine gM ?_); refine gO ?_; refine gR ?_; refine gT ?_)
  refine gi1 (fun _ _ => ?_)
  unfold styleE
  rw [if_pos h]
 (refine gK ?_; refine gX ?_; refine gQ ?_; refine gV ?_; refine gF ?_; refine gW .here ?_; refine gL ?_; refine gM ?_; refine gO ?_; refine gB ?_)
 refine gc_loopK (σ := Nat) [20, 21, 22, 23, 5, 4, 24, 25, 26, 27, 28, 29, 6, 30, 31, 32, 2, 33, 19] (fun k => [(19, .int .i64 k)]) (fun k => k ≤ s.pieces.length ∧ firstE (pieceAt s plE) k = 0) (fun k => s.pieces.length - k) 0 ⟨Nat.zero_le _, rfl⟩ ⟨rfl, trivial⟩ ?_
 rintro k base ⟨hk, hI⟩
 (refine gV ?_; refine gC ?_; refine gO ?_; refine gQ ?_)
 refine gc_if_dec rfl (fun h9 => ?_) (fun h9 => ?_)
 ·have hlt : k < s.pieces.length := by omega
  obtain ⟨ad, _, hv, _, _, hb, hcell⟩ := h3.at' 7 rfl (by omega)
  injection hv with e1 e2 e3
  subst e1 e3
  obtain ⟨cs', hce, Ae', ce', An', cn', Ac', cc', Aw', cw', rfl, ⟨q1, _⟩, q2, q3, q4, q5⟩ := hcell k hlt
  unfold maxLen at q1
  have q2' : Sl rEdge w w.heap.size (.slice Ae' s.pieces[k].edges.length ce') s.pieces[k].edges := q2
  have q3' : Sl rSpot w w.heap.size (.slice An' s.pieces[k].notches.length cn') s.pieces[k].notches := q3
  have q4' : Sl rSpot w w.heap.size (.slice Ac' s.pieces[k].corners.length cc') s.pieces[k].corners := q4
  have q5' : Sl rInt w w.heap.size (.slice Aw' s.pieces[k].widths.length cw') s.pieces[k].widths := q5
  have q6' := h3.take (m := k) (by omega)
  (refine gK ?_; refine gX ?_; refine gQ ?_; refine gB ?_; refine gV ?_; refine gM ?_; apply gw_d; exact w_index rfl rfl rfl rfl (by with_reducible exact rfl) (by omega); apply gw_d; exact w_load_elem rfl rfl rfl (by assumption) (by assumption) (by rfl); refine w_alloc rfl (fun _ => ?_); refine gM ?_; refine w_store_all rfl rfl rfl rfl rfl .here rfl ?_; refine gO ?_; refine gQ ?_)
  refine gc_draw 6 (by kernel_rfl) (by kernel_rfl) ?_
  have hC : ∀ (L : List Res) (w' : World), St w L w' → Ok Tryz.prog 88 [.slice (some ad) k cp, .agg #[.string s.pieces[k].name, .slice Ae' s.pieces[k].edges.length ce', .int .i64 s.pieces[k].grain, .slice An' s.pieces[k].notches.length cn', .slice Ac' s.pieces[k].corners.length cc', .slice Aw' s.pieces[k].widths.length cw', .bool s.pieces[k].mt]].toArray w' fun r _ => r = .int .i64 (pieceE (s.pieces.take k) s.pieces[k] (plE s.pieces[k])) := fun L w s' => checkPiece_ok w (.slice (some ad) k cp) (s.pieces.take k) s.pieces[k] Ae' An' Ac' Aw' ce' cn' cc' cw' (q6'.later s') (q2'.later s') (q4'.later s') (q3'.later s') (q5'.later s') (by omega)
  (apply gd_d; exact w_field rfl rfl rfl; apply gd_d; exact w_load_box rfl rfl rfl (.there .here) rfl; refine dM ?_; apply gd_d; exact w_cut_hi rfl rfl rfl rfl (by with_reducible exact rfl) (by omega); apply gd_d; exact w_load_boxN rfl rfl rfl .here rfl; apply gd_d; exact w_call rfl rfl (hC _) rfl; refine gd_nil ?_; refine gM ?_; refine gN ?_; refine gM ?_; refine gC ?_; refine gO ?_)
  have hat : pieceAt s plE k = pieceE (s.pieces.take k) s.pieces[k] (plE s.pieces[k]) := by unfold pieceAt; rw [List.getElem?_eq_getElem hlt]
  refine gc_if_dec rfl (fun h => ?_) (fun h => ?_)
  ·(refine gV ?_; (iterate 2 refine gM ?_); refine gO ?_; refine gR ?_; refine gY ?_; (iterate 2 refine gT ?_); refine gY ?_; refine gT ?_)
   refine gi1 (fun _ _ => ?_)
   rw [← hat] at h ⊢
   unfold styleE
   rw [if_neg ‹_›, firstE_stop hI h hlt, if_pos h]
  ·(refine gK ?_; refine gH ?_; refine gX ?_; refine gG ?_; refine gA ?_; refine gM ?_; refine gw_nil ?_)
   exact gx_round (k + 1) ⟨by omega, firstE_snoc hI (by rw [hat]; simpa using h)⟩ (by omega) kK ⟨rfl, trivial⟩ Sub.tail
 obtain rfl : k = s.pieces.length := by omega
 (refine gI ?_; (iterate 2 refine gZ ?_); refine gJ ?_; refine gX ?_; refine gQ ?_; refine gV ?_; refine gF ?_; refine gW .here ?_; refine gL ?_; refine gM ?_; refine gO ?_; refine gB ?_)
 refine gc_loopK (σ := Nat) [38, 39, 40, 8, 41, 42, 43, 44, 45, 46, 47, 48, 49, 50, 51, 52, 53, 54, 55, 56, 57, 58, 59, 60, 61, 2, 62, 37] (fun k => [(37, .int .i64 k)]) (fun k => k ≤ s.uses.length ∧ firstE (useE s) k = 0) (fun k => s.uses.length - k) 0 ⟨Nat.zero_le _, rfl⟩ ⟨rfl, trivial⟩ ?_
 rintro k base2 ⟨hk2, hJ⟩
 (refine gV ?_; refine gC ?_; refine gO ?_; refine gQ ?_)
 refine gc_if_dec rfl (fun h8 => ?_) (fun h8 => ?_)
 ·have hlt : k < s.uses.length := by omega
  obtain ⟨ad, _, hv, _, _, hb, hcell⟩ := h4.at' 3 rfl (by omega)
  injection hv with e1 e2 e3
  subst e1 e3
  obtain ⟨cs', hce, rfl, _⟩ := hcell k hlt
  have hat : useE s k = if s.uses[k].1 < 0 ∨ s.uses[k].1 ≥ s.pieces.length ∨ s.uses[k].2.1 < 1 ∨ s.uses[k].2.1 > 4 then 3 else 0 := by unfold useE; rw [List.getElem?_eq_getElem hlt]
  have hbad : (s.uses[k].1 < 0 ∨ s.uses[k].1 ≥ s.pieces.length ∨ s.uses[k].2.1 < 1 ∨ s.uses[k].2.1 > 4) → styleE s plE = 3 := fun h => by
   rw [if_pos h] at hat
   unfold styleE
   rw [if_neg ‹_›, if_neg (by rw [hI]; decide), firstE_stop hJ (by rw [hat]; decide) hlt, hat]
   exact if_pos (by decide)
  focus (refine gK ?_; refine gX ?_; refine gQ ?_; refine gB ?_; refine gV ?_; apply gw_d; exact w_index rfl rfl rfl rfl (by with_reducible exact rfl) (by omega); apply gw_d; exact w_load_elem rfl rfl rfl (by assumption) (by assumption) (by rfl); refine w_alloc rfl (fun _ => ?_); refine w_store_all rfl rfl rfl rfl rfl .here rfl ?_; refine gN ?_; refine gF ?_; refine gW .here ?_; refine gC ?_; refine gM ?_; refine gD (fun _ => ?_) (fun _ => ?_); (iterate 6 refine gU ?_); refine gPp ?_; refine gM ?_; (iterate 3 refine gU ?_); refine gPp ?_; refine gM ?_; (iterate 3 refine gU ?_); refine gPp ?_; refine gO ?_; refine gc_if_true rfl ?_; refine gV ?_; refine gM ?_; refine gO ?_; refine gR ?_; refine gY ?_; (iterate 2 refine gT ?_); refine gY ?_; refine gT ?_; rotate_left; refine gF ?_; refine gW .here ?_; refine gF ?_; refine gW (.there .here) ?_; refine gL ?_; refine gC ?_; refine gPq ?_; refine gM ?_; refine gD (fun _ => ?_) (fun _ => ?_); (iterate 3 refine gU ?_); refine gPp ?_; refine gM ?_; (iterate 3 refine gU ?_); refine gPp ?_; refine gO ?_; refine gc_if_true rfl ?_; refine gV ?_; refine gM ?_; refine gO ?_; refine gR ?_; refine gY ?_; (iterate 2 refine gT ?_); refine gY ?_; refine gT ?_; rotate_left; refine gF ?_; refine gW .here ?_; refine gC ?_; refine gPq ?_; refine gM ?_; refine gD (fun _ => ?_) (fun _ => ?_); (iterate 3 refine gU ?_); refine gPp ?_; refine gO ?_; refine gc_if_true rfl ?_; refine gV ?_; refine gM ?_; refine gO ?_; refine gR ?_; refine gY ?_; (iterate 2 refine gT ?_); refine gY ?_; refine gT ?_; rotate_left; refine gF ?_; refine gW .here ?_; refine gC ?_; refine gPq ?_; refine gO ?_; refine gc_if_dec rfl (fun _ => ?_) (fun _ => ?_); refine gV ?_; refine gM ?_; refine gO ?_; refine gR ?_; refine gY ?_; (iterate 2 refine gT ?_); refine gY ?_; refine gT ?_; rotate_left; refine gK ?_; refine gH ?_; refine gX ?_; refine gG ?_; refine gA ?_; refine gM ?_; refine gw_nil ?_; rotate_left)
  ·refine gi1 (fun _ _ => ?_)
   rw [hbad (by omega)]
  ·refine gi1 (fun _ _ => ?_)
   rw [hbad (by omega)]
  ·refine gi1 (fun _ _ => ?_)
   rw [hbad (by omega)]
  ·refine gi1 (fun _ _ => ?_)
   rw [hbad (by omega)]
  ·exact gx_round (k + 1) ⟨by omega, firstE_snoc hJ (by rw [hat, if_neg (by omega)])⟩ (by omega) kK ⟨rfl, trivial⟩ Sub.tail
 obtain rfl : k = s.uses.length := by omega
 (refine gI ?_; (iterate 2 refine gZ ?_); refine gJ ?_; refine gX ?_; refine gQ ?_; refine gV ?_; refine gF ?_; refine gW .here ?_; refine gL ?_; refine gM ?_; refine gO ?_; refine gB ?_)
 refine gc_loopK (σ := Nat) [67, 68, 69, 10, 70, 71, 72, 73, 74, 75, 76, 77, 78, 79, 80, 81, 82, 83, 84, 85, 2, 86, 87, 88, 89, 66] (fun k => [(66, .int .i64 k)]) (fun k => k ≤ s.seams.length ∧ firstE (seamE s) k = 0) (fun k => s.seams.length - k) 0 ⟨Nat.zero_le _, rfl⟩ ⟨rfl, trivial⟩ ?_
 rintro k base3 ⟨hk3, hK⟩
 (refine gV ?_; refine gC ?_; refine gO ?_; refine gQ ?_)
 refine gc_if_dec rfl (fun h7 => ?_) (fun h7 => ?_)
 ·have hlt : k < s.seams.length := by omega
  obtain ⟨ad, _, hv, _, _, hb, hcell⟩ := h5.at' 6 rfl (by omega)
  injection hv with e1 e2 e3
  subst e1 e3
  obtain ⟨cs', hce, rfl⟩ := hcell k hlt
  have hat : seamE s k = if isEdgeB s s.seams[k].1 s.seams[k].2.1 = true ∧ isEdgeB s s.seams[k].2.2.1 s.seams[k].2.2.2.1 = true then if s.seams[k].2.2.2.2.2 < 0 then 1 else 0 else 3 := by unfold seamE; rw [List.getElem?_eq_getElem hlt]
  have hstop : ∀ x : Int, seamE s k = x → ¬ x = 0 → styleE s plE = x := fun x hx h => by
   unfold styleE
   rw [if_neg ‹_›, if_neg (by rw [hI]; decide), if_neg (by rw [hJ]; decide), firstE_stop hK (by rw [hx]; exact h) hlt, hx]
  focus (refine gK ?_; refine gX ?_; refine gQ ?_; refine gB ?_; refine gV ?_; apply gw_d; exact w_index rfl rfl rfl rfl (by with_reducible exact rfl) (by omega); apply gw_d; exact w_load_elem rfl rfl rfl (by assumption) (by assumption) (by rfl); refine w_alloc rfl (fun _ => ?_); refine w_store_all rfl rfl rfl rfl rfl .here rfl ?_; refine gO ?_; refine gQ ?_; refine gV ?_; apply gw_d; exact w_load_boxN rfl rfl rfl (.there .here) rfl; refine gF ?_; refine gW .here ?_; refine gF ?_; refine gW .here ?_; apply gw_d; exact w_call rfl rfl (fun w s => isEdge_ok w _ _ _ _ (hs'.later s)) rfl; apply gw_d; exact det_not_ rfl rfl rfl; refine gM ?_; refine gw_guard rfl rfl (fun _ => ?_) (fun _ => ?_); (iterate 7 refine gU ?_); refine gPp ?_; refine gO ?_; refine gc_if_true rfl ?_; refine gV ?_; refine gM ?_; refine gO ?_; refine gR ?_; refine gT ?_; refine gY ?_; (iterate 2 refine gT ?_); refine gY ?_; refine gT ?_; rotate_left; apply gw_d; exact w_load_boxN rfl rfl rfl (.there .here) rfl; refine gF ?_; refine gW .here ?_; refine gF ?_; refine gW .here ?_; apply gw_d; exact w_call rfl rfl (fun w s => isEdge_ok w _ _ _ _ (hs'.later s)) rfl; apply gw_d; exact det_not_ rfl rfl rfl; refine gPq ?_; refine gO ?_; refine gc_if rfl (fun _ => ?_) (fun _ => ?_); refine gV ?_; refine gM ?_; refine gO ?_; refine gR ?_; refine gT ?_; refine gY ?_; (iterate 2 refine gT ?_); refine gY ?_; refine gT ?_; rotate_left; refine gK ?_; refine gX ?_; refine gV ?_; refine gF ?_; refine gW .here ?_; refine gC ?_; refine gO ?_; refine gc_if_dec rfl (fun _ => ?_) (fun _ => ?_); refine gV ?_; refine gM ?_; refine gO ?_; refine gR ?_; refine gY ?_; (iterate 2 refine gT ?_); refine gY ?_; refine gT ?_; rotate_left; refine gK ?_; refine gH ?_; refine gX ?_; refine gG ?_; refine gA ?_; refine gM ?_; refine gw_nil ?_; rotate_left)
  ·refine gi1 (fun _ _ => ?_)
   rename_i h _ _
   rw [hstop 3 (by rw [hat, if_neg (by simp at h; simp [h])]) (by decide)]
  ·refine gi1 (fun _ _ => ?_)
   rename_i h _ _
   rw [hstop 3 (by rw [hat, if_neg (by simp at h; simp [h])]) (by decide)]
  ·refine gi1 (fun _ _ => ?_)
   rw [hstop 1 (by rw [hat, if_pos (by simp_all), if_pos (by assumption)]) (by decide)]
  ·exact gx_round (k + 1) ⟨by omega, firstE_snoc hK (by rw [hat, if_pos (by simp_all), if_neg (by assumption)])⟩ (by omega) kK ⟨rfl, trivial⟩ Sub.tail
 obtain rfl : k = s.seams.length := by omega
 (refine gI ?_; (iterate 2 refine gZ ?_); refine gJ ?_; refine gX ?_; refine gV ?_; refine gM ?_; refine gO ?_; refine gR ?_)
 refine gi1 (fun _ _ => ?_)
 unfold styleE
 rw [if_neg ‹_›, if_neg (by rw [hI]; decide), if_neg (by rw [hJ]; decide), hK]
def markIn (bs : List Bool) (us : List Int) : List Bool := us.foldl (fun bs u => bs.set u.toNat true) bs
def marks (n : Nat) (l : List Opn) : List Bool := l.foldl (fun bs o => markIn bs o.uses) (List.replicate n false)
def opCheckE (s : Sty) (pl : Pc → Int) : Int := if ¬ styleE s pl = 0 then styleE s pl else if ¬ listE s.ops s.uses.length = 0 then listE s.ops s.uses.length else if (marks s.uses.length s.ops).all id = true then 0 else 20
theorem markIn_len (us : List Int) : ∀ bs, (markIn bs us).length = bs.length := by
 induction us with
 | nil => intro bs; rfl
 | cons u us ih => intro bs; exact (ih _).trans (by simp)
theorem marks_len (n : Nat) (l : List Opn) : (marks n l).length = n := by
 unfold marks
 suffices h : ∀ (l : List Opn) (bs : List Bool), (l.foldl (fun bs o => markIn bs o.uses) bs).length = bs.length by rw [h]; simp
 intro l
 induction l with
 | nil => intro bs; rfl
 | cons x o ih => intro bs; exact (ih _).trans (markIn_len _ _)
theorem marks_snoc {n : Nat} {l : List Opn} {k : Nat} (hk : k < l.length) : marks n (l.take (k + 1)) = markIn (marks n (l.take k)) l[k].uses := by
 unfold marks
 rw [List.take_succ_eq_append_getElem hk, List.foldl_append]
 rfl
theorem markIn_snoc {bs : List Bool} {us : List Int} {k : Nat} (hk : k < us.length) : markIn bs (us.take (k + 1)) = (markIn bs (us.take k)).set us[k].toNat true := by
 unfold markIn
 rw [List.take_succ_eq_append_getElem hk, List.foldl_append]
 rfl
theorem list_uses {l : List Opn} {n : Nat} (he : listE l n = 0) {i : Nat} (hi : i < l.length) : ∀ x ∈ l[i].uses, 0 ≤ x ∧ x < (n : Int) := by
 have h16 : ¬ 16 < l.length := fun h => by unfold listE at he; rw [if_pos h] at he; cases he
 have hI0 : firstE (opE l n) l.length = 0 := by
  unfold listE at he
  rw [if_neg h16] at he
  split at he
  ·rename_i h1; exact absurd he h1
  ·rename_i h1; simpa using h1
 have h1 := firstE_at hI0 i hi
 unfold opE at h1
 rw [List.getElem?_eq_getElem hi] at h1
 dsimp only at h1
 split at h1
 ·cases h1
 ·split at h1
  ·cases h1
  ·split at h1
   ·cases h1
   ·split at h1
    ·cases h1
    ·rename_i h3
     refine areIx_at ?_
     cases hb : areIx l[i].uses n with
     | true => rfl
     | false => exact absurd (.inr ⟨by omega, hb⟩) h3

theorem style_uses {s : Sty} {pl : Pc → Int} (hS0 : styleE s pl = 0) : s.uses.length ≤ 12 := by
 unfold styleE at hS0
 split at hS0
 ·rename_i h; exact absurd hS0 h
 ·rename_i h
  have hw : wholeE s = 0 := by simpa using h
  unfold wholeE at hw
  repeat' split at hw
  all_goals first | omega | cases hw

theorem opCheck_ok (w : World) (v : Value) (s : Sty) (hs : StyV w w.heap.size v s) : Ok Tryz.prog 63 [v].toArray w fun r _ => r = .int .i64 (opCheckE s plE) := by
 have hs' := hs
 obtain ⟨As, cs, Am, cm, Ap, cp, Au, cu, Ae, ce, Ao, co, rfl, hnm, h1, h2, h3, h4, h5, h6⟩ := hs
 obtain ⟨_, _, hv, huc, hum⟩ := len_small h4
 injection hv with e1 e2 e3
 subst e1 e3
 obtain ⟨_, _, hv, hoc, hom⟩ := len_small h6
 injection hv with e1 e2 e3
 subst e1 e3
 refine ok_enter Tryz.func63 rfl Tryz.ntmps63 rfl ?_
 (refine gV ?_; refine gw_boxd (v := .agg _) rfl rfl (fun _ => ?_); refine gM ?_; refine gO ?_; refine gQ ?_; refine gV ?_; apply gw_d; exact w_load_boxN rfl rfl rfl .here rfl; apply gw_d; exact w_call rfl rfl (fun w s => style_ok w _ _ (hs'.later s)) rfl; refine gM ?_; refine gN ?_; refine gM ?_; refine gC ?_; refine gO ?_)
 refine gc_if_dec rfl (fun h => ?_) (fun h => ?_)
 ·(refine gV ?_; (iterate 2 refine gM ?_); refine gO ?_; refine gR ?_; refine gT ?_)
  refine gi1 (fun _ _ => ?_)
  unfold opCheckE
  rw [if_pos h]
 have hS0 : styleE s plE = 0 := by simpa using h
 have hu12 := style_uses hS0
 by_cases he : listE s.ops s.uses.length = 0
 ·(refine gK ?_; refine gX ?_; refine gQ ?_; refine gV ?_; refine gF ?_; refine gW .here ?_; refine gF ?_; refine gW .here ?_; refine gL ?_)
  refine gw_callm rfl (fun w s' => checkList_good w _ s.ops s.uses.length (h6.later s') he) rfl (fun x => ?_)
  obtain ⟨A, c⟩ := x
  (refine gM ?_; apply gw_d; exact det_extract rfl rfl rfl (by conv => (lhs; whnf)); apply gw_d; exact det_extract rfl rfl rfl (by conv => (lhs; whnf)); (iterate 2 refine gM ?_); refine gN ?_; refine gM ?_; refine gC ?_; refine gO ?_)
  refine gc_if_dec rfl (fun h => absurd rfl h) (fun _ => ?_)
  (refine gK ?_; refine gX ?_; refine gV ?_; refine gF ?_; refine gW (.there .here) ?_; refine gL ?_)
  refine gw_make1 (n := s.uses.length) rfl rfl rfl rfl rfl (by omega) (by omega) rfl (fun b => ?_)
  rw [show Array.replicate s.uses.length ((Value.bool false).cells.getD 0 undef) = ((marks s.uses.length (s.ops.take 0)).map Value.bool).toArray from row_make Value.bool s.uses.length false]
  (refine gM ?_; refine gO ?_; refine gQ ?_; refine gV ?_; refine gF ?_; refine gW (.there (.there .here)) ?_; refine gL ?_; refine gM ?_; refine gO ?_; refine gB ?_)
  refine gc_loop (σ := Nat) [38, 39, 40, 8, 41, 42, 43, 44, 45, 46, 47, 10, 48, 49, 50, 51, 52, 37] (fun k => [(37, .int .i64 k)]) (fun k => [Box b 4 ((marks s.uses.length (s.ops.take k)).map Value.bool).toArray]) (fun k => k ≤ s.ops.length) (fun k => s.ops.length - k) 0 (Nat.zero_le _) ⟨rfl, trivial⟩ (.cons .here .nil) ?_
  rintro k base hk
  (refine gV ?_; refine gC ?_; refine gO ?_; refine gQ ?_)
  refine gc_if_dec rfl (fun h => ?_) (fun h => ?_)
  ·have hlt : k < s.ops.length := by omega
   obtain ⟨ad, _, hv, _, _, hb, hcell⟩ := h6.at' 5 rfl (by omega)
   injection hv with e1 e2 e3
   subst e1 e3
   obtain ⟨cs', hce, Aa, ca, Au', cu', rfl, _, q1, q2⟩ := hcell k hlt
   have ha : Sl rInt w w.heap.size (.slice Au' s.ops[k].uses.length cu') s.ops[k].uses := q2
   obtain ⟨_, _, hv, hac, ham, hacell⟩ := ha.int
   injection hv with e1 e2 e3
   subst e1 e3
   have hus := list_uses he hlt
   have hsn := marks_snoc (n := s.uses.length) hlt
   have hml := marks_len s.uses.length (s.ops.take k)
   generalize marks s.uses.length (s.ops.take k) = bs at hsn hml ⊢
   (refine gK ?_; refine gX ?_; refine gQ ?_; refine gB ?_; refine gV ?_; apply gw_d; exact w_index rfl rfl rfl rfl (by with_reducible exact rfl) (by omega); apply gw_d; exact w_load_elem rfl rfl rfl (by assumption) (by assumption) (by rfl); refine w_alloc rfl (fun _ => ?_); refine w_store_all rfl rfl rfl rfl rfl .here rfl ?_; refine gN ?_; refine gF ?_; refine gW .here ?_; refine gL ?_; refine gM ?_; refine gO ?_; refine gB ?_)
   refine gc_loop (σ := Nat) [45, 46, 47, 10, 48, 49, 50, 51, 44] (fun j => [(44, .int .i64 j)]) (fun j => [Box b 4 ((markIn bs (s.ops[k].uses.take j)).map Value.bool).toArray]) (fun j => j ≤ s.ops[k].uses.length) (fun j => s.ops[k].uses.length - j) 0 (Nat.zero_le _) ⟨rfl, trivial⟩ (.cons (.there .here) .nil) ?_
   rintro j base2 hj
   (refine gV ?_; refine gC ?_; refine gO ?_; refine gQ ?_)
   refine gc_if_dec rfl (fun h2 => ?_) (fun h2 => ?_)
   ·have hjl : j < s.ops[k].uses.length := by omega
    obtain ⟨ad2, rfl, hb2, hce2, _⟩ := hacell j hjl
    have hpr := hus s.ops[k].uses[j] (List.getElem_mem hjl)
    obtain ⟨p, hp⟩ : ∃ p : Nat, s.ops[k].uses[j] = (p : Int) := ⟨s.ops[k].uses[j].toNat, by omega⟩
    have hsn2 := markIn_snoc (bs := bs) hjl
    rw [hp] at hce2 hsn2
    rw [Int.toNat_natCast] at hsn2
    have hl2 := markIn_len (s.ops[k].uses.take j) bs
    (refine gK ?_; refine gX ?_; refine gQ ?_; refine gB ?_; refine gV ?_; apply gw_d; exact w_index rfl rfl rfl rfl (by with_reducible exact rfl) (by omega); apply gw_d; exact w_load_at rfl rfl rfl (by assumption) (by assumption); refine gM ?_; refine gO ?_; refine gG ?_; (iterate 2 refine gM ?_); apply gw_d; exact w_index rfl rfl rfl rfl (by with_reducible exact rfl) (by omega))
    refine w_store_row (n := 1) (v := .bool true) rfl rfl rfl rfl rfl .here (by simp; omega) (row_set Value.bool (by omega) true) ?_
    (refine gw_nil ?_; refine gH ?_; refine gX ?_; refine gG ?_; refine gA ?_; refine gM ?_; refine gw_nil ?_)
    refine gx_round (j + 1) hjl (by omega) kK ⟨rfl, trivial⟩ ?_
    rw [hsn2]
    exact .cons .here .nil
   ·obtain rfl : j = s.ops[k].uses.length := by omega
    rw [List.take_length, ← hsn]
    (refine gI ?_; (iterate 2 refine gZ ?_); refine gJ ?_; refine gH ?_; refine gX ?_; refine gG ?_; refine gA ?_; refine gM ?_; refine gw_nil ?_)
    exact gx_round (k + 1) hlt (by omega) kK ⟨rfl, trivial⟩ (Sub.all _)
  obtain rfl : k = s.ops.length := by omega
  rw [List.take_length]
  have hE : opCheckE s plE = if (marks s.uses.length s.ops).all id = true then 0 else 20 := by unfold opCheckE; rw [if_neg (by rw [hS0]; decide), if_neg (by rw [he]; decide)]
  rw [hE]
  have hml := marks_len s.uses.length s.ops
  generalize marks s.uses.length s.ops = bs at hml ⊢
  (refine gI ?_; (iterate 2 refine gZ ?_); refine gJ ?_; refine gX ?_; refine gQ ?_; refine gV ?_; refine gM ?_; refine gL ?_; refine gM ?_; refine gO ?_; refine gB ?_)
  refine gc_loopK (σ := Nat) [56, 57, 58, 12, 59, 60, 2, 61, 55] (fun k => [(55, .int .i64 k)]) (fun k => k ≤ bs.length ∧ (bs.take k).all id = true) (fun k => bs.length - k) 0 ⟨Nat.zero_le _, rfl⟩ ⟨rfl, trivial⟩ ?_
  rintro k base3 ⟨hk3, hK⟩
  (refine gV ?_; refine gC ?_; refine gO ?_; refine gQ ?_)
  refine gc_if_dec rfl (fun h => ?_) (fun h => ?_)
  ·have hlt : k < bs.length := by omega
   have hpc : (bs.map Value.bool).toArray[k * 1]? = some (.bool (bs.getD k false)) := row_get Value.bool false (by omega)
   have hg : bs.getD k false = bs[k] := by simp [hlt]
   rw [hg] at hpc
   (refine gK ?_; refine gX ?_; refine gQ ?_; refine gB ?_; refine gV ?_; apply gw_d; exact w_index rfl rfl rfl rfl (by with_reducible exact rfl) (by omega); apply gw_d; exact w_load_row rfl rfl rfl .here hpc; refine gM ?_; refine gN ?_; refine gM ?_; apply gw_d; exact det_not_ rfl rfl rfl; refine gO ?_)
   refine gc_if rfl (fun h3 => ?_) (fun h3 => ?_)
   ·(refine gV ?_; refine gM ?_; refine gO ?_; refine gR ?_; refine gY ?_; (iterate 2 refine gT ?_); refine gY ?_; refine gT ?_)
    refine gi1 (fun _ _ => ?_)
    rw [if_neg (by rw [Bool.not_eq_true, List.all_eq_false]; exact ⟨bs[k], List.getElem_mem hlt, by simpa using h3⟩)]
   ·(refine gK ?_; refine gH ?_; refine gX ?_; refine gG ?_; refine gA ?_; refine gM ?_; refine gw_nil ?_)
    exact gx_round (k + 1) ⟨hlt, by rw [List.take_succ_eq_append_getElem hlt, List.all_append, hK]; simpa using h3⟩ (by omega) kK ⟨rfl, trivial⟩ (Sub.all _)
  ·obtain rfl : k = bs.length := by omega
   rw [List.take_length] at hK
   (refine gI ?_; (iterate 2 refine gZ ?_); refine gJ ?_; refine gX ?_; refine gV ?_; refine gM ?_; refine gO ?_; refine gR ?_)
   refine gi1 (fun _ _ => ?_)
   rw [if_pos hK]
 ·have hE : opCheckE s plE = listE s.ops s.uses.length := by unfold opCheckE; rw [if_neg (by rw [hS0]; decide), if_pos he]
  rw [hE]
  (refine gK ?_; refine gX ?_; refine gQ ?_; refine gV ?_; refine gF ?_; refine gW .here ?_; refine gF ?_; refine gW .here ?_; refine gL ?_; apply gw_d; exact w_call rfl rfl (fun w s' => checkList_bad w _ s.ops s.uses.length (h6.later s') he) rfl; refine gM ?_; apply gw_d; exact det_extract rfl rfl rfl (by conv => (lhs; whnf)); apply gw_d; exact det_extract rfl rfl rfl (by conv => (lhs; whnf)); (iterate 2 refine gM ?_); refine gN ?_; refine gM ?_; refine gC ?_; refine gO ?_)
  refine gc_if_dec rfl (fun _ => ?_) (fun h => absurd he h)
  (refine gV ?_; (iterate 2 refine gM ?_); refine gO ?_; refine gR ?_; refine gT ?_)
  refine gi1 (fun _ _ => ?_)
  rfl
def sAnn : ByteArray := ⟨#[97, 110, 110]⟩
def sS : ByteArray := ⟨#[83]⟩
section
variable {w0 w : World} {L : List Res} {x : Nat → Nat}
end
section
variable {w0 w : World} {L : List Res} {x : Nat → Nat}
end
theorem op_parts {l : List Opn} {n : Int} {i : Nat} {o : Opn} (ho : l[i]? = some o) (h : opE l n i = 0) : ¬ (¬ nameB o.name = true) ∧ ¬ ((l.take i).any fun x => eqS x.name o.name) = true ∧ ¬ (o.machine < 0 ∨ o.machine ≥ 8 ∨ o.minutes < 1 ∨ o.minutes > 10000) ∧
  ¬ (areIx o.after l.length = false ∨ (0 ≤ n ∧ areIx o.uses n = false)) ∧ ¬ (dupL o.after o.after.length = true ∨ (0 ≤ n ∧ dupL o.uses o.uses.length = true)) := by
 unfold opE at h
 rw [ho] at h
 dsimp only at h
 split at h
 ·cases h
 rename_i c1
 split at h
 ·cases h
 rename_i c2
 split at h
 ·cases h
 rename_i c3
 split at h
 ·cases h
 rename_i c4
 split at h
 ·cases h
 rename_i c5
 exact ⟨c1, c2, c3, c4, c5⟩
theorem list_parts {l : List Opn} {n : Int} (h : listE l n = 0) : ¬ 16 < l.length ∧ firstE (opE l n) l.length = 0 ∧ fullB l = true := by
 unfold listE at h
 split at h
 ·cases h
 rename_i c1
 split at h
 ·rename_i c2; exact absurd h c2
 rename_i c2
 split at h
 ·rename_i c3; exact ⟨c1, Classical.not_not.1 c2, c3⟩
 ·cases h
theorem check_parts {s : Sty} {pl : Pc → Int} (h : opCheckE s pl = 0) : styleE s pl = 0 ∧ listE s.ops s.uses.length = 0 ∧ (marks s.uses.length s.ops).all id = true := by
 unfold opCheckE at h
 split at h
 ·rename_i c; exact absurd h c
 rename_i c1
 split at h
 ·rename_i c; exact absurd h c
 rename_i c2
 split at h
 ·rename_i c3; exact ⟨Classical.not_not.1 c1, Classical.not_not.1 c2, c3⟩
 ·cases h
/-! ### The cells, as they are cleared one by one -/
section
variable {κ : Type} [DecidableEq κ] {P : Program} {kt n : Nat} [CInts P kt n] {f : κ → List Int}
def kInts (f : κ → List Int) (k : κ) : Value := .agg ((f k).map (Value.int .i64)).toArray
theorem run_equal_ints {w : World} {xs ys : List Int} (hx : xs.length = n) (hy : ys.length = n) : (Op.equal kt (.agg (xs.map (Value.int .i64)).toArray) (.agg (ys.map (Value.int .i64)).toArray)).run P w = .ok (decide (xs = ys)) w := by
 have h := run_eq_ints (P := P) (t := kt) (n := n) (d := 9998) (w := w) hx hy
 unfold Op.equal
 exact h.1
theorem find_asking (hn : ∀ k, (f k).length = n) (hi : ∀ a b, f a = f b → a = b) (k : κ) (w : World) : ∀ (es : List MapEntry) (l : List (κ × Value)) (i : Nat), es.map (fun e => (e.key, e.val)) = l.map (fun p => (kInts f p.1, p.2)) →
  (Instr.findAsking kt (kInts f k) es i).run P w = .ok ((l.findIdx? (fun p => decide (k = p.1))).map fun j => (i + j, ((l[j]?).map (·.2)).getD undef)) w
 | [], [], i, _ => rfl
 | [], _ :: _, _, h => by simp at h
 | _ :: _, [], _, h => by simp at h
 | e :: es, p :: l, i, h => by
  simp only [List.map_cons, List.cons.injEq, Prod.mk.injEq] at h
  obtain ⟨⟨h1, h2⟩, h3⟩ := h
  have ih := find_asking hn hi k w es l (i + 1) h3
  unfold Instr.findAsking
  rw [h1]
  have he := run_equal_ints (P := P) (kt := kt) (w := w) (hn k) (hn p.1)
  unfold kInts at he ih ⊢
  simp only [Sem.run_bind, he, Result.andThen_ok, List.findIdx?_cons]
  by_cases hk : k = p.1
  ·subst hk
   simp [h2]
  ·have : ¬ f k = f p.1 := fun hc => hk (hi _ _ hc)
   simp only [decide_eq_false this, decide_eq_false hk, Bool.false_eq_true, if_false]
   rw [ih]
   cases l.findIdx? (fun p => decide (k = p.1)) with
   | none => rfl
   | some j => simp [Nat.add_assoc, Nat.add_comm 1 j]
theorem fields_check {em : Bool} {d : Nat} {w : World} (xs : List Int) : ∀ (fs : List Field) (k : Nat), (∀ (j : Nat) (g : Field), fs[j]? = some g → g.name ≠ "_" ∧ g.offset = k + j ∧ P.underlying g.type = some (.int .i64)) → k + fs.length = xs.length →
  (forIn (m := Sem) fs PUnit.unit fun g _ =>
   if g.name ≠ "_" then do
    let p ← part g.type (xs.map (Value.int .i64)).toArray g.offset
    Instr.checkKey em (d + 1) g.type p
    pure (ForInStep.yield PUnit.unit)
   else pure (ForInStep.yield PUnit.unit)).run P w = .ok () w
 | [], k, _, hk => by simp
 | g :: fs, k, hf, hk => by
  obtain ⟨h1, h2, h3⟩ := hf 0 g rfl
  simp only [Nat.add_zero] at h2
  simp only [List.length_cons] at hk
  have hkx : k < xs.length := by omega
  have ih := fields_check (em := em) (d := d) (w := w) xs fs (k + 1) (fun j g hg => by
   have := hf (j + 1) g (by simpa using hg)
   exact ⟨this.1, by omega, this.2.2⟩) (by omega)
  have p1 : (part g.type (xs.map (Value.int .i64)).toArray g.offset).run P w = .ok (.int .i64 xs[k]) w := part_int h3 (by rw [h2]; simp [hkx])
  have c1 : (Instr.checkKey em (d + 1) g.type (.int .i64 xs[k])).run P w = .ok () w := by
   unfold Instr.checkKey
   simp [run_underlying h3]
  rw [List.forIn_cons]
  simp only [Sem.run_bind, if_pos h1, p1, c1, Result.andThen_ok, Sem.run_pure]
  exact ih
theorem structLaw (hn : ∀ k, (f k).length = n) (hi : ∀ a b, f a = f b → a = b) : KeyLaw P kt (kInts f) := by
 have h := CInts.h (P := P) (t := kt) (n := n)
 unfold intStruct at h
 split at h
 ·rename_i fs hu
  split at h
  ·rename_i hc
   injection h with h
   simp only [Bool.and_eq_true, Bool.not_eq_true', List.all_eq_true] at hc
   refine ⟨fun k l es w he => ?_, fun em k w => ?_, fun k => ?_⟩
   ·unfold Instr.findKey
    simp only [Sem.run_bind, run_underlying hu, Result.andThen_ok]
    cases es with
    | nil =>
     cases l with
     | nil => rfl
     | cons => simp at he
    | cons e es =>
     have hk : e.key = kInts f ((l.head?.map (·.1)).getD k) := by
      cases l with
      | nil => simp at he
      | cons p l =>
       simp only [List.map_cons, List.cons.injEq, Prod.mk.injEq] at he
       exact he.1.1
     have hno : Instr.findNow (.struct fs) (kInts f k) (e :: es) 0 = none := by
      unfold Instr.findNow
      rw [hk]
      rfl
     rw [hno]
     have := find_asking (P := P) (kt := kt) (n := n) hn hi k w (e :: es) l 0 he
     simp only [Nat.zero_add] at this
     exact this
   ·have hck := fields_check (P := P) (em := em) (d := 9998) (w := w) (f k) fs.toList 0 (fun j g hj => by
     have hmem : (g, j) ∈ fs.toList.zipIdx := by
      rw [List.mem_iff_getElem?]
      exact ⟨j, by simp [hj]⟩
     have h1 := hc.1.1 (g, j) hmem
     simp only [bne_iff_ne, beq_iff_eq] at h1
     refine ⟨h1.1.1, by omega, ?_⟩
     have h2 := h1.2
     split at h2
     ·assumption
     ·cases h2) (by have := hn k; simp; omega)
    have : (10000 : Nat) = 9999 + 1 := rfl
    rw [this]
    unfold Instr.checkKey kInts
    simp only [Sem.run_bind, run_underlying hu, Result.andThen_ok]
    rw [← Array.forIn_toList]
    change (((forIn fs.toList PUnit.unit _ : Sem PUnit).run P w).andThen fun a w' => (pure () : Sem Unit).run P w') = _
    refine (congrArg (fun z => Result.andThen z fun a w' => (pure () : Sem Unit).run P w') hck).trans ?_
    rfl
   ·unfold kInts
    have : (10000 : Nat) = 9999 + 1 := rfl
    rw [this]
    unfold Instr.sameBits
    simp only [beq_self_eq_true, Bool.true_and, List.all_eq_true]
    intro p hp
    obtain ⟨a, b⟩ := p
    have hab : a = b := by
     obtain ⟨j, hj, hx⟩ := List.getElem_of_mem hp
     rw [List.getElem_zip] at hx
     injection hx with h1 h2
     rw [← h1, ← h2]
    subst hab
    have ha := (List.of_mem_zip hp).1
    obtain ⟨i, _, rfl⟩ := List.mem_map.1 ha
    show Instr.sameBits (9998 + 1) (.int .i64 i) (.int .i64 i) = true
    simp [Instr.sameBits]
  ·cases h
 ·cases h
end

section
variable {P : Program} {ops : Array Oper} {Q : Exit → Act → World → Prop} {N : Nat} {w0 : World} {L L' : List Res} {rest : List Oper} {e : Env} {o : Oper} {t : TypeId} {x : Operand} {v : Value} {n : Nat}
end
section
variable {P : Program} {ops : Array Oper} {Q : Exit → Act → World → Prop} {N : Nat} {w0 : World} {L L' : List Res} {rest : List Oper} {e : Env} {o : Oper} {t : TypeId} {x ix : Operand} {v : Value} {n c el sz : Nat} {A : Option Addr} {xs : List Value}
def adr (A : Option Addr) : Addr := A.getD ⟨0, 0, none⟩
theorem own_some {w : World} {el' : TypeId} {sz' : Nat} (s : St w0 L w) (hp : Pick L (Own A n c el' sz' xs) L') (hn : 0 < n) : ∃ g cs, A = some ⟨g, 0, none⟩ ∧ w.heap[g]? = some (.cells cs el' (0, 0)) ∧ cs.toList.take (n * sz') = xs := by
 have hown : w.ownsRow 0 el' sz' (.slice A n c) n xs := (s.pick hp).head
 rcases hown.2 with ⟨_, h0⟩ | ⟨g, cap, cur, hv, _, hg, h1, h2, h3, h4⟩
 ·omega
 ·injection hv with e1 e2 e3
  subst e1 e3
  exact ⟨g, cur, rfl, hg, h4⟩
theorem own_cell {w : World} {el' : TypeId} {sz' i : Nat} {u : Value} (s : St w0 L w) (hp : Pick L (Own A n c el' sz' xs) L') (hn : 0 < n) (hu : xs[i]? = some u) : w.cell? ((adr A).add i) = some u := by
 obtain ⟨g, cs, rfl, hg, ht⟩ := own_some s hp hn
 show w.cell? ((⟨g, 0, none⟩ : Addr).add i) = some u
 rw [add_zero]
 simp only [World.cell?, hg]
 rw [← ht, List.getElem?_take] at hu
 split at hu
 ·simpa using hu
 ·cases hu
theorem w_indexO [CSlice P t el sz] {el' : TypeId} {sz' m : Nat} {k : IntKind} {z : Int} (hop : o.op = .indexAddr t x ix) (hw : wantedE N ops e o = true) (hx : ev N e x = .slice A n c) (hi : ev N e ix = .int k z) (hz : z = (m : Int)) (hm : m < n) (hp : Pick L (Own A n c el' sz' xs) L') :
  Det P ops N w0 L o e (.pointer (some ((adr A).add (m * sz)))) :=
 .inl ⟨hw, fun w s => by
  obtain ⟨g, cs, rfl, _, _⟩ := own_some s hp (by omega)
  rcases w_index (P := P) (ops := ops) (N := N) (w0 := w0) (L := L) (e := e) (o := o) hop hw hx hi hz hm with h | h
  ·exact h.2 w s
  ·rw [hw] at h; cases h.1⟩
theorem w_loadO [CNotAgg P t] {el' : TypeId} {sz' i : Nat} (hop : o.op = .load t x) (hw : wantedE N ops e o = true) (hx : ev N e x = .pointer (some ((adr A).add i))) (hp : Pick L (Own A n c el' sz' xs) L') (hn : 0 < n) (hc : xs[i]? = some v) : Det P ops N w0 L o e v :=
 det_load hop hw hx fun _w s => run_loadVar1 CNotAgg.h (own_cell s hp hn hc)
end
structure Cse where
 (sty : Sty) (bs : List Bun) (ws : List Wrk) (xs : List Scn)
def CaseV (w : World) (v : Value) (c : Cse) : Prop :=
 ∃ v0 v1 v2 v3 v4 v5 v6 vb vw vx, v = .agg #[v0, v1, v2, v3, v4, v5, v6, vb, vw, vx] ∧ StyV w w.heap.size (.agg #[v0, v1, v2, v3, v4, v5, v6]) c.sty ∧ Sl rBun w w.heap.size vb c.bs ∧ Sl rWrk w w.heap.size vw c.ws ∧ Sl rScn w w.heap.size vx c.xs
theorem CaseV.later {w0 w : World} {L : List Res} {v : Value} {c : Cse} (s : St w0 L w) (h : CaseV w0 v c) : CaseV w v c := by
 obtain ⟨v0, v1, v2, v3, v4, v5, v6, vb, vw, vx, rfl, h1, h2, h3, h4⟩ := h
 exact ⟨v0, v1, v2, v3, v4, v5, v6, vb, vw, vx, rfl, StyV.later s h1, h2.later s, h3.later s, h4.later s⟩

def rU8 : Rp Int where
 size := 1
 rep _ _ i cs := cs = [.int .u8 i] ∧ (0 ≤ i ∧ i ≤ 255)
 len h := by rw [h.1]; rfl
 mono _ h := h
 grow _ h := h
theorem Sl.u8 {w : World} {B : Nat} {v : Value} {l : List Int} (h : Sl rU8 w B v l) : ∃ A c, v = .slice A l.length c ∧ l.length ≤ c ∧ l.length ≤ 9223372036854775807 ∧
  ∀ k (hk : k < l.length), ∃ ad, A = some ad ∧ ad.block < B ∧ w.cell? (ad.add (k * 1)) = some (.int .u8 l[k]) ∧ (0 ≤ l[k] ∧ l[k] ≤ 255) := by
 obtain ⟨A, c, hv, h1, h2, h3⟩ := h
 refine ⟨A, c, hv, h1, by unfold maxLen at h2; omega, fun k hk => ?_⟩
 obtain ⟨ad, cs, ha, hlt, hc, rfl, hr⟩ := h3 k hk
 exact ⟨ad, ha, hlt, hc 0 _ rfl, hr⟩

theorem paid_rep {w0 w : World} {B : Nat} {v : Value} {xs : List Scn} {S : Nat → Prop} (hx : Sl rScn w0 B v xs) {q : Scn} (hq : q ∈ xs) : rScn.rep w S q (encX q) := by
 obtain ⟨k, hk, rfl⟩ := List.getElem_of_mem hq
 obtain ⟨A, c, _, _, _, hcell⟩ := hx.scn
 obtain ⟨_, _, _, _, h⟩ := hcell k hk
 exact ⟨rfl, h⟩
theorem list_small {l : List Opn} {n : Int} (h : listE l n = 0) : Small l ∧ ∀ k (hk : k < l.length), 0 ≤ l[k].minutes ∧ l[k].minutes ≤ 10000 := by
 obtain ⟨h1, h2, _⟩ := list_parts h
 have hp : ∀ k (hk : k < l.length), _ := fun k hk => op_parts (l := l) (n := n) (List.getElem?_eq_getElem hk) (firstE_at h2 k hk)
 refine ⟨⟨by omega, fun k hk a ha => ?_⟩, fun k hk => ?_⟩
 ·obtain ⟨_, _, _, c4, _⟩ := hp k hk
  have h3 : areIx l[k].after l.length = true := by
   cases hx : areIx l[k].after l.length with
   | true => rfl
   | false => exact absurd (.inl hx) c4
  exact areIx_at h3 a ha
 ·obtain ⟨_, _, c3, _⟩ := hp k hk
  omega
theorem judge_zero {e : Int} {bs : List Bun} {ws : List Wrk} {n : Nat} (h : judgeAllE e bs ws n = 0) : ScanOk e bs ws ∧ n ≤ 300 := by
 unfold judgeAllE at h
 split at h
 ·rename_i h1; exact absurd h h1
 ·rename_i h1
  split at h
  ·cases h
  ·exact ⟨scan_good (Classical.not_not.1 h1), by omega⟩
theorem scan_ops {s : Sty} {bs : List Bun} {ws : List Wrk} (h : ScanOk (opCheckE s plE) bs ws) : Small s.ops ∧ ∀ k (hk : k < s.ops.length), 0 ≤ s.ops[k].minutes ∧ s.ops[k].minutes ≤ 10000 := list_small (check_parts h.op).2.1
theorem sty_ops {w : World} {v0 v1 v2 v3 v4 v5 v6 : Value} {s : Sty} (h : StyV w w.heap.size (.agg #[v0, v1, v2, v3, v4, v5, v6]) s) : Sl rOp w w.heap.size v6 s.ops := by
 obtain ⟨As, cs, Am, cm, Ap, cp, Au, cu, Ae, ce, Ao, co, he, _, _, _, _, _, _, h6⟩ := h
 injection he with he
 have : (#[v0, v1, v2, v3, v4, v5, v6] : Array Value)[6]? = some v6 := rfl
 rw [he] at this
 injection this with this
 rw [← this]
 exact h6
theorem case_check {w : World} {v : Value} {s : Sty} (h : StyV w w.heap.size v s) : ∀ (L : List Res) (w' : World), St w L w' → Ok Tryz.prog 63 [v].toArray w' fun x _ => x = .int .i64 (opCheckE s plE) := fun _ w' s' => opCheck_ok w' v s (StyV.later s' h)

section
variable {w : World} {v0 v1 v2 v3 v4 v5 v6 vb vw vx : Value} {r le : Int} {s : Sty} {bs : List Bun} {ws : List Wrk} {xs : List Scn}
theorem cPaid_bad (hs : StyV w w.heap.size (.agg #[v0, v1, v2, v3, v4, v5, v6]) s) (hb : Sl rBun w w.heap.size vb bs) (hw : Sl rWrk w w.heap.size vw ws) (hx : Sl rScn w w.heap.size vx xs) (he : ¬ judgeAllE (opCheckE s plE) bs ws xs.length = 0) :
  Ok Tryz.prog 8 [.agg #[v0, v1, v2, v3, v4, v5, v6], vb, vw, vx].toArray w fun x _ => x = .tuple #[.slice none 0 0, .int .i64 (judgeAllE (opCheckE s plE) bs ws xs.length)] := Paid_bad (case_check hs) hb hw hx he
theorem cPaid_ok (hs : StyV w w.heap.size (.agg #[v0, v1, v2, v3, v4, v5, v6]) s) (hb : Sl rBun w w.heap.size vb bs) (hw : Sl rWrk w w.heap.size vw ws) (hx : Sl rScn w w.heap.size vx xs) (he : judgeAllE (opCheckE s plE) bs ws xs.length = 0) :
  OkM Tryz.prog 8 [.agg #[v0, v1, v2, v3, v4, v5, v6], vb, vw, vx].toArray w (fun x : Option Addr × Nat => .tuple #[.slice x.1 (paidL s.ops ws (ticks bs) xs).length x.2, .int .i64 0]) (fun x => [Own x.1 (paidL s.ops ws (ticks bs) xs).length x.2 51 4 ((paidL s.ops ws (ticks bs) xs).flatMap encX)]) :=
 Paid_ok (case_check hs) (sty_ops hs) hb hw hx (scan_ops (judge_zero he).1).1 he
end
def amtF (r le : Int) (l : List Opn) (bs : List Bun) (p : Int × Int) : Int := amtV r le (minAt l p.2) (cntAt bs p.1)
theorem sumI_perm {a b : List Int} (h : a.Perm b) : sumI a = sumI b := by
 induction h with
 | nil => rfl
 | cons x _ ih => rw [sumI_cons, sumI_cons, ih]
 | swap x y l => rw [sumI_cons, sumI_cons, sumI_cons, sumI_cons]; omega
 | trans _ _ ih1 ih2 => rw [ih1, ih2]
theorem sum_sub {α : Type} [DecidableEq α] {f : α → Int} (hf : ∀ p, 0 ≤ f p) : ∀ (a g : List α), a.Nodup → (∀ x ∈ a, x ∈ g) → sumI (a.map f) ≤ sumI (g.map f)
 | [], g, _, _ => sumI_nonneg fun x hx => by obtain ⟨y, _, rfl⟩ := List.mem_map.1 hx; exact hf y
 | x :: a, g, hn, hs => by
  obtain ⟨h1, h2⟩ := List.nodup_cons.1 hn
  have hp := List.perm_cons_erase (hs x List.mem_cons_self)
  rw [sumI_perm (hp.map f), List.map_cons, List.map_cons, sumI_cons, sumI_cons]
  have := sum_sub hf a (g.erase x) h2 fun y hy => (List.mem_erase_of_ne fun he => h1 (by rw [← he]; exact hy)).2 (hs y (List.mem_cons_of_mem _ hy))
  omega
theorem amtF_range (r le : Int) (l : List Opn) (bs : List Bun) (p : Int × Int) : 0 ≤ amtF r le l bs p ∧ amtF r le l bs p ≤ 1000000000 := amtV_range _ _ _ _
/-! ### The pays of the paid scans -/
structure Ret where
 (tick ply op : Int)
 deriving DecidableEq
structure Chg where
 (who tick ply op amt : Int)
 deriving DecidableEq
def rRet : Rp Ret where
 size := 3
 rep _ _ b cs := cs = [.int .i64 b.tick, .int .i64 b.ply, .int .i64 b.op] ∧ inI64 b.tick ∧ inI64 b.ply ∧ inI64 b.op
 len h := by rw [h.1]; rfl
 mono _ h := h
 grow _ h := h
def rChg : Rp Chg where
 size := 5
 rep _ _ b cs := cs = [.int .i64 b.who, .int .i64 b.tick, .int .i64 b.ply, .int .i64 b.op, .int .i64 b.amt] ∧ inI64 b.who ∧ inI64 b.tick ∧ inI64 b.ply ∧ inI64 b.op ∧ inI64 b.amt
 len h := by rw [h.1]; rfl
 mono _ h := h
 grow _ h := h
def encC (c : Chg) : List Value := [.int .i64 c.who, .int .i64 c.tick, .int .i64 c.ply, .int .i64 c.op, .int .i64 c.amt]
def retF (r : Ret) : List Int := [r.tick, r.ply, r.op]
theorem retF_inj (a b : Ret) (h : retF a = retF b) : a = b := by
 cases a; cases b
 simp only [retF, List.cons.injEq, and_true] at h
 obtain ⟨h1, h2, h3⟩ := h
 rw [h1, h2, h3]

def bunAt (bs : List Bun) (t : Int) : Option Bun := bs.find? fun b => decide (b.tick = t)
def bunZ : Bun := ⟨0, 0, 0, 0, 0, 0⟩
def whoAt (ps : List Scn) (t o : Int) : Option Scn := ps.find? fun x => decide (x.tick = t) && decide (x.op = o)
def trE (n : Nat) (bs : List Bun) (ps : List Scn) (r : Ret) : Int := match bunAt bs r.tick with
 | none => 6
 | some b => if r.ply < b.fr ∨ r.ply ≥ b.upto ∨ r.op < 0 ∨ r.op ≥ n then 3 else match whoAt ps r.tick r.op with
  | none => 6
  | some _ => 0
def trW (n : Nat) (bs : List Bun) (ps : List Scn) (r : Ret) : Int := if trE n bs ps r = 0 then ((whoAt ps r.tick r.op).map (·.who)).getD 0 else 0
def trB (n : Nat) (bs : List Bun) (ps : List Scn) (r : Ret) : Bun := if trE n bs ps r = 0 then (bunAt bs r.tick).getD bunZ else bunZ
structure Traced (n : Nat) (bs : List Bun) (ps : List Scn) (r : Ret) (b : Bun) (x : Scn) : Prop where
 bun : bunAt bs r.tick = some b
 ply : b.fr ≤ r.ply ∧ r.ply < b.upto
 op : 0 ≤ r.op ∧ r.op < n
 who : whoAt ps r.tick r.op = some x
 w : trW n bs ps r = x.who
 b : trB n bs ps r = b
theorem trE_zero {n : Nat} {bs : List Bun} {ps : List Scn} {r : Ret} (h : trE n bs ps r = 0) : ∃ b x, Traced n bs ps r b x := by
 have h' := h
 unfold trE at h
 split at h
 ·cases h
 ·rename_i b hb
  split at h
  ·cases h
  ·rename_i hr
   split at h
   ·cases h
   ·rename_i x hx
    refine ⟨b, x, hb, by omega, by omega, hx, ?_, ?_⟩
    ·unfold trW; rw [if_pos h', hx]; rfl
    ·unfold trB; rw [if_pos h', hb]; rfl
theorem trE_bad {n : Nat} {bs : List Bun} {ps : List Scn} {r : Ret} (h : ¬ trE n bs ps r = 0) : trW n bs ps r = 0 ∧ trB n bs ps r = bunZ := by
 unfold trW trB
 rw [if_neg h, if_neg h]
 exact ⟨rfl, rfl⟩
theorem bunAt_mem {bs : List Bun} {t : Int} {b : Bun} (h : bunAt bs t = some b) : b ∈ bs ∧ b.tick = t := ⟨List.mem_of_find?_eq_some h, by simpa using List.find?_some h⟩
theorem whoAt_mem {ps : List Scn} {t o : Int} {x : Scn} (h : whoAt ps t o = some x) : x ∈ ps ∧ x.tick = t ∧ x.op = o := by
 refine ⟨List.mem_of_find?_eq_some h, ?_⟩
 have := List.find?_some h
 simpa using this
theorem cnt_bun {bs : List Bun} {t : Int} {b : Bun} (h : bunAt bs t = some b) : cntAt bs t = b.upto - b.fr := by
 unfold cntAt
 unfold bunAt at h
 rw [h]
 rfl

def frAt (bs : List Bun) (t : Int) : Int := ((bunAt bs t).map (·.fr)).getD 0
def shareOf (r le : Int) (l : List Opn) (bs : List Bun) (x : Ret) : Int := (shL (amtF r le l bs (x.tick, x.op)) (cntAt bs x.tick).toNat).getD (x.ply - frAt bs x.tick).toNat 0
def chgOf (r le : Int) (l : List Opn) (bs : List Bun) (ps : List Scn) (x : Ret) : Chg := ⟨trW l.length bs ps x, x.tick, x.ply, x.op, shareOf r le l bs x⟩
def okR (n : Nat) (bs : List Bun) (ps : List Scn) (x : Ret) : Bool := decide (trE n bs ps x = 0)
section
variable (ok : Ret → Bool)
def nextD (D : List Ret) (x : Ret) : List Ret := if ok x = true ∧ ¬ x ∈ D then D ++ [x] else D
def doneL (xs : List Ret) : List Ret := xs.foldl (nextD ok) []
def outR (D : List Ret) (x : Ret) : Int := if ok x = false then 3 else if x ∈ D then 2 else 1
def outsR : List Ret → List Ret → List Int
 | _, [] => []
 | D, x :: xs => outR ok D x :: outsR (nextD ok D x) xs
end
section
variable {ok : Ret → Bool}
theorem doneL_snoc (xs : List Ret) (x : Ret) : doneL ok (xs ++ [x]) = nextD ok (doneL ok xs) x := by
 unfold doneL
 rw [List.foldl_append]
 rfl
theorem outsR_snoc (x : Ret) : ∀ (xs D : List Ret), outsR ok D (xs ++ [x]) = outsR ok D xs ++ [outR ok (xs.foldl (nextD ok) D) x]
 | [], _ => rfl
 | y :: xs, D => by
  show _ :: outsR ok _ (xs ++ [x]) = _
  rw [outsR_snoc x xs]
  rfl
theorem outsR_len : ∀ (xs D : List Ret), (outsR ok D xs).length = xs.length
 | [], _ => rfl
 | _ :: xs, _ => congrArg (· + 1) (outsR_len xs _)
theorem done_mem' : ∀ (xs D : List Ret) (y : Ret), y ∈ xs.foldl (nextD ok) D ↔ y ∈ D ∨ (y ∈ xs ∧ ok y = true)
 | [], D, y => by simp
 | x :: xs, D, y => by
  rw [List.foldl_cons, done_mem' xs]
  unfold nextD
  by_cases h : ok x = true ∧ ¬ x ∈ D
  ·rw [if_pos h, List.mem_append, List.mem_singleton, List.mem_cons]
   constructor
   ·rintro ((h1 | rfl) | h1)
    ·exact .inl h1
    ·exact .inr ⟨.inl rfl, h.1⟩
    ·exact .inr ⟨.inr h1.1, h1.2⟩
   ·rintro (h1 | ⟨rfl | h1, h2⟩)
    ·exact .inl (.inl h1)
    ·exact .inl (.inr rfl)
    ·exact .inr ⟨h1, h2⟩
  ·rw [if_neg h, List.mem_cons]
   constructor
   ·rintro (h1 | h1)
    ·exact .inl h1
    ·exact .inr ⟨.inr h1.1, h1.2⟩
   ·rintro (h1 | ⟨rfl | h1, h2⟩)
    ·exact .inl h1
    ·by_cases hd : y ∈ D
     ·exact .inl hd
     ·exact absurd ⟨h2, hd⟩ h
    ·exact .inr ⟨h1, h2⟩
theorem done_mem {xs : List Ret} {y : Ret} : y ∈ doneL ok xs ↔ y ∈ xs ∧ ok y = true := by
 unfold doneL
 rw [done_mem']
 simp
theorem done_len' : ∀ (xs D : List Ret), (xs.foldl (nextD ok) D).length ≤ D.length + xs.length
 | [], D => by simp
 | x :: xs, D => by
  have h1 := done_len' xs (nextD ok D x)
  have h2 : (nextD ok D x).length ≤ D.length + 1 := by unfold nextD; split <;> simp
  simp only [List.foldl_cons, List.length_cons]
  omega
theorem done_len (xs : List Ret) : (doneL ok xs).length ≤ xs.length := by
 have := done_len' (ok := ok) xs []
 unfold doneL
 simpa using this
end
def chgL (r le : Int) (l : List Opn) (bs : List Bun) (ps : List Scn) (xs : List Ret) : List Chg := (doneL (okR l.length bs ps) xs).map (chgOf r le l bs ps)

def satI (a b : Int) : Int := if moneyB a = true then a + b else a
def satF (cs : List Chg) (k : Int) : Int := cs.foldl (fun a c => if c.who = k then satI a c.amt else a) 0
theorem satF_snoc (cs : List Chg) (c : Chg) (k : Int) : satF (cs ++ [c]) k = if c.who = k then satI (satF cs k) c.amt else satF cs k := by
 unfold satF
 rw [List.foldl_append]
 rfl
def chgE (c : Chg) : Bool := moneyB c.amt
def netPE (cs : List Chg) (ps : List Pay) (i : Nat) : Int := match ps[i]? with
 | some p => if ((ps.take i).any fun q => decide (q.who = p.who)) = true then 7 else if moneyB p.work = false ∨ moneyB p.top = false ∨ moneyB (p.work + p.top) = false ∨ moneyB (satF cs p.who) = false then 3 else 0
 | none => 0
def netE (cs : List Chg) (ps : List Pay) : Int := if cs.all chgE = false then 3 else firstE (netPE cs ps) ps.length
def netV (cs : List Chg) (p : Pay) : Int := max (p.work - satF cs p.who) 0 + p.top
def netL (cs : List Chg) (ps : List Pay) : List Int := ps.map (netV cs)
theorem sat_range {cs : List Chg} (h : cs.all chgE = true) (k : Int) : 0 ≤ satF cs k ∧ satF cs k ≤ 2199023255552 := by
 have : ∀ (cs : List Chg) (a : Int), cs.all chgE = true → 0 ≤ a ∧ a ≤ 2199023255552 → 0 ≤ cs.foldl (fun a c => if c.who = k then satI a c.amt else a) a ∧ cs.foldl (fun a c => if c.who = k then satI a c.amt else a) a ≤ 2199023255552 := by
  intro cs
  induction cs with
  | nil => intro a _ h; exact h
  | cons c cs ih =>
   intro a hc ha
   rw [List.all_cons, Bool.and_eq_true] at hc
   have h1 := money_iff.1 hc.1
   rw [List.foldl_cons]
   have hn : 0 ≤ (if c.who = k then satI a c.amt else a) ∧ (if c.who = k then satI a c.amt else a) ≤ 2199023255552 := by
    by_cases hk : c.who = k
    ·rw [if_pos hk]
     unfold satI
     by_cases h2 : moneyB a = true
     ·rw [if_pos h2]
      have := money_iff.1 h2
      omega
     ·rw [if_neg h2]
      exact ha
    ·rw [if_neg hk]
     exact ha
   exact ih _ hc.2 hn
 exact this cs 0 h ⟨by decide, by decide⟩
structure Shp where
 (sty : Sty) (bs : List Bun) (ws : List Wrk) (xs : List Scn) (r le : Int)
def ShopV (w : World) (v : Value) (c : Shp) : Prop :=
 ∃ v0 v1 v2 v3 v4 v5 v6 vb vw vx, v = .agg #[v0, v1, v2, v3, v4, v5, v6, vb, vw, vx, .int .i64 c.r, .int .i64 c.le] ∧ StyV w w.heap.size (.agg #[v0, v1, v2, v3, v4, v5, v6]) c.sty ∧ Sl rBun w w.heap.size vb c.bs ∧ Sl rWrk w w.heap.size vw c.ws ∧ Sl rScn w w.heap.size vx c.xs
theorem ShopV.later {w0 w : World} {L : List Res} {v : Value} {c : Shp} (s : St w0 L w) (h : ShopV w0 v c) : ShopV w v c := by
 obtain ⟨v0, v1, v2, v3, v4, v5, v6, vb, vw, vx, rfl, h1, h2, h3, h4⟩ := h
 exact ⟨v0, v1, v2, v3, v4, v5, v6, vb, vw, vx, rfl, StyV.later s h1, h2.later s, h3.later s, h4.later s⟩
theorem Sl.ret {w : World} {B : Nat} {v : Value} {l : List Ret} (h : Sl rRet w B v l) : ∃ A c, v = .slice A l.length c ∧ l.length ≤ c ∧ l.length ≤ 9223372036854775807 ∧
  ∀ k (hk : k < l.length), ∃ ad, A = some ad ∧ ad.block < B ∧ (∀ j u, [Value.int .i64 l[k].tick, .int .i64 l[k].ply, .int .i64 l[k].op][j]? = some u → w.cell? (ad.add (k * 3 + j)) = some u) ∧ inI64 l[k].tick ∧ inI64 l[k].ply ∧ inI64 l[k].op := by
 obtain ⟨A, c, hv, h1, h2, h3⟩ := h
 refine ⟨A, c, hv, h1, by unfold maxLen at h2; omega, fun k hk => ?_⟩
 obtain ⟨ad, cs, ha, hlt, hc, rfl, hr⟩ := h3 k hk
 exact ⟨ad, ha, hlt, hc, hr⟩
theorem Sl.chg {w : World} {B : Nat} {v : Value} {l : List Chg} (h : Sl rChg w B v l) : ∃ A c, v = .slice A l.length c ∧ l.length ≤ c ∧ l.length ≤ 9223372036854775807 ∧
  ∀ k (hk : k < l.length), ∃ ad, A = some ad ∧ ad.block < B ∧ (∀ j u, [Value.int .i64 l[k].who, .int .i64 l[k].tick, .int .i64 l[k].ply, .int .i64 l[k].op, .int .i64 l[k].amt][j]? = some u → w.cell? (ad.add (k * 5 + j)) = some u) ∧ inI64 l[k].who ∧ inI64 l[k].tick ∧ inI64 l[k].ply ∧ inI64 l[k].op ∧ inI64 l[k].amt := by
 obtain ⟨A, c, hv, h1, h2, h3⟩ := h
 refine ⟨A, c, hv, h1, by unfold maxLen at h2; omega, fun k hk => ?_⟩
 obtain ⟨ad, cs, ha, hlt, hc, rfl, hr⟩ := h3 k hk
 exact ⟨ad, ha, hlt, hc, hr⟩
def shS (a : Int) (n k : Nat) : Int := (k : Int) * (a / n) + min (k : Int) (a % n)
theorem shS_next (a : Int) {n : Nat} (hn : 0 < n) (k : Nat) : shS a n (k + 1) = shS a n k + shF a n k := by
 unfold shS shF
 have h1 : ((k + 1 : Nat) : Int) * (a / n) = (k : Int) * (a / n) + a / n := by
  rw [Int.natCast_add, Int.add_mul]
  simp
 have h2 : 0 ≤ a % (n : Int) := Int.emod_nonneg _ (by omega)
 rw [h1]
 split <;> omega
theorem shS_full (a : Int) {n : Nat} (hn : 0 < n) : shS a n n = a := by
 unfold shS
 have h1 := Int.mul_ediv_add_emod a n
 have h2 : a % (n : Int) < n := Int.emod_lt_of_pos _ (by omega)
 rw [Int.min_eq_right (by omega)]
 exact h1
theorem shS_zero (a : Int) {n : Nat} (hn : 0 < n) : shS a n 0 = 0 := by
 have h2 : 0 ≤ a % (n : Int) := Int.emod_nonneg _ (by omega)
 unfold shS
 rw [Int.min_eq_left (by simpa using h2)]
 simp
theorem sh_sum (a : Int) {n : Nat} (hn : 0 < n) : ∀ k, sumI ((List.range k).map (shF a n)) = shS a n k
 | 0 => (shS_zero a hn).symm
 | k + 1 => by rw [List.range_succ, List.map_append, sumI_append, sh_sum a hn k, shS_next a hn]; simp [sumI]
theorem shF_nonneg {a : Int} {n : Nat} (h0 : 0 ≤ a) (i : Nat) : 0 ≤ shF a n i := by
 have h3 : 0 ≤ a / (n : Int) := Int.ediv_nonneg h0 (by omega)
 unfold shF
 split <;> omega
theorem shF_le {a : Int} {n : Nat} (hn : 0 < n) (h0 : 0 ≤ a) {i : Nat} (hi : i < n) : shF a n i ≤ a := by
 have h1 := sh_sum a hn n
 rw [shS_full a hn] at h1
 have h2 := sum_sub (f := shF a n) (fun p => shF_nonneg h0 p) [i] (List.range n) (by simp) (fun x hx => by rw [List.mem_singleton] at hx; subst hx; exact List.mem_range.2 hi)
 rw [h1] at h2
 simpa [sumI] using h2
theorem shL_at {a : Int} {n k : Nat} (hk : k < n) : (shL a n).getD k 0 = shF a n k := by simp [shL, hk]

structure Plies (bs : List Bun) : Prop where
 h : ∀ b ∈ bs, 1 ≤ b.upto - b.fr ∧ b.upto - b.fr ≤ 40
theorem ScanOk.bundles {e : Int} {bs : List Bun} {ws : List Wrk} (h : ScanOk e bs ws) : Plies bs := ⟨fun b hb => by
 obtain ⟨k, hk, rfl⟩ := List.getElem_of_mem hb
 exact h.plies k hk⟩
section
variable {r le : Int} {l : List Opn} {bs : List Bun} {ps : List Scn}
theorem share_at {x : Ret} {b : Bun} {y : Scn} (hp : Plies bs) (h : Traced l.length bs ps x b y) : ∃ n k : Nat, b.upto - b.fr = n ∧ x.ply - b.fr = k ∧ k < n ∧ 1 ≤ n ∧ n ≤ 40 ∧ shareOf r le l bs x = shF (amtF r le l bs (x.tick, x.op)) n k := by
 have h1 := hp.h b (bunAt_mem h.bun).1
 have h2 := h.ply
 refine ⟨(b.upto - b.fr).toNat, (x.ply - b.fr).toNat, by omega, by omega, by omega, by omega, by omega, ?_⟩
 unfold shareOf frAt
 rw [cnt_bun h.bun, h.bun]
 show (shL _ _).getD (x.ply - b.fr).toNat 0 = _
 exact shL_at (by omega)
theorem share_range {x : Ret} (hp : Plies bs) (h : okR l.length bs ps x = true) : 0 ≤ shareOf r le l bs x ∧ shareOf r le l bs x ≤ 1000000000 := by
 obtain ⟨b, y, ht⟩ := trE_zero (of_decide_eq_true h)
 obtain ⟨n, k, _, _, hk, hn, _, he⟩ := share_at (r := r) (le := le) hp ht
 have ha := amtF_range r le l bs (x.tick, x.op)
 rw [he]
 have h1 := shF_nonneg (n := n) ha.1 k
 have h2 := shF_le (by omega) ha.1 hk
 omega
theorem chg_mem {xs : List Ret} {c : Chg} (h : c ∈ chgL r le l bs ps xs) : ∃ x, c = chgOf r le l bs ps x ∧ x ∈ xs ∧ okR l.length bs ps x = true := by
 obtain ⟨x, hx, rfl⟩ := List.mem_map.1 h
 exact ⟨x, rfl, done_mem.1 hx⟩
theorem chg_range (hp : Plies bs) {xs : List Ret} {c : Chg} (h : c ∈ chgL r le l bs ps xs) : 0 ≤ c.amt ∧ c.amt ≤ 1000000000 := by
 obtain ⟨x, rfl, _, hok⟩ := chg_mem h
 exact share_range hp hok
end
section
variable {P : Program} {N : Nat} {w0 : World} {L L' : List Res} {e : Env} {t : TypeId} {n : Nat}
theorem gx_ret3c [CAgg P t n] {fn : Func} {φ : Value → World → Prop} {a b r c : Nat} {bt : TypeId} {cs : Array Value} {u v : Value} (hres : fn.results = #[.tmp a, .cell r t, .tmp c]) (hu : ev N e (.tmp a) = u) (hv : ev N e (.tmp c) = v) (hr : ev N e (.tmp r) = .pointer (some ⟨b, 0, none⟩)) (hp : Pick L (Box b bt cs) L') (hn : cs.size = n) (h : ∀ w, St w0 L w → φ (.tuple #[u, .agg cs, v]) w) :
  GX (Post P fn w0 φ) N w0 L .ret e :=
 gx_ret (fun w s => by
  have hl := run_loadVarN (P := P) (t := t) (cs := cs.toList) (a := ⟨b, 0, none⟩) (w := w) (by rw [Array.length_toList, hn]; exact CAgg.h) fun j u hu => by
   have hadd : (⟨b, 0, none⟩ : Addr).add j = ⟨b, j, none⟩ := by unfold Addr.add; split <;> simp_all
   rw [hadd, Box.cell (s.pick hp).head j]
   simpa using hu
  have hg : (mk N e).tmps.getD r undef = .pointer (some ⟨b, 0, none⟩) := by rw [mk_getD]; exact hr
  have g1 : (mk N e).tmps.getD a undef = u := by rw [mk_getD]; exact hu
  have g2 : (mk N e).tmps.getD c undef = v := by rw [mk_getD]; exact hv
  simp only [Array.getD_eq_getD_getElem?] at hg g1 g2
  simp [results, hres, hg, g1, g2, asAddr, hl]) h
end
theorem find_take {α : Type} {p : α → Bool} {l : List α} {k : Nat} (hk : k < l.length) (h : (l.take k).find? p = none) (hp : p l[k] = true) : l.find? p = some l[k] := by
 have e : (l.take k ++ l[k] :: l.drop (k + 1)).find? p = some l[k] := by
  rw [List.find?_append, h, List.find?_cons, hp]
  rfl
 rwa [List.getElem_cons_drop, List.take_append_drop] at e
theorem find_snoc {α : Type} {p : α → Bool} {l : List α} {k : Nat} (hk : k < l.length) (h : (l.take k).find? p = none) (hp : p l[k] = false) : (l.take (k + 1)).find? p = none := by
 rw [List.take_succ_eq_append_getElem hk, List.find?_append, h]
 simp [hp]
def bunC (b : Bun) : Array Value := #[.int .i64 b.tick, .int .i64 b.garm, .int .i64 b.size, .int .i64 b.lot, .int .i64 b.fr, .int .i64 b.upto]

theorem trace_ok (w : World) (Al : Option Addr) (n cl : Nat) (vb vp : Value) (bs : List Bun) (ps : List Scn) (r : Ret) (hb : Sl rBun w w.heap.size vb bs) (hp : Sl rScn w w.heap.size vp ps) (_hn : n ≤ 9223372036854775807) :
  Ok Tryz.prog 27 [.agg #[.slice Al n cl, vb, vp], .agg #[.int .i64 r.tick, .int .i64 r.ply, .int .i64 r.op]].toArray w fun y _ => y = .tuple #[.int .i64 (trW n bs ps r), .agg (bunC (trB n bs ps r)), .int .i64 (trE n bs ps r)] := by
 obtain ⟨Ab, cb, rfl, hbc, hbm, hbcell⟩ := hb.bun
 obtain ⟨Ap, cp, rfl, hpc, hpm, hpcell⟩ := hp.scn
 refine ok_enter Tryz.func27 rfl Tryz.ntmps27 rfl ?_
 (refine gV ?_; refine gw_boxd (v := .agg _) rfl rfl (fun _ => ?_); refine gw_boxd (v := .agg _) rfl rfl (fun _ => ?_); refine gM ?_; refine w_alloc rfl (fun _ => ?_); refine gM ?_; refine gO ?_; refine gQ ?_; refine gV ?_; refine gF ?_; refine gW (.there (.there .here)) ?_; refine gL ?_; refine gM ?_; refine gO ?_; refine gB ?_)
 refine gc_loopK (σ := Nat) [15, 16, 17, 8, 18, 19, 20, 21, 22, 23, 24, 25, 26, 27, 28, 29, 30, 31, 32, 33, 34, 35, 36, 37, 38, 39, 40, 41, 42, 43, 44, 45, 46, 47, 48, 4, 6, 49, 50, 51, 52, 53, 54, 55, 10, 56, 57, 58, 59, 60, 61, 62, 63, 64, 65, 66, 67, 68, 69, 70, 71, 72, 73, 14] (fun k => [(14, .int .i64 k)]) (fun k => k ≤ bs.length ∧ (bs.take k).find? (fun b => decide (b.tick = r.tick)) = none) (fun k => bs.length - k) 0 ⟨Nat.zero_le _, rfl⟩ ⟨rfl, trivial⟩ ?_
 rintro k base ⟨hk, hI⟩
 (refine gV ?_; refine gC ?_; refine gO ?_; refine gQ ?_)
 refine gc_if_dec rfl (fun h => ?_) (fun h => ?_)
 ·have hlt : k < bs.length := by omega
  obtain ⟨ad, rfl, hbk, hce, _⟩ := hbcell k hlt
  (refine gK ?_; refine gX ?_; refine gQ ?_; refine gB ?_; refine gV ?_; apply gw_d; exact w_index rfl rfl rfl rfl (by with_reducible exact rfl) (by omega); apply gw_d; exact w_load_elem rfl rfl rfl (by assumption) (by assumption) (by rfl); refine w_alloc rfl (fun _ => ?_); refine w_store_all rfl rfl rfl rfl rfl .here rfl ?_; refine gO ?_; refine gQ ?_; refine gV ?_; refine gF ?_; refine gW .here ?_; refine gF ?_; refine gW (.there (.there .here)) ?_; refine gC ?_; refine gO ?_)
  refine gc_if_dec rfl (fun h2 => ?_) (fun h2 => ?_)
  ·(refine gI ?_; refine gZ ?_; refine gJ ?_; refine gX ?_; refine gG ?_; refine gA ?_; refine gM ?_; refine gw_nil ?_)
   exact gx_round (k + 1) ⟨hlt, find_snoc hlt hI (decide_eq_false h2)⟩ (by omega) kK ⟨rfl, trivial⟩ Sub.tail
  have h2' : bs[k].tick = r.tick := by simpa using h2
  have hbun : bunAt bs r.tick = some bs[k] := find_take hlt hI (decide_eq_true h2')
  by_cases hr : r.ply < bs[k].fr ∨ r.ply ≥ bs[k].upto ∨ r.op < 0 ∨ r.op ≥ n
  ·have hE : trE n bs ps r = 3 := by
    unfold trE
    rw [hbun]
    dsimp only
    rw [if_pos hr]
   obtain ⟨hW, hB⟩ := trE_bad (n := n) (bs := bs) (ps := ps) (r := r) (by rw [hE]; decide)
   rw [hE, hW, hB]
   focus (refine gK ?_; refine gX ?_; refine gQ ?_; refine gV ?_; refine gF ?_; refine gW (.there (.there .here)) ?_; refine gF ?_; refine gW .here ?_; refine gC ?_; refine gM ?_; refine gD (fun _ => ?_) (fun _ => ?_); (iterate 5 refine gU ?_); refine gPp ?_; refine gM ?_; (iterate 3 refine gU ?_); refine gPp ?_; refine gM ?_; (iterate 6 refine gU ?_); refine gPp ?_; refine gO ?_; refine gc_if_true rfl ?_; refine gV ?_; apply gw_d; exact w_buildP [] (cells := #[.int .i64 0, .int .i64 0, .int .i64 0, .int .i64 0, .int .i64 0, .int .i64 0]) (by kernel_rfl) rfl rfl rfl; refine gM ?_; refine w_store_all rfl rfl rfl rfl rfl (.there .here) rfl ?_; refine gM ?_; refine gO ?_; refine gR ?_; refine gT ?_; refine gY ?_; (iterate 2 refine gT ?_); refine gY ?_; refine gT ?_; rotate_left; refine gF ?_; refine gW (.there (.there .here)) ?_; refine gF ?_; refine gW .here ?_; refine gC ?_; refine gPq ?_; refine gM ?_; refine gD (fun _ => ?_) (fun _ => ?_); (iterate 3 refine gU ?_); refine gPp ?_; refine gM ?_; (iterate 6 refine gU ?_); refine gPp ?_; refine gO ?_; refine gc_if_true rfl ?_; refine gV ?_; apply gw_d; exact w_buildP [] (cells := #[.int .i64 0, .int .i64 0, .int .i64 0, .int .i64 0, .int .i64 0, .int .i64 0]) (by kernel_rfl) rfl rfl rfl; refine gM ?_; refine w_store_all rfl rfl rfl rfl rfl (.there .here) rfl ?_; refine gM ?_; refine gO ?_; refine gR ?_; refine gT ?_; refine gY ?_; (iterate 2 refine gT ?_); refine gY ?_; refine gT ?_; rotate_left; refine gF ?_; refine gW (.there (.there .here)) ?_; refine gC ?_; refine gPq ?_; refine gM ?_; refine gD (fun _ => ?_) (fun _ => ?_); (iterate 6 refine gU ?_); refine gPp ?_; refine gO ?_; refine gc_if_true rfl ?_; refine gV ?_; apply gw_d; exact w_buildP [] (cells := #[.int .i64 0, .int .i64 0, .int .i64 0, .int .i64 0, .int .i64 0, .int .i64 0]) (by kernel_rfl) rfl rfl rfl; refine gM ?_; refine w_store_all rfl rfl rfl rfl rfl (.there .here) rfl ?_; refine gM ?_; refine gO ?_; refine gR ?_; refine gT ?_; refine gY ?_; (iterate 2 refine gT ?_); refine gY ?_; refine gT ?_; rotate_left; refine gF ?_; refine gW (.there (.there .here)) ?_; refine gF ?_; refine gW (.there (.there (.there .here))) ?_; refine gL ?_; refine gC ?_; refine gPq ?_; refine gO ?_; refine gc_if_dec rfl (fun _ => ?_) (fun _ => ?_); refine gV ?_; apply gw_d; exact w_buildP [] (cells := #[.int .i64 0, .int .i64 0, .int .i64 0, .int .i64 0, .int .i64 0, .int .i64 0]) (by kernel_rfl) rfl rfl rfl; refine gM ?_; refine w_store_all rfl rfl rfl rfl rfl (.there .here) rfl ?_; refine gM ?_; refine gO ?_; refine gR ?_; refine gT ?_; refine gY ?_; (iterate 2 refine gT ?_); refine gY ?_; refine gT ?_; rotate_left; refine gK ?_; refine gX ?_; refine gQ ?_; refine gV ?_; refine gF ?_; refine gW (.there (.there (.there .here))) ?_; refine gL ?_; refine gM ?_; refine gO ?_; refine gB ?_; rotate_left)
   all_goals first | (exfalso; omega) | skip
   all_goals exact gx_ret3c (cs := #[.int .i64 0, .int .i64 0, .int .i64 0, .int .i64 0, .int .i64 0, .int .i64 0]) rfl rfl rfl rfl .here rfl (fun _ _ => rfl)
  focus (refine gK ?_; refine gX ?_; refine gQ ?_; refine gV ?_; refine gF ?_; refine gW (.there (.there .here)) ?_; refine gF ?_; refine gW .here ?_; refine gC ?_; refine gM ?_; refine gD (fun _ => ?_) (fun _ => ?_); (iterate 5 refine gU ?_); refine gPp ?_; refine gM ?_; (iterate 3 refine gU ?_); refine gPp ?_; refine gM ?_; (iterate 6 refine gU ?_); refine gPp ?_; refine gO ?_; refine gc_if_true rfl ?_; refine gV ?_; rotate_left; refine gF ?_; refine gW (.there (.there .here)) ?_; refine gF ?_; refine gW .here ?_; refine gC ?_; refine gPq ?_; refine gM ?_; refine gD (fun _ => ?_) (fun _ => ?_); (iterate 3 refine gU ?_); refine gPp ?_; refine gM ?_; (iterate 6 refine gU ?_); refine gPp ?_; refine gO ?_; refine gc_if_true rfl ?_; refine gV ?_; rotate_left; refine gF ?_; refine gW (.there (.there .here)) ?_; refine gC ?_; refine gPq ?_; refine gM ?_; refine gD (fun _ => ?_) (fun _ => ?_); (iterate 6 refine gU ?_); refine gPp ?_; refine gO ?_; refine gc_if_true rfl ?_; refine gV ?_; rotate_left; refine gF ?_; refine gW (.there (.there .here)) ?_; refine gF ?_; refine gW (.there (.there (.there .here))) ?_; refine gL ?_; refine gC ?_; refine gPq ?_; refine gO ?_; refine gc_if_dec rfl (fun _ => ?_) (fun _ => ?_); refine gV ?_; rotate_left; refine gK ?_; refine gX ?_; refine gQ ?_; refine gV ?_; refine gF ?_; refine gW (.there (.there (.there .here))) ?_; refine gL ?_; refine gM ?_; refine gO ?_; refine gB ?_; rotate_left)
  all_goals first | (exfalso; omega) | skip
  have hnE : trE n bs ps r = (match whoAt ps r.tick r.op with | none => (6 : Int) | some _ => 0) := by
   unfold trE
   rw [hbun]
   dsimp only
   rw [if_neg hr]
   try rfl
  refine gc_loopK (σ := Nat) [53, 54, 55, 10, 56, 57, 58, 59, 60, 61, 62, 63, 64, 65, 66, 67, 68, 69, 70, 4, 6, 71, 52] (fun j => [(52, .int .i64 j)]) (fun j => j ≤ ps.length ∧ (ps.take j).find? (fun x => decide (x.tick = r.tick) && decide (x.op = r.op)) = none) (fun j => ps.length - j) 0 ⟨Nat.zero_le _, rfl⟩ ⟨rfl, trivial⟩ ?_
  rintro j base2 ⟨hj, hJ⟩
  (refine gV ?_; refine gC ?_; refine gO ?_; refine gQ ?_)
  refine gc_if_dec rfl (fun h3 => ?_) (fun h3 => ?_)
  ·have hjl : j < ps.length := by omega
   obtain ⟨ad2, rfl, hpk, hcp, _⟩ := hpcell j hjl
   by_cases hm : ps[j].tick = r.tick ∧ ps[j].op = r.op
   ·have hwho : whoAt ps r.tick r.op = some ps[j] := find_take hjl hJ (by rw [decide_eq_true hm.1, decide_eq_true hm.2]; rfl)
    have hE : trE n bs ps r = 0 := by rw [hnE, hwho]
    have hW : trW n bs ps r = ps[j].who := by unfold trW; rw [if_pos hE, hwho]; rfl
    have hB : trB n bs ps r = bs[k] := by unfold trB; rw [if_pos hE, hbun]; rfl
    rw [hE, hW, hB]
    (refine gK ?_; refine gX ?_; refine gQ ?_; refine gB ?_; refine gV ?_; apply gw_d; exact w_index rfl rfl rfl rfl (by with_reducible exact rfl) (by omega); apply gw_d; exact w_load_elem rfl rfl rfl (by assumption) (by assumption) (by rfl); refine w_alloc rfl (fun _ => ?_); refine w_store_all rfl rfl rfl rfl rfl .here rfl ?_; refine gN ?_; refine gF ?_; refine gW .here ?_; refine gF ?_; refine gW (.there (.there (.there .here))) ?_; refine gC ?_; refine gM ?_)
    focus (refine gD (fun _ => ?_) (fun _ => ?_); refine gF ?_; refine gW .here ?_; refine gF ?_; refine gW (.there (.there (.there .here))) ?_; refine gC ?_; refine gPp ?_; refine gO ?_; refine gc_if_dec rfl (fun _ => ?_) (fun _ => ?_); refine gQ ?_; rotate_left; refine gK ?_; refine gH ?_; refine gX ?_; refine gG ?_; refine gA ?_; refine gM ?_; refine gw_nil ?_; rotate_left; (iterate 5 refine gU ?_); refine gPq ?_; refine gO ?_; refine gc_if_false rfl ?_; refine gK ?_; refine gH ?_; refine gX ?_; refine gG ?_; refine gA ?_; refine gM ?_; refine gw_nil ?_; rotate_left)
    all_goals first | (exfalso; omega) | skip
    refine gc_draw 4 (by kernel_rfl) (by kernel_rfl) ?_
    (apply gd_d; exact w_field rfl rfl rfl; apply gd_d; exact w_load_box rfl rfl rfl .here rfl; apply gd_d; exact w_load_boxN rfl rfl rfl (.there .here) rfl; refine dM ?_; refine gd_nil ?_; refine w_store_all rfl rfl rfl rfl rfl (.there (.there .here)) rfl ?_; refine gM ?_; refine gO ?_; refine gR ?_; refine gY ?_; (iterate 2 refine gT ?_); refine gY ?_; refine gT ?_; refine gY ?_; (iterate 2 refine gT ?_); refine gY ?_; refine gT ?_)
    exact gx_ret3c (cs := bunC bs[k]) rfl rfl rfl rfl .here rfl (fun _ _ => rfl)
   ·have hJ' := find_snoc hjl hJ (by
     cases hx : (decide (ps[j].tick = r.tick) && decide (ps[j].op = r.op)) with
     | false => rfl
     | true =>
      rw [Bool.and_eq_true, decide_eq_true_eq, decide_eq_true_eq] at hx
      exact absurd hx hm)
    (refine gK ?_; refine gX ?_; refine gQ ?_; refine gB ?_; refine gV ?_; apply gw_d; exact w_index rfl rfl rfl rfl (by with_reducible exact rfl) (by omega); apply gw_d; exact w_load_elem rfl rfl rfl (by assumption) (by assumption) (by rfl); refine w_alloc rfl (fun _ => ?_); refine w_store_all rfl rfl rfl rfl rfl .here rfl ?_; refine gN ?_; refine gF ?_; refine gW .here ?_; refine gF ?_; refine gW (.there (.there (.there .here))) ?_; refine gC ?_; refine gM ?_)
    focus (refine gD (fun _ => ?_) (fun _ => ?_); refine gF ?_; refine gW .here ?_; refine gF ?_; refine gW (.there (.there (.there .here))) ?_; refine gC ?_; refine gPp ?_; refine gO ?_; refine gc_if_dec rfl (fun _ => ?_) (fun _ => ?_); refine gQ ?_; rotate_left; refine gK ?_; refine gH ?_; refine gX ?_; refine gG ?_; refine gA ?_; refine gM ?_; refine gw_nil ?_; rotate_left; (iterate 5 refine gU ?_); refine gPq ?_; refine gO ?_; refine gc_if_false rfl ?_; refine gK ?_; refine gH ?_; refine gX ?_; refine gG ?_; refine gA ?_; refine gM ?_; refine gw_nil ?_; rotate_left)
    all_goals first | (exfalso; exact hm ⟨by assumption, by assumption⟩) | skip
    all_goals exact gx_round (j + 1) ⟨by omega, hJ'⟩ (by omega) kK ⟨rfl, trivial⟩ Sub.tail
  ·obtain rfl : j = ps.length := by omega
   rw [List.take_length] at hJ
   have hE : trE n bs ps r = 6 := by unfold whoAt at hnE; rw [hnE, hJ]
   obtain ⟨hW, hB⟩ := trE_bad (n := n) (bs := bs) (ps := ps) (r := r) (by rw [hE]; decide)
   rw [hE, hW, hB]
   (refine gI ?_; (iterate 2 refine gZ ?_); refine gJ ?_; refine gX ?_; refine gV ?_; apply gw_d; exact w_buildP [] (cells := #[.int .i64 0, .int .i64 0, .int .i64 0, .int .i64 0, .int .i64 0, .int .i64 0]) (by kernel_rfl) rfl rfl rfl; refine gM ?_; refine w_store_all rfl rfl rfl rfl rfl (.there .here) rfl ?_; refine gM ?_; refine gO ?_; refine gR ?_; refine gY ?_; (iterate 2 refine gT ?_); refine gY ?_; refine gT ?_)
   exact gx_ret3c (cs := #[.int .i64 0, .int .i64 0, .int .i64 0, .int .i64 0, .int .i64 0, .int .i64 0]) rfl rfl rfl rfl .here rfl (fun _ _ => rfl)
 ·obtain rfl : k = bs.length := by omega
  rw [List.take_length] at hI
  have hE : trE n bs ps r = 6 := by unfold trE bunAt; rw [hI]
  obtain ⟨hW, hB⟩ := trE_bad (n := n) (bs := bs) (ps := ps) (r := r) (by rw [hE]; decide)
  rw [hE, hW, hB]
  (refine gI ?_; (iterate 2 refine gZ ?_); refine gJ ?_; refine gX ?_; refine gV ?_; apply gw_d; exact w_buildP [] (cells := #[.int .i64 0, .int .i64 0, .int .i64 0, .int .i64 0, .int .i64 0, .int .i64 0]) (by kernel_rfl) rfl rfl rfl; refine gM ?_; refine w_store_all rfl rfl rfl rfl rfl .here rfl ?_; refine gM ?_; refine gO ?_; refine gR ?_)
  exact gx_ret3c (cs := #[.int .i64 0, .int .i64 0, .int .i64 0, .int .i64 0, .int .i64 0, .int .i64 0]) rfl rfl rfl rfl .here rfl (fun _ _ => rfl)

section
variable {w : World} {v0 v1 v2 v3 v4 v5 v6 vb vw vx : Value} {s : Sty} {bs : List Bun} {ws : List Wrk} {xs : List Scn}
theorem Trace_ok (r : Ret) (hs : StyV w w.heap.size (.agg #[v0, v1, v2, v3, v4, v5, v6]) s) (hb : Sl rBun w w.heap.size vb bs) (hw : Sl rWrk w w.heap.size vw ws) (hx : Sl rScn w w.heap.size vx xs) (he : judgeAllE (opCheckE s plE) bs ws xs.length = 0) :
  Ok Tryz.prog 19 [.agg #[v0, v1, v2, v3, v4, v5, v6], vb, vw, vx, .agg #[.int .i64 r.tick, .int .i64 r.ply, .int .i64 r.op]].toArray w fun x _ => x = .tuple #[.int .i64 (trW s.ops.length bs (paidL s.ops ws (ticks bs) xs) r), .int .i64 (trE s.ops.length bs (paidL s.ops ws (ticks bs) xs) r)] := by
 have h6 := sty_ops hs
 obtain ⟨Al, cl, rfl, hlc, hlm⟩ := len_small h6
 obtain ⟨Ab, cb, rfl, hbc, hbm⟩ := len_small hb
 have hD : ∀ (L : List Res) (w' : World), St w L w' → OkM Tryz.prog 8 [.agg #[v0, v1, v2, v3, v4, v5, .slice Al s.ops.length cl], .slice Ab bs.length cb, vw, vx].toArray w' (fun x : Option Addr × Nat => .tuple #[.slice x.1 (paidL s.ops ws (ticks bs) xs).length x.2, .int .i64 0]) (fun x => [Own x.1 (paidL s.ops ws (ticks bs) xs).length x.2 51 4 ((paidL s.ops ws (ticks bs) xs).flatMap encX)]) := fun L w' s' => cPaid_ok (StyV.later s' hs) (hb.later s') (hw.later s') (hx.later s') he
 have hT : ∀ (L : List Res) (w' : World) (A : Option Addr) (k : Nat), St w (Own A (paidL s.ops ws (ticks bs) xs).length k 51 4 ((paidL s.ops ws (ticks bs) xs).flatMap encX) :: L) w' → Ok Tryz.prog 27 [.agg #[.slice Al s.ops.length cl, .slice Ab bs.length cb, .slice A (paidL s.ops ws (ticks bs) xs).length k], .agg #[.int .i64 r.tick, .int .i64 r.ply, .int .i64 r.op]].toArray w' fun y _ => y = .tuple #[.int .i64 (trW s.ops.length bs (paidL s.ops ws (ticks bs) xs) r), .agg (bunC (trB s.ops.length bs (paidL s.ops ws (ticks bs) xs) r)), .int .i64 (trE s.ops.length bs (paidL s.ops ws (ticks bs) xs) r)] := fun L w' A k s' =>
  trace_ok w' Al s.ops.length cl _ _ bs (paidL s.ops ws (ticks bs) xs) r (hb.later s') (Sl.own (R := rScn) (enc := encX) s' .here rfl (fun q hq => paid_rep hx (paid_mem hq))) hlm
 generalize paidL s.ops ws (ticks bs) xs = ps at hD hT
 refine ok_enter Tryz.func19 rfl Tryz.ntmps19 rfl ?_
 (refine gV ?_; refine gw_boxd (v := .agg _) rfl rfl (fun _ => ?_); refine gw_boxd (v := .agg _) rfl rfl (fun _ => ?_); (iterate 2 refine gM ?_); refine gN ?_; apply gw_d; exact w_load_boxN rfl rfl rfl (.there .here) rfl; (iterate 3 refine gM ?_))
 refine gw_callm rfl (hD _) rfl (fun x => ?_)
 obtain ⟨A, ca⟩ := x
 (refine gM ?_; apply gw_d; exact det_extract rfl rfl rfl (by conv => (lhs; whnf)); apply gw_d; exact det_extract rfl rfl rfl (by conv => (lhs; whnf)); (iterate 2 refine gM ?_); refine gO ?_; refine gQ ?_; refine gV ?_; refine gM ?_; refine gC ?_; refine gO ?_)
 refine gc_if_dec rfl (fun h => absurd rfl h) (fun _ => ?_)
 (refine gK ?_; refine gX ?_; refine gV ?_; refine gF ?_; refine gW (.there (.there .here)) ?_; (iterate 2 refine gM ?_); apply gw_d; exact w_buildP [(0, .slice Al s.ops.length cl), (1, .slice Ab bs.length cb), (2, .slice A ps.length ca)] (cells := #[.slice Al s.ops.length cl, .slice Ab bs.length cb, .slice A ps.length ca]) (by kernel_rfl) rfl rfl rfl; apply gw_d; exact w_load_boxN rfl rfl rfl (.there .here) rfl; apply gw_d; exact w_call rfl rfl (fun w' s' => hT _ w' A ca s') rfl; refine gM ?_; apply gw_d; exact det_extract rfl rfl rfl (by conv => (lhs; whnf)); apply gw_d; exact det_extract rfl rfl rfl (by conv => (lhs; whnf)); apply gw_d; exact det_extract rfl rfl rfl (by conv => (lhs; whnf)); refine w_alloc rfl (fun _ => ?_); refine gM ?_; refine w_store_all rfl rfl rfl rfl rfl .here rfl ?_; refine gM ?_; refine gN ?_; (iterate 4 refine gM ?_); refine gO ?_; refine gR ?_)
 refine gx_ret2 (u := .int _ _) (v := .int _ _) rfl rfl rfl (fun _ _ => ?_)
 rfl
end
theorem part_ok (w : World) (hL : Lay w) (r le mach mins ply : Int) (nm : ByteArray) (Aa Au : Option Addr) (na ca nu cu : Nat) (b : Bun) (ht : tarE r le = 0) (hM : 0 ≤ mins ∧ mins ≤ 10000) (hb : 1 ≤ b.upto - b.fr ∧ b.upto - b.fr ≤ 40) (hp : b.fr ≤ ply ∧ ply < b.upto) :
  Ok Tryz.prog 28 [.agg #[.int .i64 r, .int .i64 le], .agg #[.string nm, .int .i64 mach, .int .i64 mins, .slice Aa na ca, .slice Au nu cu], .agg (bunC b), .int .i64 ply].toArray w fun y _ => y = .tuple #[.int .i64 ((shL (amtV r le mins (b.upto - b.fr)) (b.upto - b.fr).toNat).getD (ply - b.fr).toNat 0), .int .i64 0] := by
 obtain ⟨n, hn⟩ : ∃ n : Nat, b.upto - b.fr = (n : Int) := ⟨(b.upto - b.fr).toNat, by omega⟩
 obtain ⟨k, hk⟩ : ∃ k : Nat, ply - b.fr = (k : Int) := ⟨(ply - b.fr).toNat, by omega⟩
 have hkn : k < n := by omega
 have hamE : amtE r le mins (n : Int) = 0 := by
  unfold amtE
  rw [if_neg (by rw [ht]; decide), if_neg (by omega)]
 have har := amtV_range r le mins (n : Int)
 have hAm : ∀ (L : List Res) (w' : World), St w L w' → Ok Tryz.prog 11 [.agg #[.int .i64 r, .int .i64 le], .int .i64 mins, .int .i64 (b.upto - b.fr)].toArray w' fun y _ => y = .tuple #[.int .i64 (amtV r le mins (n : Int)), .int .i64 0] := fun L w' s => by
  have := wAmount_ok w' r le mins (n : Int) (hL.later s)
  rw [hamE, ← hn] at this
  rw [← hn]
  exact this
 have hsh : shE (amtV r le mins (n : Int)) n = 0 := by
  unfold shE
  rw [if_neg]
  rw [money_iff.2 (by omega)]
  simp
  omega
 have hS : ∀ (L : List Res) (w' : World), St w L w' → OkM Tryz.prog 30 [.int .i64 (amtV r le mins (n : Int)), .int .i64 (b.upto - b.fr)].toArray w' (fun b : Nat => .tuple #[.slice (some ⟨b, 0, none⟩) n n, .int .i64 0]) (fun b => [Box b 3 ((shL (amtV r le mins (n : Int)) n).map (Value.int .i64)).toArray]) := fun L w' s => by
  rw [hn]
  exact wShare_good w' _ n hsh
 have hlen := shL_len (amtV r le mins (n : Int)) n
 have hrow : ((shL (amtV r le mins (n : Int)) n).map (Value.int .i64)).toArray[k * 1]? = some (.int .i64 ((shL (amtV r le mins (n : Int)) n).getD k 0)) := row_get (Value.int .i64) 0 (by omega)
 have e1 : (b.upto - b.fr).toNat = n := by omega
 have e2 : (ply - b.fr).toNat = k := by omega
 rw [e1, e2, show amtV r le mins (b.upto - b.fr) = amtV r le mins (n : Int) from by rw [hn]]
 unfold bunC
 refine ok_enter Tryz.func28 rfl Tryz.ntmps28 rfl ?_
 (refine gV ?_; refine gw_boxd (v := .agg _) rfl rfl (fun _ => ?_); refine gw_boxd (v := .agg _) rfl rfl (fun _ => ?_); refine gw_boxd (v := .agg _) rfl rfl (fun _ => ?_); (iterate 2 refine gM ?_); refine gN ?_; refine gF ?_; refine gW .here ?_; refine gF ?_; refine gW .here ?_; refine gA ?_; refine gM ?_; refine gN ?_; apply gw_d; exact w_load_boxN rfl rfl rfl (.there (.there .here)) rfl; refine gF ?_; refine gW (.there .here) ?_; refine gM ?_; apply gw_d; exact w_call rfl rfl (hAm _) rfl; refine gM ?_; apply gw_d; exact det_extract rfl rfl rfl (by conv => (lhs; whnf)); apply gw_d; exact det_extract rfl rfl rfl (by conv => (lhs; whnf)); (iterate 2 refine gM ?_); refine gO ?_; refine gQ ?_; refine gV ?_; refine gM ?_; refine gC ?_; refine gO ?_)
 refine gc_if_dec rfl (fun h => absurd rfl h) (fun _ => ?_)
 (refine gK ?_; refine gX ?_; refine gV ?_; (iterate 2 refine gM ?_))
 refine gw_callm rfl (hS _) rfl (fun g => ?_)
 (refine gM ?_; apply gw_d; exact det_extract rfl rfl rfl (by conv => (lhs; whnf)); apply gw_d; exact det_extract rfl rfl rfl (by conv => (lhs; whnf)); (iterate 2 refine gM ?_); refine gO ?_; refine gQ ?_; refine gV ?_; refine gM ?_; refine gC ?_; refine gO ?_)
 refine gc_if_dec rfl (fun h => absurd rfl h) (fun _ => ?_)
 (refine gK ?_; refine gX ?_; refine gV ?_; (iterate 2 refine gM ?_); refine gF ?_; refine gW (.there .here) ?_; refine gA ?_; apply gw_d; exact w_index (m := k) rfl rfl rfl rfl hk hkn; apply gw_d; exact w_load_row rfl rfl rfl .here hrow; (iterate 2 refine gM ?_); refine gO ?_; refine gR ?_)
 refine gx_ret2 (u := .int _ _) (v := .int _ _) rfl rfl rfl (fun _ _ => ?_)
 rfl

def chgErr (r le e : Int) (bs : List Bun) (ws : List Wrk) (nx nl : Nat) : Int := if nl > 300 then 5 else if ¬ judgeAllE e bs ws nx = 0 then judgeAllE e bs ws nx else tarE r le
theorem chgErr_zero {r le e : Int} {bs : List Bun} {ws : List Wrk} {nx nl : Nat} (h : chgErr r le e bs ws nx nl = 0) : nl ≤ 300 ∧ judgeAllE e bs ws nx = 0 ∧ tarE r le = 0 := by
 unfold chgErr at h
 split at h
 ·cases h
 ·rename_i h1
  split at h
  ·rename_i h2; exact absurd h h2
  ·rename_i h2; exact ⟨by omega, Classical.not_not.1 h2, h⟩
section
variable {w : World} {v0 v1 v2 v3 v4 v5 v6 vb vw vx vl : Value} {r le : Int} {s : Sty} {bs : List Bun} {ws : List Wrk} {xs : List Scn} {l : List Ret}
theorem Charges_bad (hL : Lay w) (hs : StyV w w.heap.size (.agg #[v0, v1, v2, v3, v4, v5, v6]) s) (hb : Sl rBun w w.heap.size vb bs) (hw : Sl rWrk w w.heap.size vw ws) (hx : Sl rScn w w.heap.size vx xs) (hl : Sl rRet w w.heap.size vl l) (he : ¬ chgErr r le (opCheckE s plE) bs ws xs.length l.length = 0) :
  Ok Tryz.prog 10 [.agg #[v0, v1, v2, v3, v4, v5, v6], vb, vw, vx, .agg #[.int .i64 r, .int .i64 le], vl].toArray w fun x _ => x = .tuple #[.slice none 0 0, .slice none 0 0, .int .i64 (chgErr r le (opCheckE s plE) bs ws xs.length l.length)] := by
 obtain ⟨Al, cl, rfl, hlc, hlm, _⟩ := hl.ret
 by_cases h1 : l.length > 300
 ·have hE : chgErr r le (opCheckE s plE) bs ws xs.length l.length = 5 := by unfold chgErr; rw [if_pos h1]
  rw [hE]
  refine ok_enter Tryz.func10 rfl Tryz.ntmps10 rfl ?_
  (refine gV ?_; refine gw_boxd (v := .agg _) rfl rfl (fun _ => ?_); refine gw_boxd (v := .agg _) rfl rfl (fun _ => ?_); (iterate 3 refine gM ?_); refine gO ?_; refine gQ ?_; refine gV ?_; refine gM ?_; refine gL ?_; refine gC ?_; refine gO ?_)
  refine gc_if_dec rfl (fun _ => ?_) (fun h => by omega)
  (refine gV ?_; (iterate 3 refine gM ?_); refine gO ?_; refine gR ?_; refine gT ?_)
  refine gx_ret3 (u := .slice _ _ _) (v := .slice _ _ _) (x := .int _ _) rfl rfl rfl rfl (fun _ _ => ?_)
  rfl
 by_cases h2 : judgeAllE (opCheckE s plE) bs ws xs.length = 0
 ·have hE : chgErr r le (opCheckE s plE) bs ws xs.length l.length = tarE r le := by unfold chgErr; rw [if_neg h1, if_neg (by rw [h2]; decide)]
  rw [hE] at he ⊢
  have hC : ∀ (L : List Res) (w' : World), St w L w' → Ok Tryz.prog 9 [.agg #[.int .i64 r, .int .i64 le]].toArray w' fun x _ => x = .int .i64 (tarE r le) := fun L w' s => wCheck_ok w' r le (hL.later s)
  have hD : ∀ (L : List Res) (w' : World), St w L w' → OkM Tryz.prog 8 [.agg #[v0, v1, v2, v3, v4, v5, v6], vb, vw, vx].toArray w' (fun x : Option Addr × Nat => .tuple #[.slice x.1 (paidL s.ops ws (ticks bs) xs).length x.2, .int .i64 0]) (fun x => [Own x.1 (paidL s.ops ws (ticks bs) xs).length x.2 51 4 ((paidL s.ops ws (ticks bs) xs).flatMap encX)]) := fun L w' s' => cPaid_ok (StyV.later s' hs) (hb.later s') (hw.later s') (hx.later s') h2
  refine ok_enter Tryz.func10 rfl Tryz.ntmps10 rfl ?_
  (refine gV ?_; refine gw_boxd (v := .agg _) rfl rfl (fun _ => ?_); refine gw_boxd (v := .agg _) rfl rfl (fun _ => ?_); (iterate 3 refine gM ?_); refine gO ?_; refine gQ ?_; refine gV ?_; refine gM ?_; refine gL ?_; refine gC ?_; refine gO ?_)
  refine gc_if_dec rfl (fun h => by omega) (fun _ => ?_)
  (refine gK ?_; refine gX ?_; refine gV ?_; apply gw_d; exact w_load_boxN rfl rfl rfl (.there .here) rfl; (iterate 3 refine gM ?_))
  refine gw_callm rfl (hD _) rfl (fun x => ?_)
  obtain ⟨A, ca⟩ := x
  (refine gM ?_; apply gw_d; exact det_extract rfl rfl rfl (by conv => (lhs; whnf)); apply gw_d; exact det_extract rfl rfl rfl (by conv => (lhs; whnf)); (iterate 2 refine gM ?_); refine gO ?_; refine gQ ?_; refine gV ?_; refine gM ?_; refine gC ?_; refine gO ?_)
  refine gc_if_dec rfl (fun h => absurd rfl h) (fun _ => ?_)
  (refine gK ?_; refine gX ?_; refine gQ ?_; refine gV ?_; apply gw_d; exact w_load_boxN rfl rfl rfl (.there .here) rfl; apply gw_d; exact w_call rfl rfl (hC _) rfl; refine gM ?_; refine gN ?_; refine gM ?_; refine gC ?_; refine gO ?_)
  refine gc_if_dec rfl (fun _ => ?_) (fun h => absurd he h)
  (refine gV ?_; (iterate 4 refine gM ?_); refine gO ?_; refine gR ?_; refine gT ?_)
  refine gx_ret3 (u := .slice _ _ _) (v := .slice _ _ _) (x := .int _ _) rfl rfl rfl rfl (fun _ _ => ?_)
  rfl
 ·have hE : chgErr r le (opCheckE s plE) bs ws xs.length l.length = judgeAllE (opCheckE s plE) bs ws xs.length := by unfold chgErr; rw [if_neg h1, if_pos h2]
  rw [hE]
  have hD : ∀ (L : List Res) (w' : World), St w L w' → Ok Tryz.prog 8 [.agg #[v0, v1, v2, v3, v4, v5, v6], vb, vw, vx].toArray w' fun x _ => x = .tuple #[.slice none 0 0, .int .i64 (judgeAllE (opCheckE s plE) bs ws xs.length)] := fun L w' s' => cPaid_bad (StyV.later s' hs) (hb.later s') (hw.later s') (hx.later s') h2
  refine ok_enter Tryz.func10 rfl Tryz.ntmps10 rfl ?_
  (refine gV ?_; refine gw_boxd (v := .agg _) rfl rfl (fun _ => ?_); refine gw_boxd (v := .agg _) rfl rfl (fun _ => ?_); (iterate 3 refine gM ?_); refine gO ?_; refine gQ ?_; refine gV ?_; refine gM ?_; refine gL ?_; refine gC ?_; refine gO ?_)
  refine gc_if_dec rfl (fun h => by omega) (fun _ => ?_)
  (refine gK ?_; refine gX ?_; refine gV ?_; apply gw_d; exact w_load_boxN rfl rfl rfl (.there .here) rfl; (iterate 3 refine gM ?_); apply gw_d; exact w_call rfl rfl (hD _) rfl; refine gM ?_; apply gw_d; exact det_extract rfl rfl rfl (by conv => (lhs; whnf)); apply gw_d; exact det_extract rfl rfl rfl (by conv => (lhs; whnf)); (iterate 2 refine gM ?_); refine gO ?_; refine gQ ?_; refine gV ?_; refine gM ?_; refine gC ?_; refine gO ?_)
  refine gc_if_dec rfl (fun _ => ?_) (fun h => absurd h2 h)
  (refine gV ?_; (iterate 4 refine gM ?_); refine gO ?_; refine gR ?_; refine gT ?_)
  refine gx_ret3 (u := .slice _ _ _) (v := .slice _ _ _) (x := .int _ _) rfl rfl rfl rfl (fun _ _ => ?_)
  rfl

theorem Charges_ok (hL : Lay w) (hs : StyV w w.heap.size (.agg #[v0, v1, v2, v3, v4, v5, v6]) s) (hb : Sl rBun w w.heap.size vb bs) (hw : Sl rWrk w w.heap.size vw ws) (hx : Sl rScn w w.heap.size vx xs) (hl : Sl rRet w w.heap.size vl l) (he : chgErr r le (opCheckE s plE) bs ws xs.length l.length = 0) :
  OkM Tryz.prog 10 [.agg #[v0, v1, v2, v3, v4, v5, v6], vb, vw, vx, .agg #[.int .i64 r, .int .i64 le], vl].toArray w
   (fun x : (Option Addr × Nat) × Nat => .tuple #[.slice x.1.1 (chgL r le s.ops bs (paidL s.ops ws (ticks bs) xs) l).length x.1.2, .slice (some ⟨x.2, 0, none⟩) l.length l.length, .int .i64 0])
   (fun x => [Own x.1.1 (chgL r le s.ops bs (paidL s.ops ws (ticks bs) xs) l).length x.1.2 57 5 ((chgL r le s.ops bs (paidL s.ops ws (ticks bs) xs) l).flatMap encC), Box x.2 3 ((outsR (okR s.ops.length bs (paidL s.ops ws (ticks bs) xs)) [] l).map (Value.int .i64)).toArray]) := by
 obtain ⟨h300, h2, ht⟩ := chgErr_zero he
 obtain ⟨hOk, hx300⟩ := judge_zero h2
 obtain ⟨hSm, hMin⟩ := scan_ops hOk
 have hPl := hOk.bundles
 have h6 := sty_ops hs
 obtain ⟨Al, cl, rfl, hlc, hlm⟩ := len_small h6
 obtain ⟨Ab, cb, rfl, hbc, hbm⟩ := len_small hb
 obtain ⟨Ar, cr, rfl, hrc, hrm, hrcell⟩ := hl.ret
 have hC : ∀ (L : List Res) (w' : World), St w L w' → Ok Tryz.prog 9 [.agg #[.int .i64 r, .int .i64 le]].toArray w' fun x _ => x = .int .i64 0 := fun L w' s => by
  have := wCheck_ok w' r le (hL.later s)
  rw [ht] at this
  exact this
 have hD : ∀ (L : List Res) (w' : World), St w L w' → OkM Tryz.prog 8 [.agg #[v0, v1, v2, v3, v4, v5, .slice Al s.ops.length cl], .slice Ab bs.length cb, vw, vx].toArray w' (fun x : Option Addr × Nat => .tuple #[.slice x.1 (paidL s.ops ws (ticks bs) xs).length x.2, .int .i64 0]) (fun x => [Own x.1 (paidL s.ops ws (ticks bs) xs).length x.2 51 4 ((paidL s.ops ws (ticks bs) xs).flatMap encX)]) := fun L w' s' => cPaid_ok (StyV.later s' hs) (hb.later s') (hw.later s') (hx.later s') h2
 have hT : ∀ (L L' : List Res) (w' : World) (A : Option Addr) (k : Nat) (x : Ret), Pick L (Own A (paidL s.ops ws (ticks bs) xs).length k 51 4 ((paidL s.ops ws (ticks bs) xs).flatMap encX)) L' → St w L w' → Ok Tryz.prog 27 [.agg #[.slice Al s.ops.length cl, .slice Ab bs.length cb, .slice A (paidL s.ops ws (ticks bs) xs).length k], .agg #[.int .i64 x.tick, .int .i64 x.ply, .int .i64 x.op]].toArray w' fun y _ => y = .tuple #[.int .i64 (trW s.ops.length bs (paidL s.ops ws (ticks bs) xs) x), .agg (bunC (trB s.ops.length bs (paidL s.ops ws (ticks bs) xs) x)), .int .i64 (trE s.ops.length bs (paidL s.ops ws (ticks bs) xs) x)] := fun L L' w' A k x hp s' =>
  trace_ok w' Al s.ops.length cl _ _ bs (paidL s.ops ws (ticks bs) xs) x (hb.later s') (Sl.own (R := rScn) (enc := encX) s' hp rfl (fun q hq => paid_rep hx (paid_mem hq))) hlm
 generalize paidL s.ops ws (ticks bs) xs = ps at hD hT ⊢
 unfold OkM
 refine ok_enter Tryz.func10 rfl Tryz.ntmps10 rfl ?_
 (refine gV ?_; refine gw_boxd (v := .agg _) rfl rfl (fun _ => ?_); refine gw_boxd (v := .agg _) rfl rfl (fun _ => ?_); (iterate 3 refine gM ?_); refine gO ?_; refine gQ ?_; refine gV ?_; refine gM ?_; refine gL ?_; refine gC ?_; refine gO ?_)
 rename_i bS bT
 refine gc_if_dec rfl (fun h => by omega) (fun _ => ?_)
 (refine gK ?_; refine gX ?_; refine gV ?_; apply gw_d; exact w_load_boxN rfl rfl rfl (.there .here) rfl; (iterate 3 refine gM ?_))
 refine gw_callm rfl (hD _) rfl (fun x => ?_)
 obtain ⟨A, ca⟩ := x
 (refine gM ?_; apply gw_d; exact det_extract rfl rfl rfl (by conv => (lhs; whnf)); apply gw_d; exact det_extract rfl rfl rfl (by conv => (lhs; whnf)); (iterate 2 refine gM ?_); refine gO ?_; refine gQ ?_; refine gV ?_; refine gM ?_; refine gC ?_; refine gO ?_)
 refine gc_if_dec rfl (fun h => absurd rfl h) (fun _ => ?_)
 (refine gK ?_; refine gX ?_; refine gQ ?_; refine gV ?_; apply gw_d; exact w_load_boxN rfl rfl rfl (.there .here) rfl; apply gw_d; exact w_call rfl rfl (hC _) rfl; refine gM ?_; refine gN ?_; refine gM ?_; refine gC ?_; refine gO ?_)
 refine gc_if_dec rfl (fun h => absurd rfl h) (fun _ => ?_)
 (refine gK ?_; refine gX ?_; refine gV ?_; refine gF ?_; refine gW (.there (.there .here)) ?_; (iterate 2 refine gM ?_); apply gw_d; exact w_buildP [(0, .slice Al s.ops.length cl), (1, .slice Ab bs.length cb), (2, .slice A ps.length ca)] (cells := #[.slice Al s.ops.length cl, .slice Ab bs.length cb, .slice A ps.length ca]) (by kernel_rfl) rfl rfl rfl; refine w_alloc rfl (fun _ => ?_); refine w_store_all rfl rfl rfl rfl rfl .here rfl ?_; refine gN ?_)
 rename_i bH
 refine gw_makeMap (kInts retF) rfl (fun bm => ?_)
 (refine gM ?_; refine gN ?_; refine gM ?_; refine gN ?_; refine gM ?_; refine gL ?_)
 refine gw_make1 (n := l.length) rfl rfl rfl rfl rfl (by omega) (by omega) rfl (fun bo => ?_)
 rw [show Array.replicate l.length ((Value.int .i64 0).cells.getD 0 undef) = ((outRow (outsR (okR s.ops.length bs ps) [] (l.take 0)) l.length).map (Value.int .i64)).toArray from by rw [List.take_zero]; show _ = ((outRow [] l.length).map (Value.int .i64)).toArray; rw [outRow_nil]; exact row_make (Value.int .i64) l.length 0]
 (refine gM ?_; refine gO ?_; refine gQ ?_; refine gV ?_; refine gM ?_; refine gL ?_; refine gM ?_; refine gO ?_; refine gB ?_)
 refine gc_own0 57 5 ?_
 refine gc_loop (σ := Nat × Option Addr × Nat) [59, 60, 61, 62, 23, 22, 64, 65, 66, 63, 67, 68, 69, 25, 24, 26, 70, 71, 72, 73, 74, 75, 76, 77, 78, 79, 80, 82, 83, 84, 85, 86, 87, 88, 89, 90, 91, 92, 81, 93, 94, 27, 95, 96, 97, 12, 13, 14, 98, 99, 100, 101, 102, 103, 104, 105, 106, 107, 108, 109, 110, 111, 112, 113, 114, 20, 115, 58] (fun q => [(58, .int .i64 q.1), (20, .slice q.2.1 (doneL (okR s.ops.length bs ps) (l.take q.1)).length q.2.2)])
  (fun q => [Own q.2.1 (doneL (okR s.ops.length bs ps) (l.take q.1)).length q.2.2 57 5 (((doneL (okR s.ops.length bs ps) (l.take q.1)).map (chgOf r le s.ops bs ps)).flatMap encC), Box bo 3 ((outRow (outsR (okR s.ops.length bs ps) [] (l.take q.1)) l.length).map (Value.int .i64)).toArray, MapR bm (kInts retF) (setM (doneL (okR s.ops.length bs ps) (l.take q.1))), Box bH 78 #[.slice Al s.ops.length cl, .slice Ab bs.length cb, .slice A ps.length ca], Own A ps.length ca 51 4 (ps.flatMap encX), Box bT 36 #[.int .i64 r, .int .i64 le], Box bS 29 #[v0, v1, v2, v3, v4, v5, .slice Al s.ops.length cl]])
  (fun q => q.1 ≤ l.length) (fun q => l.length - q.1) (0, none, 0) (Nat.zero_le _) ⟨rfl, rfl, trivial⟩ (.cons .here (.cons .here (.cons .here (.cons .here (.cons .here (.cons .here (.cons .here .nil))))))) ?_
 rintro ⟨k, A1, c1⟩ base hk
 dsimp only at hk ⊢
 (refine gV ?_; refine gC ?_; refine gO ?_; refine gQ ?_)
 refine gc_if_dec rfl (fun h => ?_) (fun h => ?_)
 ·have hlt : k < l.length := by omega
  obtain ⟨ad, rfl, hbk, hce, _⟩ := hrcell k hlt
  have hts : l.take (k + 1) = l.take k ++ [l[k]] := List.take_succ_eq_append_getElem hlt
  have hds := doneL_snoc (ok := okR s.ops.length bs ps) (l.take k) l[k]
  have hos := outsR_snoc (ok := okR s.ops.length bs ps) l[k] (l.take k) []
  have hol := outsR_len (ok := okR s.ops.length bs ps) (l.take k) []
  have hdl := done_len (ok := okR s.ops.length bs ps) (l.take k)
  rw [List.length_take, Nat.min_eq_left hk] at hol hdl
  rw [← hts] at hds hos
  change outsR _ [] _ = _ ++ [outR _ (doneL _ _) _] at hos
  have hset := fun v => outRow_set (l := outsR (okR s.ops.length bs ps) [] (l.take k)) (n := l.length) (by omega) v
  have hrl := outRow_len (l := outsR (okR s.ops.length bs ps) [] (l.take k)) (n := l.length) (by omega)
  rw [hol] at hset
  generalize hx0 : l[k] = x at *
  generalize doneL (okR s.ops.length bs ps) (l.take k) = D at *
  generalize outsR (okR s.ops.length bs ps) [] (l.take k) = O at *
  (refine gK ?_; refine gX ?_; refine gQ ?_; refine gB ?_; refine gV ?_; refine gM ?_; apply gw_d; exact w_index rfl rfl rfl rfl (by with_reducible exact rfl) (by omega); apply gw_d; exact w_load_elem rfl rfl rfl (by assumption) (by assumption) (by rfl); refine w_alloc rfl (fun _ => ?_); refine gM ?_; refine w_store_all rfl rfl rfl rfl rfl .here rfl ?_; refine gN ?_; apply gw_d; exact w_load_boxN rfl rfl rfl (.there (.there (.there (.there .here)))) rfl; apply gw_d; exact w_load_boxN rfl rfl rfl .here rfl; apply gw_d; exact w_call rfl rfl (fun w' s' => hT _ _ w' A ca x (.there (.there (.there (.there (.there .here))))) s') rfl; refine gM ?_; apply gw_d; exact det_extract rfl rfl rfl (by conv => (lhs; whnf)); apply gw_d; exact det_extract rfl rfl rfl (by conv => (lhs; whnf)); apply gw_d; exact det_extract rfl rfl rfl (by conv => (lhs; whnf)); refine w_alloc rfl (fun _ => ?_); refine gM ?_; refine w_store_all rfl rfl rfl rfl rfl .here rfl ?_; refine gM ?_; refine gO ?_; refine gQ ?_; refine gV ?_; refine gM ?_; refine gC ?_; refine gO ?_)
  by_cases hE : trE s.ops.length bs ps x = 0
  ·have hok : okR s.ops.length bs ps x = true := decide_eq_true hE
   obtain ⟨b, y, hTr⟩ := trE_zero hE
   refine gc_if_dec rfl (fun h => absurd hE h) (fun _ => ?_)
   by_cases hD2 : x ∈ D
   ·have hhas : hasB D x = true := hasB_iff.2 hD2
    have hn : nextD (okR s.ops.length bs ps) D x = D := by unfold nextD; rw [if_neg (fun hc => hc.2 hD2)]
    have ho : outR (okR s.ops.length bs ps) D x = 2 := by unfold outR; rw [if_neg (by rw [hok]; decide), if_pos hD2]
    rw [hn] at hds
    rw [ho] at hos
    (refine gK ?_; refine gX ?_; refine gQ ?_; refine gV ?_; refine gM ?_; apply gw_d; exact w_load_boxN rfl rfl rfl (.there .here) rfl; apply gw_d; exact det_eq (c' := .bool true) (w_lookup (k := x) (structLaw (n := 3) (f := retF) (fun _ => rfl) retF_inj) rfl rfl rfl rfl (.there (.there (.there (.there .here))))) (by rw [setM_has, hhas]); refine gO ?_)
    refine gc_if_true rfl ?_
    (refine gV ?_; (iterate 2 refine gM ?_); apply gw_d; exact w_index (m := k) rfl rfl rfl rfl rfl hlt)
    refine w_store_row (n := 1) (v := .int .i64 2) rfl rfl rfl rfl rfl (.there (.there (.there .here))) (by simp; omega) (row_set (Value.int .i64) (by omega) 2) ?_
    (refine gO ?_; refine gI ?_; refine gZ ?_; refine gJ ?_; refine gX ?_; refine gG ?_; refine gA ?_; refine gM ?_; refine gw_nil ?_)
    refine gx_round (k + 1, A1, c1) hlt (by dsimp only; omega) kK ⟨rfl, by dsimp only; rw [hds]; rfl, trivial⟩ ?_
    dsimp only
    rw [hds, hos, hset]
    exact .cons (.there (.there (.there .here))) (.cons .here (.cons (.there (.there .here)) (.cons (.there (.there .here)) (.cons (.there (.there .here)) (.cons (.there (.there .here)) (.cons (.there (.there .here)) .nil))))))
   ·have hhas : hasB D x = false := by
     cases hb : hasB D x with
     | false => rfl
     | true => exact absurd (hasB_iff.1 hb) hD2
    have hn : nextD (okR s.ops.length bs ps) D x = D ++ [x] := by unfold nextD; rw [if_pos ⟨hok, hD2⟩]
    have ho : outR (okR s.ops.length bs ps) D x = 1 := by unfold outR; rw [if_neg (by rw [hok]; decide), if_neg hD2]
    rw [hn] at hds
    rw [ho] at hos
    obtain ⟨o, hop⟩ : ∃ o : Nat, x.op = (o : Int) := ⟨x.op.toNat, by have := hTr.op; omega⟩
    have hol2 : o < s.ops.length := by have := hTr.op; omega
    obtain ⟨ad3, _, hv, _, _, hb3, hocell⟩ := h6.at' 5 rfl (by omega)
    injection hv with e1 e2 e3
    subst e1 e3
    obtain ⟨cs, hco, Aa, ca', Au, cu, rfl, hnm, q1, q2⟩ := hocell o hol2
    have hmin : minAt s.ops x.op = s.ops[o].minutes := by
     unfold minAt
     rw [hop, Int.toNat_natCast, List.getElem?_eq_getElem hol2]
     rfl
    have hsh : (shL (amtV r le s.ops[o].minutes (b.upto - b.fr)) (b.upto - b.fr).toNat).getD (x.ply - b.fr).toNat 0 = shareOf r le s.ops bs x := by
     unfold shareOf amtF frAt
     rw [cnt_bun hTr.bun, hTr.bun, hmin]
     rfl
    have hbb := hTr.b
    have hww := hTr.w
    rw [hbb]
    have hP : ∀ (L : List Res) (w' : World), St w L w' → Ok Tryz.prog 28 [.agg #[.int .i64 r, .int .i64 le], .agg #[.string s.ops[o].name, .int .i64 s.ops[o].machine, .int .i64 s.ops[o].minutes, .slice Aa s.ops[o].after.length ca', .slice Au s.ops[o].uses.length cu], .agg (bunC b), .int .i64 x.ply].toArray w' fun y _ => y = .tuple #[.int .i64 (shareOf r le s.ops bs x), .int .i64 0] := fun L w' s' => by
     have := part_ok w' (hL.later s') r le s.ops[o].machine s.ops[o].minutes x.ply s.ops[o].name Aa Au s.ops[o].after.length ca' s.ops[o].uses.length cu b ht (hMin o hol2) (hPl.h b (bunAt_mem hTr.bun).1) hTr.ply
     rw [hsh] at this
     exact this
    (refine gK ?_; refine gX ?_; refine gQ ?_; refine gV ?_; refine gM ?_; apply gw_d; exact w_load_boxN rfl rfl rfl (.there .here) rfl; apply gw_d; exact det_eq (c' := .bool false) (w_lookup (k := x) (structLaw (n := 3) (f := retF) (fun _ => rfl) retF_inj) rfl rfl rfl rfl (.there (.there (.there (.there .here))))) (by rw [setM_has, hhas]); refine gO ?_)
    refine gc_if_false rfl ?_
    (refine gK ?_; refine gX ?_; refine gQ ?_)
    refine gc_draw 15 (by kernel_rfl) (by kernel_rfl) ?_
    (apply gd_d; exact w_load_boxN rfl rfl rfl (.there (.there (.there (.there (.there (.there (.there .here))))))) rfl; apply gd_d; exact w_field rfl rfl rfl; apply gd_d; exact w_load_box rfl rfl rfl (.there (.there (.there (.there (.there (.there (.there (.there .here)))))))) rfl; apply gd_d; exact w_field rfl rfl rfl; apply gd_d; exact w_load_box rfl rfl rfl (.there .here) rfl; apply gd_d; exact w_index (m := o) rfl rfl rfl rfl hop hol2; apply gd_d; exact w_load_elem rfl rfl rfl (by assumption) (by assumption) (by rfl); apply gd_d; exact w_load_boxN rfl rfl rfl .here rfl; apply gd_d; exact w_field rfl rfl rfl; apply gd_d; exact w_load_box rfl rfl rfl (.there .here) rfl; apply gd_d; exact w_call rfl rfl (hP _) rfl; refine dM ?_; apply gd_d; exact det_extract rfl rfl rfl (by conv => (lhs; whnf)); apply gd_d; exact det_extract rfl rfl rfl (by conv => (lhs; whnf)); refine dM ?_; refine gd_nil ?_; refine gM ?_; refine gO ?_; refine gQ ?_; refine gV ?_; refine gM ?_; refine gC ?_; refine gO ?_)
    refine gc_if_dec rfl (fun h => absurd rfl h) (fun _ => ?_)
    (refine gK ?_; refine gX ?_; refine gV ?_; (iterate 2 refine gM ?_); apply gw_d; exact w_index (m := k) rfl rfl rfl rfl rfl hlt)
    refine w_store_row (n := 1) (v := .int .i64 1) rfl rfl rfl rfl rfl (.there (.there (.there .here))) (by simp; omega) (row_set (Value.int .i64) (by omega) 1) ?_
    (refine gN ?_; refine gM ?_; apply gw_d; exact w_load_boxN rfl rfl rfl (.there (.there .here)) rfl)
    refine gw_mapSet (k := x) (v := .bool true) (structLaw (n := 3) (f := retF) (fun _ => rfl) retF_inj) rfl rfl rfl rfl (.there (.there (.there (.there .here)))) ?_
    rw [← setM_snoc]
    (refine gO ?_; refine gG ?_; (iterate 2 refine gM ?_); refine gF ?_; refine gW (.there (.there (.there .here))) ?_; refine gF ?_; refine gW (.there (.there (.there .here))) ?_; refine gF ?_; refine gW (.there (.there (.there .here))) ?_; refine gM ?_; apply gw_d; exact w_buildP [(0, .int .i64 (trW s.ops.length bs ps x)), (1, .int .i64 x.tick), (2, .int .i64 x.ply), (3, .int .i64 x.op), (4, .int .i64 (shareOf r le s.ops bs x))] (cells := #[.int .i64 (trW s.ops.length bs ps x), .int .i64 x.tick, .int .i64 x.ply, .int .i64 x.op, .int .i64 (shareOf r le s.ops bs x)]) (by kernel_rfl) rfl rfl rfl)
    refine gw_bslice1 (v := .agg #[.int .i64 (trW s.ops.length bs ps x), .int .i64 x.tick, .int .i64 x.ply, .int .i64 x.op, .int .i64 (shareOf r le s.ops bs x)]) rfl rfl rfl rfl rfl (fun bb => ?_)
    refine gw_append (news := encC (chgOf r le s.ops bs ps x)) rfl rfl rfl (.there (.there (.there (.there (.there .here))))) rfl (fun w' s _ => ?_) (fun u hu => ?_) (by unfold maxLen; omega) (by omega) (by decide) rfl (fun A3 c3 => ?_)
    ·refine ⟨⟨bb, 0, none⟩, rfl, fun i u hu => ?_⟩
     rw [add_zero]
     refine (Box.cell s.head i).trans ?_
     change (#[Value.int .i64 (trW _ bs ps x), .int .i64 x.tick, .int .i64 x.ply, .int .i64 x.op, .int .i64 (shareOf r le _ bs x)] : Array Value)[i]? = some u
     rw [List.getElem?_toArray]
     exact hu
    ·unfold encC at hu
     simp only [List.mem_cons, List.not_mem_nil, or_false] at hu
     rcases hu with rfl | rfl | rfl | rfl | rfl <;> rfl
    ·(refine gM ?_; refine gw_nil ?_; refine gH ?_; refine gX ?_; refine gG ?_; refine gA ?_; refine gM ?_; refine gw_nil ?_)
     refine gx_round (k + 1, A3, c3) hlt (by dsimp only; omega) kK ⟨rfl, by dsimp only; rw [hds, List.length_append]; rfl, trivial⟩ ?_
     dsimp only
     rw [hds, hos, hset, List.length_append, List.map_append, List.flatMap_append]
     have e5 : (([x].map (chgOf r le s.ops bs ps)).flatMap encC) = encC (chgOf r le s.ops bs ps x) := by simp
     rw [e5]
     exact .cons .here (.cons (.there (.there .here)) (.cons (.there .here) (.cons (.there (.there (.there .here))) (.cons (.there (.there (.there .here))) (.cons (.there (.there (.there .here))) (.cons (.there (.there (.there .here))) .nil))))))
  ·have hok : okR s.ops.length bs ps x = false := decide_eq_false hE
   have hn : nextD (okR s.ops.length bs ps) D x = D := by unfold nextD; rw [if_neg (fun hc => by rw [hok] at hc; cases hc.1)]
   have ho : outR (okR s.ops.length bs ps) D x = 3 := by unfold outR; rw [if_pos hok]
   rw [hn] at hds
   rw [ho] at hos
   refine gc_if_dec rfl (fun _ => ?_) (fun h => absurd hE h)
   (refine gV ?_; (iterate 2 refine gM ?_); apply gw_d; exact w_index (m := k) rfl rfl rfl rfl rfl hlt)
   refine w_store_row (n := 1) (v := .int .i64 3) rfl rfl rfl rfl rfl (.there (.there (.there .here))) (by simp; omega) (row_set (Value.int .i64) (by omega) 3) ?_
   (refine gO ?_; refine gI ?_; refine gZ ?_; refine gJ ?_; refine gX ?_; refine gG ?_; refine gA ?_; refine gM ?_; refine gw_nil ?_)
   refine gx_round (k + 1, A1, c1) hlt (by dsimp only; omega) kK ⟨rfl, by dsimp only; rw [hds]; rfl, trivial⟩ ?_
   dsimp only
   rw [hds, hos, hset]
   exact .cons (.there (.there (.there .here))) (.cons .here (.cons (.there (.there .here)) (.cons (.there (.there .here)) (.cons (.there (.there .here)) (.cons (.there (.there .here)) (.cons (.there (.there .here)) .nil))))))
 ·obtain rfl : k = l.length := by omega
  have hfull : outRow (outsR (okR s.ops.length bs ps) [] l) l.length = outsR (okR s.ops.length bs ps) [] l := by
   have := outsR_len (ok := okR s.ops.length bs ps) l []
   rw [← this]
   exact outRow_full
  rw [List.take_length, hfull]
  have hcl : (chgL r le s.ops bs ps l).length = (doneL (okR s.ops.length bs ps) l).length := by unfold chgL; rw [List.length_map]
  (refine gI ?_; (iterate 2 refine gZ ?_); refine gJ ?_; refine gX ?_; refine gV ?_; (iterate 5 refine gM ?_); refine gO ?_; refine gR ?_)
  exact gx_ret3 (u := .slice _ _ _) (v := .slice _ _ _) (x := .int _ _) rfl rfl rfl rfl (fun w' s' => ⟨((A1, c1), bo), by dsimp only; rw [hcl], by
   dsimp only
   rw [hcl]
   exact (St.sub (K := [Own A1 (doneL (okR s.ops.length bs ps) l).length c1 57 5 ((chgL r le s.ops bs ps l).flatMap encC), Box bo 3 ((outsR (okR s.ops.length bs ps) [] l).map (Value.int .i64)).toArray]) (.cons .here (.cons .here .nil)) s').sep⟩)
end
theorem inRange58_ok (w : World) (n : Int) : Ok Tryz.prog 50 [.int .i64 n].toArray w fun x _ => x = .bool (moneyB n) := by
 refine ok_enter Tryz.func50 rfl Tryz.ntmps50 rfl ?_
 focus (refine gV ?_; refine gM ?_; refine gN ?_; refine gM ?_; refine gC ?_; refine gM ?_; refine gD (fun _ => ?_) (fun _ => ?_); refine gM ?_; refine gC ?_; refine gPp ?_; refine gM ?_; refine gO ?_; refine gR ?_; rotate_left; (iterate 2 refine gU ?_); refine gPq ?_; refine gM ?_; refine gO ?_; refine gR ?_; rotate_left)
 all_goals (refine gb1 (fun _ _ => ?_); unfold moneyB; congr 1; simp; try omega)
theorem satF_take {cs : List Chg} {i : Nat} (hi : i < cs.length) (k : Int) : satF (cs.take (i + 1)) k = if cs[i].who = k then satI (satF (cs.take i) k) cs[i].amt else satF (cs.take i) k := by
 rw [List.take_succ_eq_append_getElem hi, satF_snoc]
theorem all_no {cs : List Chg} {i : Nat} (hi : i < cs.length) (h : moneyB cs[i].amt = false) : cs.all chgE = false := by
 cases ha : cs.all chgE with
 | false => rfl
 | true =>
  have := List.all_eq_true.1 ha cs[i] (List.getElem_mem hi)
  unfold chgE at this
  rw [h] at this
  cases this
theorem all_snoc {cs : List Chg} {i : Nat} (hi : i < cs.length) (h : (cs.take i).all chgE = true) (hm : moneyB cs[i].amt = true) : (cs.take (i + 1)).all chgE = true := by
 rw [List.take_succ_eq_append_getElem hi, List.all_append, h]
 unfold chgE
 simp [hm]
theorem seen_has (ps : List Pay) (i : Nat) (k : Int) : ((ps.take i).any fun q => decide (q.who = k)) = hasB ((ps.take i).map (·.who)) k := by
 unfold hasB
 rw [List.any_map]
 rfl
def netRes (cs : List Chg) (ps : List Pay) (b : Nat) : Value := if netE cs ps = 0 then .tuple #[.slice (some ⟨b, 0, none⟩) ps.length ps.length, .int .i64 0] else .tuple #[.slice none 0 0, .int .i64 (netE cs ps)]
def netOwn (cs : List Chg) (ps : List Pay) (b : Nat) : List Res := if netE cs ps = 0 then [Box b 3 ((netL cs ps).map (Value.int .i64)).toArray] else []

theorem Net_all (w : World) (vp vc : Value) (ps : List Pay) (cs : List Chg) (hp : Sl rPay w w.heap.size vp ps) (hc : Sl rChg w w.heap.size vc cs) (h60 : ps.length ≤ 1000) : OkM Tryz.prog 39 [vp, vc].toArray w (netRes cs ps) (netOwn cs ps) := by
 obtain ⟨Ap, cp, rfl, hpc, hpm, hpcell⟩ := hp.pay
 obtain ⟨Ac, cc, rfl, hcc, hcm, hccell⟩ := hc.chg
 have hR : ∀ (L : List Res) (w' : World) (n : Int), St w L w' → Ok Tryz.prog 50 [.int .i64 n].toArray w' fun x _ => x = .bool (moneyB n) := fun L w' n _ => inRange58_ok w' n
 unfold OkM
 refine ok_enter Tryz.func39 rfl Tryz.ntmps39 rfl ?_
 (refine gV ?_; (iterate 2 refine gM ?_); refine gN ?_)
 refine gw_makeMap kInt rfl (fun bm => ?_)
 (refine gM ?_; refine gO ?_; refine gQ ?_; refine gV ?_; refine gM ?_; refine gL ?_; refine gM ?_; refine gO ?_; refine gB ?_)
 refine gc_loop1 (σ := Nat × List (Int × Value)) [17, 18, 19, 8, 20, 21, 22, 23, 4, 5, 24, 25, 26, 27, 28, 29, 30, 31, 32, 33, 34, 35, 36, 16] (fun s => [(16, .int .i64 s.1)]) (fun s => MapR bm kInt s.2) (fun s => s.1 ≤ cs.length ∧ (cs.take s.1).all chgE = true ∧ ∀ k, (aget s.2 k).getD (.int .i64 0) = .int .i64 (satF (cs.take s.1) k)) (fun s => cs.length - s.1) (0, []) ⟨Nat.zero_le _, rfl, fun k => rfl⟩ ⟨rfl, trivial⟩ rfl ?_
 rintro ⟨i, m⟩ base ⟨hi, hall, hm⟩
 dsimp only at hi hall hm ⊢
 (refine gV ?_; refine gC ?_; refine gO ?_; refine gQ ?_)
 refine gc_if_dec rfl (fun h => ?_) (fun h => ?_)
 ·have hil : i < cs.length := by omega
  obtain ⟨ad, rfl, hbk, hce, _⟩ := hccell i hil
  have c1 := fun L w' => hR L w' cs[i].amt
  have c2 := fun L w' => hR L w' (satF (cs.take i) cs[i].who)
  have hst := satF_take hil
  have hsr := sat_range hall cs[i].who
  by_cases hm1 : moneyB cs[i].amt = true
  ·rw [hm1] at c1
   have hm1' := money_iff.1 hm1
   have hall' := all_snoc hil hall hm1
   by_cases hm2 : moneyB (satF (cs.take i) cs[i].who) = true
   ·rw [hm2] at c2
    have hm2' := money_iff.1 hm2
    (refine gK ?_; refine gX ?_; refine gQ ?_; refine gB ?_; refine gV ?_; apply gw_d; exact w_index rfl rfl rfl rfl (by with_reducible exact rfl) (by omega); apply gw_d; exact w_load_elem rfl rfl rfl (by assumption) (by assumption) (by rfl); refine w_alloc rfl (fun _ => ?_); refine w_store_all rfl rfl rfl rfl rfl .here rfl ?_; refine gO ?_; refine gQ ?_; refine gV ?_; refine gF ?_; refine gW .here ?_; apply gw_d; exact w_call rfl rfl (c1 _) rfl; apply gw_d; exact det_not_ rfl rfl rfl; refine gO ?_)
    refine gc_if_false rfl ?_
    (refine gK ?_; refine gX ?_; refine gV ?_; refine gM ?_; refine gF ?_; refine gW .here ?_; apply gw_d; exact det_eq (c' := .int .i64 (satF (cs.take i) cs[i].who)) (w_lookup (k := cs[i].who) intLawC rfl rfl rfl rfl (.there .here)) (hm _); apply gw_d; exact w_call rfl rfl (c2 _) rfl; refine gO ?_)
    refine gc_if_true rfl ?_
    (refine gG ?_; refine gM ?_; refine gF ?_; refine gW .here ?_; apply gw_d; exact det_eq (c' := .int .i64 (satF (cs.take i) cs[i].who)) (w_lookup (k := cs[i].who) intLawC rfl rfl rfl rfl (.there .here)) (hm _); refine gF ?_; refine gW .here ?_; refine gA ?_)
    refine gw_mapSet (k := cs[i].who) (v := .int .i64 (satF (cs.take i) cs[i].who + cs[i].amt)) intLawC rfl rfl rfl rfl (.there .here) ?_
    (refine gw_nil ?_; refine gH ?_; refine gX ?_; refine gG ?_; refine gA ?_; refine gM ?_; refine gw_nil ?_)
    refine gx_round (i + 1, aset m cs[i].who (.int .i64 (satF (cs.take i) cs[i].who + cs[i].amt))) ⟨by dsimp only; omega, hall', fun k => ?_⟩ (by dsimp only; omega) kK ⟨rfl, trivial⟩ (.cons .here Sub.tail)
    dsimp only
    rw [aget_aset, hst k]
    by_cases hk : cs[i].who = k
    ·subst hk
     rw [if_pos rfl, if_pos rfl]
     unfold satI
     rw [if_pos hm2]
     rfl
    ·rw [if_neg hk, if_neg hk]
     exact hm k
   ·have hm2f : moneyB (satF (cs.take i) cs[i].who) = false := by simpa using hm2
    rw [hm2f] at c2
    (refine gK ?_; refine gX ?_; refine gQ ?_; refine gB ?_; refine gV ?_; apply gw_d; exact w_index rfl rfl rfl rfl (by with_reducible exact rfl) (by omega); apply gw_d; exact w_load_elem rfl rfl rfl (by assumption) (by assumption) (by rfl); refine w_alloc rfl (fun _ => ?_); refine w_store_all rfl rfl rfl rfl rfl .here rfl ?_; refine gO ?_; refine gQ ?_; refine gV ?_; refine gF ?_; refine gW .here ?_; apply gw_d; exact w_call rfl rfl (c1 _) rfl; apply gw_d; exact det_not_ rfl rfl rfl; refine gO ?_)
    refine gc_if_false rfl ?_
    (refine gK ?_; refine gX ?_; refine gV ?_; refine gM ?_; refine gF ?_; refine gW .here ?_; apply gw_d; exact det_eq (c' := .int .i64 (satF (cs.take i) cs[i].who)) (w_lookup (k := cs[i].who) intLawC rfl rfl rfl rfl (.there .here)) (hm _); apply gw_d; exact w_call rfl rfl (c2 _) rfl; refine gO ?_)
    refine gc_if_false rfl ?_
    (refine gK ?_; refine gH ?_; refine gX ?_; refine gG ?_; refine gA ?_; refine gM ?_; refine gw_nil ?_)
    refine gx_round (i + 1, m) ⟨by dsimp only; omega, hall', fun k => ?_⟩ (by dsimp only; omega) kK ⟨rfl, trivial⟩ Sub.tail
    dsimp only
    rw [hst k, hm k]
    by_cases hk : cs[i].who = k
    ·subst hk
     rw [if_pos rfl]
     unfold satI
     rw [if_neg hm2]
    ·rw [if_neg hk]
  ·have hm1f : moneyB cs[i].amt = false := by simpa using hm1
   rw [hm1f] at c1
   have hE : netE cs ps = 3 := by unfold netE; rw [if_pos (all_no hil hm1f)]
   (refine gK ?_; refine gX ?_; refine gQ ?_; refine gB ?_; refine gV ?_; apply gw_d; exact w_index rfl rfl rfl rfl (by with_reducible exact rfl) (by omega); apply gw_d; exact w_load_elem rfl rfl rfl (by assumption) (by assumption) (by rfl); refine w_alloc rfl (fun _ => ?_); refine w_store_all rfl rfl rfl rfl rfl .here rfl ?_; refine gO ?_; refine gQ ?_; refine gV ?_; refine gF ?_; refine gW .here ?_; apply gw_d; exact w_call rfl rfl (c1 _) rfl; apply gw_d; exact det_not_ rfl rfl rfl; refine gO ?_)
   refine gc_if_true rfl ?_
   (refine gV ?_; (iterate 2 refine gM ?_); refine gO ?_; refine gR ?_; refine gT ?_; refine gY ?_; (iterate 2 refine gT ?_); refine gY ?_; refine gT ?_)
   exact gx_ret2 (u := .slice _ _ _) (v := .int _ _) rfl rfl rfl (fun w' s' => ⟨0, by unfold netRes; rw [if_neg (by rw [hE]; decide), hE], by unfold netOwn; rw [if_neg (by rw [hE]; decide)]; trivial⟩)
 obtain rfl : i = cs.length := by omega
 rw [List.take_length] at hall hm
 have hE0 : netE cs ps = firstE (netPE cs ps) ps.length := by unfold netE; rw [if_neg (by rw [hall]; decide)]
 (refine gI ?_; (iterate 2 refine gZ ?_); refine gJ ?_; refine gX ?_; refine gV ?_)
 refine gw_makeMap kInt rfl (fun bs2 => ?_)
 (refine gM ?_; refine gN ?_; refine gM ?_; refine gL ?_)
 refine gw_make1 (n := ps.length) rfl rfl rfl rfl rfl (by omega) (by omega) rfl (fun bn => ?_)
 rw [show Array.replicate ps.length ((Value.int .i64 0).cells.getD 0 undef) = ((outRow ((ps.take 0).map (netV cs)) ps.length).map (Value.int .i64)).toArray from by rw [List.take_zero, List.map_nil, outRow_nil]; exact row_make (Value.int .i64) ps.length 0]
 (refine gM ?_; refine gO ?_; refine gQ ?_; refine gV ?_; refine gM ?_; refine gL ?_; refine gM ?_; refine gO ?_; refine gB ?_)
 refine gc_loop (σ := Nat) [44, 45, 46, 47, 12, 11, 48, 49, 50, 51, 4, 5, 52, 53, 54, 55, 56, 57, 58, 59, 60, 61, 62, 63, 64, 65, 66, 67, 68, 69, 70, 71, 72, 73, 74, 75, 76, 77, 78, 79, 80, 81, 82, 83, 84, 85, 86, 87, 88, 89, 90, 91, 92, 93, 94, 95, 96, 43] (fun k => [(43, .int .i64 k)]) (fun k => [Box bn 3 ((outRow ((ps.take k).map (netV cs)) ps.length).map (Value.int .i64)).toArray, MapR bs2 kInt (setM ((ps.take k).map (·.who))), MapR bm kInt m]) (fun k => k ≤ ps.length ∧ firstE (netPE cs ps) k = 0) (fun k => ps.length - k) 0 ⟨Nat.zero_le _, rfl⟩ ⟨rfl, trivial⟩ (.cons .here (.cons .here (.cons .here .nil))) ?_
 rintro k base2 ⟨hk, hI⟩
 (refine gV ?_; refine gC ?_; refine gO ?_; refine gQ ?_)
 refine gc_if_dec rfl (fun h => ?_) (fun h => ?_)
 ·have hkl : k < ps.length := by omega
  obtain ⟨ad, rfl, hbk, hce, hpi⟩ := hpcell k hkl
  have hts : ps.take (k + 1) = ps.take k ++ [ps[k]] := List.take_succ_eq_append_getElem hkl
  have hpe : netPE cs ps k = if hasB ((ps.take k).map (·.who)) ps[k].who = true then 7 else if moneyB ps[k].work = false ∨ moneyB ps[k].top = false ∨ moneyB (ps[k].work + ps[k].top) = false ∨ moneyB (satF cs ps[k].who) = false then 3 else 0 := by
   unfold netPE
   rw [List.getElem?_eq_getElem hkl]
   dsimp only
   rw [seen_has]
  have hstop : ∀ x : Int, netPE cs ps k = x → ¬ x = 0 → netE cs ps = x := fun x hx hx0 => by
   rw [hE0, firstE_stop hI (by rw [hx]; exact hx0) hkl, hx]
  have hbad : ∀ x : Int, netPE cs ps k = x → ¬ x = 0 → netRes cs ps 0 = .tuple #[.slice none 0 0, .int .i64 x] ∧ netOwn cs ps 0 = [] := fun x hx hx0 => by
   have := hstop x hx hx0
   unfold netRes netOwn
   rw [if_neg (by rw [this]; exact hx0), if_neg (by rw [this]; exact hx0), this]
   exact ⟨rfl, rfl⟩
  have hol : ((ps.take k).map (netV cs)).length = k := by rw [List.length_map, List.length_take, Nat.min_eq_left hk]
  have hset := outRow_set (l := (ps.take k).map (netV cs)) (n := ps.length) (by omega) (netV cs ps[k])
  have hrl := outRow_len (l := (ps.take k).map (netV cs)) (n := ps.length) (by omega)
  rw [hol] at hset
  have hset2 : (outRow ((ps.take k).map (netV cs)) ps.length).set k (netV cs ps[k]) = outRow ((ps.take (k + 1)).map (netV cs)) ps.length := by rw [hset, hts, List.map_append]; rfl
  have hmap : setM ((ps.take (k + 1)).map (·.who)) = aset (setM ((ps.take k).map (·.who))) ps[k].who (.bool true) := by rw [hts, List.map_append]; exact setM_snoc _ _
  have hsn := firstE_snoc (f := netPE cs ps) (k := k) hI
  have hsr := sat_range hall ps[k].who
  have hmw := hm ps[k].who
  have hsh := setM_has ((ps.take k).map (·.who)) ps[k].who
  have c1 := fun L w' => hR L w' ps[k].work
  have c2 := fun L w' => hR L w' ps[k].top
  have c3 := fun L w' => hR L w' (ps[k].work + ps[k].top)
  have c4 := fun L w' => hR L w' (satF cs ps[k].who)
  have hnv : netV cs ps[k] = max (ps[k].work - satF cs ps[k].who) 0 + ps[k].top := rfl
  generalize satF cs ps[k].who = sa at hpe hsr hmw c4 hnv
  generalize outRow ((ps.take k).map (netV cs)) ps.length = row at hset2 hrl ⊢
  generalize hD : setM ((ps.take k).map (·.who)) = D at hsh hmap ⊢
  generalize (ps.take k).map (·.who) = sl at hsh hpe
  generalize ps[k] = p at *
  by_cases h7 : hasB sl p.who = true
  ·rw [if_pos h7] at hpe
   rw [h7] at hsh
   obtain ⟨r1, r2⟩ := hbad 7 hpe (by decide)
   (refine gK ?_; refine gX ?_; refine gQ ?_; refine gB ?_; refine gV ?_; refine gM ?_; apply gw_d; exact w_index rfl rfl rfl rfl (by with_reducible exact rfl) (by omega); apply gw_d; exact w_load_elem rfl rfl rfl (by assumption) (by assumption) (by rfl); refine w_alloc rfl (fun _ => ?_); refine gM ?_; refine w_store_all rfl rfl rfl rfl rfl .here rfl ?_; refine gO ?_; refine gQ ?_; refine gV ?_; refine gM ?_; refine gF ?_; refine gW .here ?_; apply gw_d; exact det_eq (c' := .bool true) (w_lookup (k := p.who) intLawC rfl rfl rfl rfl (.there (.there .here))) hsh; refine gO ?_)
   refine gc_if_true rfl ?_
   (refine gV ?_; (iterate 2 refine gM ?_); refine gO ?_; refine gR ?_; refine gT ?_; refine gY ?_; (iterate 2 refine gT ?_); refine gY ?_; refine gT ?_)
   exact gx_ret2 (u := .slice _ _ _) (v := .int _ _) rfl rfl rfl (fun w' s' => ⟨0, r1.symm, by rw [r2]; trivial⟩)
  have h7f : hasB sl p.who = false := by simpa using h7
  rw [if_neg h7] at hpe
  rw [h7f] at hsh
  (refine gK ?_; refine gX ?_; refine gQ ?_; refine gB ?_; refine gV ?_; refine gM ?_; apply gw_d; exact w_index rfl rfl rfl rfl (by with_reducible exact rfl) (by omega); apply gw_d; exact w_load_elem rfl rfl rfl (by assumption) (by assumption) (by rfl); refine w_alloc rfl (fun _ => ?_); refine gM ?_; refine w_store_all rfl rfl rfl rfl rfl .here rfl ?_; refine gO ?_; refine gQ ?_; refine gV ?_; refine gM ?_; refine gF ?_; refine gW .here ?_; apply gw_d; exact det_eq (c' := .bool false) (w_lookup (k := p.who) intLawC rfl rfl rfl rfl (.there (.there .here))) hsh; refine gO ?_)
  refine gc_if_false rfl ?_
  (refine gK ?_; refine gX ?_; refine gV ?_; refine gM ?_; refine gF ?_; refine gW .here ?_)
  refine gw_mapSet (k := p.who) (v := .bool true) intLawC rfl rfl rfl rfl (.there (.there .here)) ?_
  rw [← hmap]
  by_cases h3 : moneyB p.work = false ∨ moneyB p.top = false ∨ moneyB (p.work + p.top) = false ∨ moneyB sa = false
  ·rw [if_pos h3] at hpe
   obtain ⟨r1, r2⟩ := hbad 3 hpe (by decide)
   cases m1 : moneyB p.work with
   | false =>
    rw [m1] at c1
    (refine gO ?_; refine gQ ?_; refine gV ?_; refine gF ?_; refine gW (.there .here) ?_; apply gw_d; exact w_call rfl rfl (c1 _) rfl; apply gw_d; exact det_not_ rfl rfl rfl; refine gM ?_; (iterate 4 refine gU ?_); refine gPp ?_; refine gM ?_; (iterate 7 refine gU ?_); refine gPp ?_; refine gM ?_; (iterate 6 refine gU ?_); refine gPp ?_; refine gO ?_)
    refine gc_if_true rfl ?_
    (refine gV ?_; (iterate 2 refine gM ?_); refine gO ?_; refine gR ?_; refine gT ?_; refine gY ?_; (iterate 2 refine gT ?_); refine gY ?_; refine gT ?_)
    exact gx_ret2 (u := .slice _ _ _) (v := .int _ _) rfl rfl rfl (fun w' s' => ⟨0, r1.symm, by rw [r2]; trivial⟩)
   | true =>
    rw [m1] at c1
    have m1' := money_iff.1 m1
    cases m2 : moneyB p.top with
    | false =>
     rw [m2] at c2
     (refine gO ?_; refine gQ ?_; refine gV ?_; refine gF ?_; refine gW (.there .here) ?_; apply gw_d; exact w_call rfl rfl (c1 _) rfl; apply gw_d; exact det_not_ rfl rfl rfl; refine gM ?_; refine gF ?_; refine gW (.there .here) ?_; apply gw_d; exact w_call rfl rfl (c2 _) rfl; apply gw_d; exact det_not_ rfl rfl rfl; refine gPq ?_; refine gM ?_; (iterate 7 refine gU ?_); refine gPp ?_; refine gM ?_; (iterate 6 refine gU ?_); refine gPp ?_; refine gO ?_)
     refine gc_if_true rfl ?_
     (refine gV ?_; (iterate 2 refine gM ?_); refine gO ?_; refine gR ?_; refine gT ?_; refine gY ?_; (iterate 2 refine gT ?_); refine gY ?_; refine gT ?_)
     exact gx_ret2 (u := .slice _ _ _) (v := .int _ _) rfl rfl rfl (fun w' s' => ⟨0, r1.symm, by rw [r2]; trivial⟩)
    | true =>
     rw [m2] at c2
     have m2' := money_iff.1 m2
     cases m3 : moneyB (p.work + p.top) with
     | false =>
      rw [m3] at c3
      (refine gO ?_; refine gQ ?_; refine gV ?_; refine gF ?_; refine gW (.there .here) ?_; apply gw_d; exact w_call rfl rfl (c1 _) rfl; apply gw_d; exact det_not_ rfl rfl rfl; refine gM ?_; refine gF ?_; refine gW (.there .here) ?_; apply gw_d; exact w_call rfl rfl (c2 _) rfl; apply gw_d; exact det_not_ rfl rfl rfl; refine gPq ?_; refine gM ?_; refine gF ?_; refine gW (.there .here) ?_; refine gF ?_; refine gW (.there .here) ?_; refine gA ?_; apply gw_d; exact w_call rfl rfl (c3 _) rfl; apply gw_d; exact det_not_ rfl rfl rfl; refine gPq ?_; refine gM ?_; (iterate 6 refine gU ?_); refine gPp ?_; refine gO ?_)
      refine gc_if_true rfl ?_
      (refine gV ?_; (iterate 2 refine gM ?_); refine gO ?_; refine gR ?_; refine gT ?_; refine gY ?_; (iterate 2 refine gT ?_); refine gY ?_; refine gT ?_)
      exact gx_ret2 (u := .slice _ _ _) (v := .int _ _) rfl rfl rfl (fun w' s' => ⟨0, r1.symm, by rw [r2]; trivial⟩)
     | true =>
      rw [m3] at c3
      have m4 : moneyB sa = false := by
       rcases h3 with h3 | h3 | h3 | h3
       ·rw [m1] at h3; cases h3
       ·rw [m2] at h3; cases h3
       ·rw [m3] at h3; cases h3
       ·exact h3
      rw [m4] at c4
      (refine gO ?_; refine gQ ?_; refine gV ?_; refine gF ?_; refine gW (.there .here) ?_; apply gw_d; exact w_call rfl rfl (c1 _) rfl; apply gw_d; exact det_not_ rfl rfl rfl; refine gM ?_; refine gF ?_; refine gW (.there .here) ?_; apply gw_d; exact w_call rfl rfl (c2 _) rfl; apply gw_d; exact det_not_ rfl rfl rfl; refine gPq ?_; refine gM ?_; refine gF ?_; refine gW (.there .here) ?_; refine gF ?_; refine gW (.there .here) ?_; refine gA ?_; apply gw_d; exact w_call rfl rfl (c3 _) rfl; apply gw_d; exact det_not_ rfl rfl rfl; refine gPq ?_; (iterate 2 refine gM ?_); refine gF ?_; refine gW (.there .here) ?_; apply gw_d; exact det_eq (c' := .int .i64 sa) (w_lookup (k := p.who) intLawC rfl rfl rfl rfl (.there (.there (.there .here)))) hmw; apply gw_d; exact w_call rfl rfl (c4 _) rfl; apply gw_d; exact det_not_ rfl rfl rfl; refine gPq ?_; refine gO ?_)
      refine gc_if_true rfl ?_
      (refine gV ?_; (iterate 2 refine gM ?_); refine gO ?_; refine gR ?_; refine gT ?_; refine gY ?_; (iterate 2 refine gT ?_); refine gY ?_; refine gT ?_)
      exact gx_ret2 (u := .slice _ _ _) (v := .int _ _) rfl rfl rfl (fun w' s' => ⟨0, r1.symm, by rw [r2]; trivial⟩)
  ·rw [if_neg h3] at hpe
   have m1 : moneyB p.work = true := by
    cases hx : moneyB p.work with
    | true => rfl
    | false => exact absurd (.inl hx) h3
   have m2 : moneyB p.top = true := by
    cases hx : moneyB p.top with
    | true => rfl
    | false => exact absurd (.inr (.inl hx)) h3
   have m3 : moneyB (p.work + p.top) = true := by
    cases hx : moneyB (p.work + p.top) with
    | true => rfl
    | false => exact absurd (.inr (.inr (.inl hx))) h3
   have m4 : moneyB sa = true := by
    cases hx : moneyB sa with
    | true => rfl
    | false => exact absurd (.inr (.inr (.inr hx))) h3
   have m1' := money_iff.1 m1
   have m2' := money_iff.1 m2
   rw [m1] at c1
   rw [m2] at c2
   rw [m3] at c3
   rw [m4] at c4
   (refine gO ?_; refine gQ ?_; refine gV ?_; refine gF ?_; refine gW (.there .here) ?_; apply gw_d; exact w_call rfl rfl (c1 _) rfl; apply gw_d; exact det_not_ rfl rfl rfl; refine gM ?_; refine gF ?_; refine gW (.there .here) ?_; apply gw_d; exact w_call rfl rfl (c2 _) rfl; apply gw_d; exact det_not_ rfl rfl rfl; refine gPq ?_; refine gM ?_; refine gF ?_; refine gW (.there .here) ?_; refine gF ?_; refine gW (.there .here) ?_; refine gA ?_; apply gw_d; exact w_call rfl rfl (c3 _) rfl; apply gw_d; exact det_not_ rfl rfl rfl; refine gPq ?_; (iterate 2 refine gM ?_); refine gF ?_; refine gW (.there .here) ?_; apply gw_d; exact det_eq (c' := .int .i64 sa) (w_lookup (k := p.who) intLawC rfl rfl rfl rfl (.there (.there (.there .here)))) hmw; apply gw_d; exact w_call rfl rfl (c4 _) rfl; apply gw_d; exact det_not_ rfl rfl rfl; refine gPq ?_; refine gO ?_)
   refine gc_if_false rfl ?_
   (refine gK ?_; refine gX ?_; refine gG ?_; (iterate 2 refine gM ?_); refine gF ?_; refine gW (.there .here) ?_; refine gM ?_; refine gF ?_; refine gW (.there .here) ?_; apply gw_d; exact det_eq (c' := .int .i64 sa) (w_lookup (k := p.who) intLawC rfl rfl rfl rfl (.there (.there (.there .here)))) hmw; refine gA ?_; apply gw_d; exact w_max rfl rfl rfl rfl; refine gF ?_; refine gW (.there .here) ?_; refine gA ?_; apply gw_d; exact w_index (m := k) rfl rfl rfl rfl rfl hkl)
   refine w_store_row (n := 1) (v := .int .i64 (max (p.work - sa) 0 + p.top)) rfl rfl rfl rfl rfl (.there (.there .here)) (by simp; omega) (row_set (Value.int .i64) (by omega) _) ?_
   rw [← hnv, hset2]
   (refine gw_nil ?_; refine gH ?_; refine gX ?_; refine gG ?_; refine gA ?_; refine gM ?_; refine gw_nil ?_)
   exact gx_round (k + 1) ⟨hkl, hsn hpe⟩ (by omega) kK ⟨rfl, trivial⟩ (.cons .here (.cons .here (.cons (.there .here) .nil)))
 ·obtain rfl : k = ps.length := by omega
  rw [hI] at hE0
  rw [List.take_length]
  have hfull : outRow (ps.map (netV cs)) ps.length = netL cs ps := by
   have : ps.length = (ps.map (netV cs)).length := by rw [List.length_map]
   rw [this]
   exact outRow_full
  rw [hfull]
  (refine gI ?_; (iterate 2 refine gZ ?_); refine gJ ?_; refine gX ?_; refine gV ?_; (iterate 3 refine gM ?_); refine gO ?_; refine gR ?_)
  exact gx_ret2 (u := .slice _ _ _) (v := .int _ _) rfl rfl rfl (fun w' s' => ⟨bn, by unfold netRes; rw [if_pos hE0], by
   unfold netOwn
   rw [if_pos hE0]
   exact (St.sub (K := [Box bn 3 ((netL cs ps).map (Value.int .i64)).toArray]) (.cons .here .nil) s').sep⟩)
theorem Sl.ofBox {α : Type} {R : Rp α} {w : World} {b n c : Nat} {cs : Array Value} {ty : TypeId} {l : List α} (hb : w.heap[b]? = some (.cells cs ty (0, 0))) (hn : n = l.length) (hc : n ≤ c) (hc2 : c ≤ maxLen) (h : ∀ k (hk : k < l.length), R.rep w (fun b => b < w.heap.size) l[k] ((cs.toList.drop (k * R.size)).take R.size)) : Sl R w w.heap.size (.slice (some ⟨b, 0, none⟩) n c) l := by
 subst hn
 refine ⟨_, c, rfl, hc, hc2, fun k hk => ⟨⟨b, 0, none⟩, _, rfl, (Array.getElem?_eq_some_iff.1 hb).1, fun j u hu => ?_, h k hk⟩⟩
 rw [add_zero]
 simp only [World.cell?, hb]
 rw [List.getElem?_take] at hu
 split at hu
 ·rw [List.getElem?_drop] at hu
  simpa using hu
 ·cases hu
section
variable {P : Program} {ops : Array Oper} {Q : Exit → Act → World → Prop} {N : Nat} {w0 : World} {L L' : List Res} {rest : List Oper} {e : Env}
end
theorem Sl.ofOwn {α : Type} {R : Rp α} {w0 w : World} {L L' : List Res} {A : Option Addr} {n c : Nat} {el : TypeId} {xs : List Value} {l : List α} (s : St w0 L w) (hp : Pick L (Own A n c el R.size xs) L') (hn : n = l.length)
  (h : ∀ k (hk : k < l.length), R.rep w (fun b => b < w.heap.size) l[k] ((xs.drop (k * R.size)).take R.size)) : Sl R w w.heap.size (.slice A n c) l := by
 have hown : w.ownsRow 0 el R.size (.slice A n c) n xs := (s.pick hp).head
 subst hn
 rcases hown.2 with ⟨hv, h0⟩ | ⟨g, cap, cur, hv, _, hg, h1, h2, h3, h4⟩
 ·injection hv with e1 e2 e3
  subst e1 e3
  exact ⟨none, 0, rfl, by omega, Nat.zero_le _, fun k hk => by omega⟩
 ·injection hv with e1 e2 e3
  subst e1 e3
  refine Sl.ofBox hg rfl h1 h2 fun k hk => ?_
  have e : (cur.toList.drop (k * R.size)).take R.size = (xs.drop (k * R.size)).take R.size := by
   rw [← h4, List.drop_take, List.take_take, Nat.min_eq_left]
   have : (k + 1) * R.size ≤ l.length * R.size := Nat.mul_le_mul_right _ hk
   rw [Nat.add_mul, Nat.one_mul] at this
   omega
  rw [e]
  exact h k hk
end Go.Proofs.YtckhibfbdnoigaaGreatDoor
