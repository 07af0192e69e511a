/- Texts in one file: RU WR RV RY RX M21 Open57 Open Open2 Open3 Open4. -/
import Derived.Test.YtckhibfbdnoigaaGreatDoorRT6
import Derived.Test.YtckhibfbdnoigaaGreatDoorRT4
import Derived.Test.YtckhibfbdnoigaaGreatDoorRT5
import Derived.Test.YtckhibfbdnoigaaGreatDoorRT2
import Derived.Lib.LaidTab
import Derived.LaidByTextLater
import Derived.Test.YtckhibfbdnoigaaGreatDoorRT3
set_option maxRecDepth 100000
set_option maxHeartbeats 8000000
namespace Go.Proofs.YtckhibfbdnoigaaGreatDoor
open Go.RowKit
theorem paid_take {ps : List Scn} {k : Nat} (hk : k < ps.length) (t o : Int) : paidB (ps.take (k + 1)) t o = (paidB (ps.take k) t o || (decide (ps[k].tick = t) && decide (ps[k].op = o))) := by
 rw [List.take_succ_eq_append_getElem hk, paidB_snoc]
theorem rs_done (w : World) (v : Value) (ps : List Scn) (t o : Int) (hl : Sl rScn w w.heap.size v ps) : Ok Tryz.prog 59 [v, .int .i64 t, .int .i64 o].toArray w fun r _ => r = .bool (paidB ps t o) := by
 obtain ⟨A, c, rfl, hc, hm, hcell⟩ := hl.scn
 refine ok_enter Tryz.func59 rfl Tryz.ntmps59 rfl ?_
 (refine gV ?_; refine gM ?_; refine gO ?_; refine gQ ?_; refine gV ?_; refine gM ?_; refine gO ?_; refine gB ?_)
 refine gc_loop (σ := Nat) [8, 9, 10, 11, 14, 15, 16, 17, 18, 19, 20, 21, 22, 23, 24, 25, 26, 27, 28, 29, 6, 12, 13, 7] (fun k => [(7, .int .i64 k)]) (fun _ => []) (fun k => k ≤ ps.length ∧ paidB (ps.take k) t o = false) (fun k => ps.length - k) 0 ⟨Nat.zero_le _, rfl⟩ ⟨rfl, trivial⟩ .nil ?_
 rintro k base ⟨hk, hI⟩
 (refine gQ ?_; refine gV ?_; (iterate 2 refine gM ?_); refine gL ?_; refine gC ?_; refine gO ?_)
 refine gc_if_dec rfl (fun h => ?_) (fun h => ?_)
 ·have hlt : k < ps.length := by omega
  obtain ⟨ad, rfl, hb, hce, _⟩ := hcell k hlt
  have hce0 := hce 0 _ rfl
  have hce1 := hce 1 _ rfl
  have hsn := paid_take hlt t o
  rw [hI, Bool.false_or] at hsn
  focus (refine gK ?_; refine gX ?_; refine gQ ?_; refine gB ?_; refine gV ?_; (iterate 2 refine gM ?_); apply gw_d; exact w_index rfl rfl rfl rfl (by with_reducible exact rfl) (by omega); refine gF ?_; apply gw_d; exact w_load_fld rfl rfl rfl (by assumption) (by assumption); refine gM ?_; refine gC ?_; refine gM ?_; refine gD (fun _ => ?_) (fun _ => ?_); (iterate 2 refine gM ?_); apply gw_d; exact w_index rfl rfl rfl rfl (by with_reducible exact rfl) (by omega); refine gF ?_; apply gw_d; exact w_load_fld rfl rfl rfl (by assumption) (by assumption); refine gM ?_; refine gC ?_; refine gPp ?_; refine gO ?_; refine gc_if_dec rfl (fun _ => ?_) (fun _ => ?_); refine gV ?_; refine gM ?_; refine gO ?_; refine gR ?_; refine gY ?_; (iterate 2 refine gT ?_); refine gY ?_; refine gT ?_; rotate_left; refine gK ?_; refine gH ?_; refine gX ?_; refine gG ?_; refine gM ?_; refine gA ?_; refine gM ?_; refine gw_nil ?_; rotate_left; (iterate 7 refine gU ?_); refine gPq ?_; refine gO ?_; refine gc_if_false rfl ?_; refine gK ?_; refine gH ?_; refine gX ?_; refine gG ?_; refine gM ?_; refine gA ?_; refine gM ?_; refine gw_nil ?_; rotate_left)
  ·rename_i h1 h2
   refine gx_ret1 (v := .bool _) rfl rfl (fun _ _ => ?_)
   have : paidB ps t o = true := List.any_eq_true.2 ⟨ps[k], List.getElem_mem hlt, by rw [decide_eq_true h1, decide_eq_true h2]; rfl⟩
   rw [this]
  ·rename_i h1 h2
   exact gx_round (k + 1) ⟨hlt, by rw [hsn, decide_eq_false h2]; simp⟩ (by omega) (by repeat (first | exact Keeps.refl | refine Keeps.upd rfl ?_ | refine Keeps.sets rfl ?_ | refine Keeps.havoc rfl ?_)) ⟨rfl, trivial⟩ .nil
  ·rename_i h1
   exact gx_round (k + 1) ⟨hlt, by rw [hsn, decide_eq_false h1]; simp⟩ (by omega) (by repeat (first | exact Keeps.refl | refine Keeps.upd rfl ?_ | refine Keeps.sets rfl ?_ | refine Keeps.havoc rfl ?_)) ⟨rfl, trivial⟩ .nil
 ·obtain rfl : k = ps.length := by omega
  rw [List.take_length] at hI
  (refine gI ?_; (iterate 2 refine gZ ?_); refine gJ ?_; refine gX ?_; refine gV ?_; refine gM ?_; refine gO ?_; refine gR ?_)
  refine gx_ret1 (v := .bool _) rfl rfl (fun _ _ => ?_)
  rw [hI]
theorem rs_last (w : World) (v : Value) (ps : List Scn) (t : Int) (hl : Sl rScn w w.heap.size v ps) : Ok Tryz.prog 61 [v, .int .i64 t].toArray w fun r _ => r = .int .i64 (lastT ps t) := by
 obtain ⟨A, c, rfl, hc, hm, hcell⟩ := hl.scn
 refine ok_enter Tryz.func61 rfl Tryz.ntmps61 rfl ?_
 (refine gV ?_; refine gM ?_; refine gN ?_; refine gM ?_; refine gO ?_; refine gQ ?_; refine gV ?_; refine gM ?_; refine gO ?_; refine gB ?_)
 refine gc_loop (σ := Nat) [7, 8, 9, 10, 13, 14, 15, 16, 17, 18, 19, 20, 21, 22, 23, 24, 5, 11, 12, 6] (fun k => [(6, .int .i64 k), (5, .int .i64 (lastT (ps.take k) t))]) (fun _ => []) (fun k => k ≤ ps.length) (fun k => ps.length - k) 0 (Nat.zero_le _) ⟨rfl, rfl, trivial⟩ .nil ?_
 rintro k base hk
 (refine gQ ?_; refine gV ?_; (iterate 2 refine gM ?_); refine gL ?_; refine gC ?_; refine gO ?_)
 refine gc_if_dec rfl (fun h => ?_) (fun h => ?_)
 ·have hlt : k < ps.length := by omega
  obtain ⟨ad, rfl, hb, hce, _⟩ := hcell k hlt
  have hce0 := hce 0 _ rfl
  have hce3 := hce 3 _ rfl
  have hsn : lastT (ps.take (k + 1)) t = if ps[k].tick = t then ps[k].time else lastT (ps.take k) t := by rw [List.take_succ_eq_append_getElem hlt, lastT_snoc]
  focus (refine gK ?_; refine gX ?_; refine gQ ?_; refine gB ?_; refine gV ?_; (iterate 2 refine gM ?_); apply gw_d; exact w_index rfl rfl rfl rfl (by with_reducible exact rfl) (by omega); refine gF ?_; apply gw_d; exact w_load_fld rfl rfl rfl (by assumption) (by assumption); refine gM ?_; refine gC ?_; refine gO ?_; refine gc_if_dec rfl (fun _ => ?_) (fun _ => ?_); refine gG ?_; (iterate 2 refine gM ?_); apply gw_d; exact w_index rfl rfl rfl rfl (by with_reducible exact rfl) (by omega); refine gF ?_; apply gw_d; exact w_load_fld rfl rfl rfl (by assumption) (by assumption); refine gM ?_; refine gw_nil ?_; refine gH ?_; refine gX ?_; refine gG ?_; refine gM ?_; refine gA ?_; refine gM ?_; refine gw_nil ?_; rotate_left; refine gK ?_; refine gH ?_; refine gX ?_; refine gG ?_; refine gM ?_; refine gA ?_; refine gM ?_; refine gw_nil ?_; rotate_left)
  ·rename_i h1
   rw [if_pos h1] at hsn
   exact gx_round (k + 1) hlt (by omega) (by repeat (first | exact Keeps.refl | refine Keeps.upd rfl ?_ | refine Keeps.sets rfl ?_ | refine Keeps.havoc rfl ?_)) ⟨rfl, by rw [hsn]; rfl, trivial⟩ .nil
  ·rename_i h1
   rw [if_neg h1] at hsn
   exact gx_round (k + 1) hlt (by omega) (by repeat (first | exact Keeps.refl | refine Keeps.upd rfl ?_ | refine Keeps.sets rfl ?_ | refine Keeps.havoc rfl ?_)) ⟨rfl, by rw [hsn]; rfl, trivial⟩ .nil
 ·obtain rfl : k = ps.length := by omega
  rw [List.take_length]
  (refine gI ?_; (iterate 2 refine gZ ?_); refine gJ ?_; refine gX ?_; refine gV ?_; (iterate 2 refine gM ?_); refine gO ?_; refine gR ?_)
  refine gx_ret1 (v := .int _ _) rfl rfl (fun _ _ => ?_)
  rfl
theorem rs_early (w : World) (v0 v1 v2 v3 v4 v5 v6 vp : Value) (l : List Opn) (ps : List Scn) (x : Scn) (hl : Sl rOp w w.heap.size v6 l) (hp : Sl rScn w w.heap.size vp ps) (ho : 0 ≤ x.op ∧ x.op < l.length) :
  Ok Tryz.prog 60 [.agg #[v0, v1, v2, v3, v4, v5, v6], vp, .agg #[.int .i64 x.tick, .int .i64 x.op, .int .i64 x.who, .int .i64 x.time]].toArray w fun r _ => r = .bool (!((afterAt l x.op).all fun a => paidB ps x.tick a)) := by
 obtain ⟨o, hoo⟩ : ∃ o : Nat, x.op = (o : Int) := ⟨x.op.toNat, by omega⟩
 have hol : o < l.length := by omega
 obtain ⟨ad, co, rfl, _, hlm, hb, hocell⟩ := hl.at' 5 rfl (by omega)
 obtain ⟨cs, hce, Aa, ca, Au, cu, rfl, hnm, q1, q2⟩ := hocell o hol
 have ha : Sl rInt w w.heap.size (.slice Aa l[o].after.length ca) l[o].after := q1
 obtain ⟨_, _, hv, hac, ham, hacell⟩ := ha.int
 injection hv with e1 e2 e3
 subst e1 e3
 have hce3 := hce 3 _ rfl
 have haft : afterAt l x.op = l[o].after := by
  unfold afterAt
  rw [hoo, Int.toNat_natCast, List.getElem?_eq_getElem hol]
  rfl
 rw [haft]
 obtain ⟨Ap, cp, rfl, _, _, _⟩ := hp.scn
 refine ok_enter Tryz.func60 rfl Tryz.ntmps60 rfl ?_
 (refine gV ?_; refine gw_boxd (v := .agg _) rfl rfl (fun _ => ?_); refine gw_boxd (v := .agg _) rfl rfl (fun _ => ?_); refine gM ?_; refine gO ?_; refine gQ ?_; refine gV ?_; refine gM ?_; refine gO ?_; refine gB ?_)
 refine gc_loopK (σ := Nat) [8, 9, 10, 11, 12, 13, 14, 15, 16, 17, 20, 21, 22, 23, 24, 25, 26, 27, 28, 29, 30, 31, 32, 33, 34, 6, 18, 19, 7] (fun k => [(7, .int .i64 k)]) (fun k => k ≤ l[o].after.length ∧ ((l[o].after.take k).all fun a => paidB ps x.tick a) = true) (fun k => l[o].after.length - k) 0 ⟨Nat.zero_le _, rfl⟩ ⟨rfl, trivial⟩ ?_
 rintro k base ⟨hk, hI⟩
 (refine gQ ?_; refine gV ?_; refine gM ?_; refine gF ?_; refine gW (.there .here) ?_; refine gF ?_; refine gW .here ?_; apply gw_d; exact w_index (m := o) rfl rfl rfl rfl hoo hol; refine gF ?_; apply gw_d; exact w_load_fld rfl rfl rfl (by assumption) (by assumption); refine gL ?_; refine gC ?_; refine gO ?_)
 refine gc_if_dec rfl (fun h => ?_) (fun h => ?_)
 ·have hlt : k < l[o].after.length := by omega
  obtain ⟨ada, rfl, hba, hcea, _⟩ := hacell k hlt
  have hD : ∀ (L : List Res) (w' : World), St w L w' → Ok Tryz.prog 59 [.slice Ap ps.length cp, .int .i64 x.tick, .int .i64 l[o].after[k]].toArray w' fun r _ => r = .bool (paidB ps x.tick l[o].after[k]) := fun L w' s' => rs_done w' _ ps _ _ (hp.later s')
  (refine gK ?_; refine gX ?_; refine gQ ?_; refine gB ?_; refine gQ ?_)
  refine gc_draw 15 (by kernel_rfl) (by kernel_rfl) ?_
  (refine dM ?_; apply gd_d; exact w_field rfl rfl rfl; apply gd_d; exact w_load_box rfl rfl rfl .here rfl; apply gd_d; exact w_field rfl rfl rfl; apply gd_d; exact w_load_box rfl rfl rfl (.there .here) rfl; apply gd_d; exact w_field rfl rfl rfl; apply gd_d; exact w_load_box rfl rfl rfl .here rfl; apply gd_d; exact w_index (m := o) rfl rfl rfl rfl hoo hol; apply gd_d; exact w_field rfl rfl rfl; apply gd_d; exact w_load_fld rfl rfl rfl (by assumption) (by assumption); refine dM ?_; apply gd_d; exact w_index rfl rfl rfl rfl (by with_reducible exact rfl) (by omega); apply gd_d; exact w_load_at rfl rfl rfl (by assumption) (by assumption); apply gd_d; exact w_call rfl rfl (hD _) rfl; apply gd_d; exact det_not_ rfl rfl rfl; refine gd_nil ?_; refine gO ?_)
  refine gc_if rfl (fun h2 => ?_) (fun h2 => ?_)
  ·have hf : (l[o].after.all fun a => paidB ps x.tick a) = false := List.all_eq_false.2 ⟨l[o].after[k], List.getElem_mem hlt, by simpa using h2⟩
   (refine gV ?_; refine gM ?_; refine gO ?_; refine gR ?_; refine gY ?_; (iterate 2 refine gT ?_); refine gY ?_; refine gT ?_)
   refine gx_ret1 (v := .bool _) rfl rfl (fun _ _ => ?_)
   rw [hf]
   rfl
  ·(refine gK ?_; refine gH ?_; refine gX ?_; refine gG ?_; refine gM ?_; refine gA ?_; refine gM ?_; refine gw_nil ?_)
   exact gx_round (k + 1) ⟨hlt, by rw [List.take_succ_eq_append_getElem hlt, List.all_append, hI]; simpa using h2⟩ (by omega) (by repeat (first | exact Keeps.refl | refine Keeps.upd rfl ?_ | refine Keeps.sets rfl ?_ | refine Keeps.havoc rfl ?_)) ⟨rfl, trivial⟩ (Sub.all _)
 ·obtain rfl : k = l[o].after.length := by omega
  rw [List.take_length] at hI
  (refine gI ?_; (iterate 2 refine gZ ?_); refine gJ ?_; refine gX ?_; refine gV ?_; refine gM ?_; refine gO ?_; refine gR ?_)
  refine gx_ret1 (v := .bool _) rfl rfl (fun _ _ => ?_)
  rw [hI]
  rfl
theorem rs_outcome (w : World) (v0 v1 v2 v3 v4 v5 v6 vb vw vp : Value) (l : List Opn) (bs : List Bun) (ws : List Wrk) (ps : List Scn) (x : Scn) (hl : Sl rOp w w.heap.size v6 l) (hb : Sl rBun w w.heap.size vb bs) (hw : Sl rWrk w w.heap.size vw ws) (hp : Sl rScn w w.heap.size vp ps) :
  Ok Tryz.prog 46 [.agg #[v0, v1, v2, v3, v4, v5, v6], vb, vw, vp, .agg #[.int .i64 x.tick, .int .i64 x.op, .int .i64 x.who, .int .i64 x.time]].toArray w fun r _ => r = .int .i64 (outE l ws (ticks bs) ps x) := by
 have hbt : ((bs.take bs.length).any fun y => decide (y.tick = x.tick)) = hasB (ticks bs) x.tick := by
  rw [List.take_length]
  unfold hasB ticks
  rw [List.any_map]
  rfl
 have hl' := hl
 have hw' := hw
 obtain ⟨A, c, rfl, hc, hm⟩ := len_small hl
 obtain ⟨Ab, cb, rfl, hbc, hbm⟩ := len_small hb
 obtain ⟨Aw, cw, rfl, hwc, hwm, hwcell⟩ := hw.wrk
 have hBu : ∀ (L : List Res) (w' : World), St w L w' → Ok Tryz.prog 56 [.slice Ab bs.length cb, .int .i64 (bs.length : Int), .int .i64 x.tick].toArray w' fun r _ => r = .bool (hasB (ticks bs) x.tick) := fun L w' s' => by
  have := rs_bundle w' _ bs bs.length x.tick (hb.later s') (Nat.le_refl _)
  rw [hbt] at this
  exact this
 by_cases hK : hasB (ticks bs) x.tick = true ∧ (0 ≤ x.op ∧ x.op < l.length ∧ 0 ≤ x.who ∧ x.who < ws.length ∧ 0 ≤ x.time ∧ x.time ≤ 1073741824)
 ·obtain ⟨hT, hK⟩ := hK
  have hE : outE l ws (ticks bs) ps x = if canAt ws x.who (machAt l x.op) = false then 4 else if paidB ps x.tick x.op = true then 2 else if (afterAt l x.op).all (fun a => paidB ps x.tick a) = false then 5 else if x.time < lastT ps x.tick then 6 else 1 := by
   unfold outE judgeE knownB
   rw [if_neg (by rw [hT]; decide), if_neg (by rw [decide_eq_true hK]; decide)]
  rw [hE]
  rw [hT] at hBu
  obtain ⟨o, ho⟩ : ∃ o : Nat, x.op = (o : Int) := ⟨x.op.toNat, by omega⟩
  obtain ⟨m, hmw⟩ : ∃ m : Nat, x.who = (m : Int) := ⟨x.who.toNat, by omega⟩
  have hol : o < l.length := by omega
  have hml : m < ws.length := by omega
  obtain ⟨ad, _, hv, _, _, hbl, hocell⟩ := hl.at' 5 rfl (by omega)
  injection hv with e1 e2 e3
  subst e1 e3
  obtain ⟨cs, hce, Aa, ca, Au, cu, rfl, hnm, q1, q2⟩ := hocell o hol
  have hce1 := hce 1 _ rfl
  obtain ⟨ad2, Am, cm, rfl, hb2, hce2, hnm2, hms⟩ := hwcell m hml
  have hcan : canAt ws x.who (machAt l x.op) = hasB ws[m].machines l[o].machine := by
   unfold canAt machAt
   rw [ho, hmw, Int.toNat_natCast, Int.toNat_natCast, List.getElem?_eq_getElem hol, List.getElem?_eq_getElem hml]
   rfl
  rw [hcan]
  have hCan : ∀ (L : List Res) (w' : World), St w L w' → Ok Tryz.prog 58 [.agg #[.string ws[m].name, .slice Am ws[m].machines.length cm], .int .i64 l[o].machine].toArray w' fun x _ => x = .bool (hasB ws[m].machines l[o].machine) := fun L w' s => rk_can w' ws[m].name Am l[o].machine cm ws[m].machines (hms.later s)
  have hDn : ∀ (L : List Res) (w' : World), St w L w' → Ok Tryz.prog 59 [vp, .int .i64 x.tick, .int .i64 x.op].toArray w' fun r _ => r = .bool (paidB ps x.tick x.op) := fun L w' s' => rs_done w' _ ps _ _ (hp.later s')
  have hEa : ∀ (L : List Res) (w' : World), St w L w' → Ok Tryz.prog 60 [.agg #[v0, v1, v2, v3, v4, v5, .slice (some ad) l.length c], vp, .agg #[.int .i64 x.tick, .int .i64 x.op, .int .i64 x.who, .int .i64 x.time]].toArray w' fun r _ => r = .bool (!((afterAt l x.op).all fun a => paidB ps x.tick a)) := fun L w' s' => rs_early w' v0 v1 v2 v3 v4 v5 _ vp l ps x (hl'.later s') (hp.later s') ⟨hK.1, hK.2.1⟩
  have hLa : ∀ (L : List Res) (w' : World), St w L w' → Ok Tryz.prog 61 [vp, .int .i64 x.tick].toArray w' fun r _ => r = .int .i64 (lastT ps x.tick) := fun L w' s' => rs_last w' _ ps _ (hp.later s')
  refine ok_enter Tryz.func46 rfl Tryz.ntmps46 rfl ?_
  (refine gV ?_; refine gw_boxd (v := .agg _) rfl rfl (fun _ => ?_); refine gw_boxd (v := .agg _) rfl rfl (fun _ => ?_); refine gM ?_; refine gO ?_; refine gQ ?_; refine gV ?_; (iterate 2 refine gM ?_); refine gL ?_; refine gF ?_; refine gW .here ?_)
  focus (apply gw_d; exact w_call rfl rfl (hBu _) rfl; apply gw_d; exact det_not_ rfl rfl rfl; refine gM ?_; refine gF ?_; refine gW .here ?_; refine gC ?_; refine gPq ?_; refine gM ?_; refine gD (fun _ => ?_) (fun _ => ?_); (iterate 6 refine gU ?_); refine gPp ?_; refine gM ?_; (iterate 3 refine gU ?_); refine gPp ?_; refine gM ?_; (iterate 5 refine gU ?_); refine gPp ?_; refine gM ?_; (iterate 3 refine gU ?_); refine gPp ?_; refine gM ?_; (iterate 3 refine gU ?_); refine gPp ?_; refine gO ?_; refine gc_if_true rfl ?_; refine gV ?_; refine gM ?_; refine gO ?_; refine gR ?_; refine gT ?_; rotate_left; refine gF ?_; refine gW .here ?_; refine gF ?_; refine gW (.there .here) ?_; refine gL ?_; refine gC ?_; refine gPq ?_; refine gM ?_; refine gD (fun _ => ?_) (fun _ => ?_); (iterate 3 refine gU ?_); refine gPp ?_; refine gM ?_; (iterate 5 refine gU ?_); refine gPp ?_; refine gM ?_; (iterate 3 refine gU ?_); refine gPp ?_; refine gM ?_; (iterate 3 refine gU ?_); refine gPp ?_; refine gO ?_; refine gc_if_true rfl ?_; refine gV ?_; refine gM ?_; refine gO ?_; refine gR ?_; refine gT ?_; rotate_left; refine gF ?_; refine gW .here ?_; refine gC ?_; refine gPq ?_; refine gM ?_; refine gD (fun _ => ?_) (fun _ => ?_); (iterate 5 refine gU ?_); refine gPp ?_; refine gM ?_; (iterate 3 refine gU ?_); refine gPp ?_; refine gM ?_; (iterate 3 refine gU ?_); refine gPp ?_; refine gO ?_; refine gc_if_true rfl ?_; refine gV ?_; refine gM ?_; refine gO ?_; refine gR ?_; refine gT ?_; rotate_left; refine gF ?_; refine gW .here ?_; refine gM ?_; refine gL ?_; refine gC ?_; refine gPq ?_; refine gM ?_; refine gD (fun _ => ?_) (fun _ => ?_); (iterate 3 refine gU ?_); refine gPp ?_; refine gM ?_; (iterate 3 refine gU ?_); refine gPp ?_; refine gO ?_; refine gc_if_true rfl ?_; refine gV ?_; refine gM ?_; refine gO ?_; refine gR ?_; refine gT ?_; rotate_left; refine gF ?_; refine gW .here ?_; refine gC ?_; refine gPq ?_; refine gM ?_; refine gD (fun _ => ?_) (fun _ => ?_); (iterate 3 refine gU ?_); refine gPp ?_; refine gO ?_; refine gc_if_true rfl ?_; refine gV ?_; refine gM ?_; refine gO ?_; refine gR ?_; refine gT ?_; rotate_left; refine gF ?_; refine gW .here ?_; refine gC ?_; refine gPq ?_; refine gO ?_; refine gc_if_dec rfl (fun _ => ?_) (fun _ => ?_); refine gV ?_; refine gM ?_; refine gO ?_; refine gR ?_; refine gT ?_; rotate_left; refine gK ?_; refine gX ?_; refine gQ ?_; refine gQ ?_; rotate_left)
  all_goals first | (exfalso; omega) | skip
  refine gc_draw 14 (by kernel_rfl) (by kernel_rfl) ?_
  (refine dM ?_; apply gd_d; exact w_field rfl rfl rfl; apply gd_d; exact w_load_box rfl rfl rfl .here rfl; apply gd_d; exact w_index (m := m) rfl rfl rfl rfl hmw hml; apply gd_d; exact w_load_elem rfl rfl rfl (by assumption) (by assumption) (by rfl); apply gd_d; exact w_field rfl rfl rfl; apply gd_d; exact w_load_box rfl rfl rfl (.there .here) rfl; apply gd_d; exact w_field rfl rfl rfl; apply gd_d; exact w_load_box rfl rfl rfl .here rfl; apply gd_d; exact w_index (m := o) rfl rfl rfl rfl ho hol; apply gd_d; exact w_field rfl rfl rfl; apply gd_d; exact w_load_fld rfl rfl rfl (by assumption) (by assumption); apply gd_d; exact w_call rfl rfl (hCan _) rfl; apply gd_d; exact det_not_ rfl rfl rfl; refine gd_nil ?_; refine gO ?_)
  cases h1 : hasB ws[m].machines l[o].machine with
  | false =>
   refine gc_if_true rfl ?_
   (refine gV ?_; refine gM ?_; refine gO ?_; refine gR ?_; refine gT ?_)
   refine gx_ret1 (v := .int _ _) rfl rfl (fun _ _ => ?_)
   rfl
  | true =>
   refine gc_if_false rfl ?_
   rw [if_neg (by decide)]
   (refine gK ?_; refine gX ?_; refine gQ ?_; refine gV ?_; refine gM ?_; refine gF ?_; refine gW .here ?_; refine gF ?_; refine gW .here ?_; apply gw_d; exact w_call rfl rfl (hDn _) rfl; refine gO ?_)
   cases h2 : paidB ps x.tick x.op with
   | true =>
    refine gc_if_true rfl ?_
    (refine gV ?_; refine gM ?_; refine gO ?_; refine gR ?_; refine gT ?_)
    refine gx_ret1 (v := .int _ _) rfl rfl (fun _ _ => ?_)
    rfl
   | false =>
    refine gc_if_false rfl ?_
    rw [if_neg (by decide)]
    (refine gK ?_; refine gX ?_; refine gQ ?_; refine gV ?_; apply gw_d; exact w_load_boxN rfl rfl rfl (.there .here) rfl; refine gM ?_; apply gw_d; exact w_load_boxN rfl rfl rfl .here rfl; apply gw_d; exact w_call rfl rfl (hEa _) rfl; refine gO ?_)
    cases h3 : (afterAt l x.op).all fun a => paidB ps x.tick a with
    | false =>
     refine gc_if_true rfl ?_
     (refine gV ?_; refine gM ?_; refine gO ?_; refine gR ?_; refine gT ?_)
     refine gx_ret1 (v := .int _ _) rfl rfl (fun _ _ => ?_)
     rfl
    | true =>
     refine gc_if_false rfl ?_
     rw [if_neg (by decide)]
     (refine gK ?_; refine gX ?_; refine gQ ?_; refine gQ ?_)
     refine gc_draw 7 (by kernel_rfl) (by kernel_rfl) ?_
     (apply gd_d; exact w_field rfl rfl rfl; apply gd_d; exact w_load_box rfl rfl rfl .here rfl; refine dM ?_; apply gd_d; exact w_field rfl rfl rfl; apply gd_d; exact w_load_box rfl rfl rfl .here rfl; apply gd_d; exact w_call rfl rfl (hLa _) rfl; apply gd_d; exact det_cmp rfl rfl rfl rfl rfl; refine gd_nil ?_; refine gO ?_)
     refine gc_if_dec rfl (fun h4 => ?_) (fun h4 => ?_)
     ·(refine gV ?_; refine gM ?_; refine gO ?_; refine gR ?_; refine gT ?_)
      refine gx_ret1 (v := .int _ _) rfl rfl (fun _ _ => ?_)
      rw [if_pos h4]
     ·(refine gK ?_; refine gX ?_; refine gV ?_; refine gM ?_; refine gO ?_; refine gR ?_)
      refine gx_ret1 (v := .int _ _) rfl rfl (fun _ _ => ?_)
      rw [if_neg h4]
 ·have hE : outE l ws (ticks bs) ps x = 3 := by
   unfold outE
   cases hT : hasB (ticks bs) x.tick with
   | false => exact if_pos rfl
   | true =>
    rw [if_neg (by decide)]
    unfold judgeE
    rw [if_pos]
    unfold knownB
    exact decide_eq_false fun h => hK ⟨hT, h⟩
  rw [hE]
  cases hT : hasB (ticks bs) x.tick with
  | false =>
   rw [hT] at hBu
   refine ok_enter Tryz.func46 rfl Tryz.ntmps46 rfl ?_
   (refine gV ?_; refine gw_boxd (v := .agg _) rfl rfl (fun _ => ?_); refine gw_boxd (v := .agg _) rfl rfl (fun _ => ?_); refine gM ?_; refine gO ?_; refine gQ ?_; refine gV ?_; (iterate 2 refine gM ?_); refine gL ?_; refine gF ?_; refine gW .here ?_)
   (apply gw_d; exact w_call rfl rfl (hBu _) rfl; apply gw_d; exact det_not_ rfl rfl rfl; refine gM ?_; (iterate 3 refine gU ?_); refine gPp ?_; refine gM ?_; (iterate 6 refine gU ?_); refine gPp ?_; refine gM ?_; (iterate 3 refine gU ?_); refine gPp ?_; refine gM ?_; (iterate 5 refine gU ?_); refine gPp ?_; refine gM ?_; (iterate 3 refine gU ?_); refine gPp ?_; refine gM ?_; (iterate 3 refine gU ?_); refine gPp ?_; refine gO ?_; refine gc_if_true rfl ?_; refine gV ?_; refine gM ?_; refine gO ?_; refine gR ?_; refine gT ?_)
   refine gx_ret1 (v := .int _ _) rfl rfl (fun _ _ => ?_)
   rfl
  | true =>
   rw [hT] at hBu
   have hK' : ¬ (0 ≤ x.op ∧ x.op < l.length ∧ 0 ≤ x.who ∧ x.who < ws.length ∧ 0 ≤ x.time ∧ x.time ≤ 1073741824) := fun h => hK ⟨hT, h⟩
   refine ok_enter Tryz.func46 rfl Tryz.ntmps46 rfl ?_
   (refine gV ?_; refine gw_boxd (v := .agg _) rfl rfl (fun _ => ?_); refine gw_boxd (v := .agg _) rfl rfl (fun _ => ?_); refine gM ?_; refine gO ?_; refine gQ ?_; refine gV ?_; (iterate 2 refine gM ?_); refine gL ?_; refine gF ?_; refine gW .here ?_)
   focus (apply gw_d; exact w_call rfl rfl (hBu _) rfl; apply gw_d; exact det_not_ rfl rfl rfl; refine gM ?_; refine gF ?_; refine gW .here ?_; refine gC ?_; refine gPq ?_; refine gM ?_; refine gD (fun _ => ?_) (fun _ => ?_); (iterate 6 refine gU ?_); refine gPp ?_; refine gM ?_; (iterate 3 refine gU ?_); refine gPp ?_; refine gM ?_; (iterate 5 refine gU ?_); refine gPp ?_; refine gM ?_; (iterate 3 refine gU ?_); refine gPp ?_; refine gM ?_; (iterate 3 refine gU ?_); refine gPp ?_; refine gO ?_; refine gc_if_true rfl ?_; refine gV ?_; refine gM ?_; refine gO ?_; refine gR ?_; refine gT ?_; rotate_left; refine gF ?_; refine gW .here ?_; refine gF ?_; refine gW (.there .here) ?_; refine gL ?_; refine gC ?_; refine gPq ?_; refine gM ?_; refine gD (fun _ => ?_) (fun _ => ?_); (iterate 3 refine gU ?_); refine gPp ?_; refine gM ?_; (iterate 5 refine gU ?_); refine gPp ?_; refine gM ?_; (iterate 3 refine gU ?_); refine gPp ?_; refine gM ?_; (iterate 3 refine gU ?_); refine gPp ?_; refine gO ?_; refine gc_if_true rfl ?_; refine gV ?_; refine gM ?_; refine gO ?_; refine gR ?_; refine gT ?_; rotate_left; refine gF ?_; refine gW .here ?_; refine gC ?_; refine gPq ?_; refine gM ?_; refine gD (fun _ => ?_) (fun _ => ?_); (iterate 5 refine gU ?_); refine gPp ?_; refine gM ?_; (iterate 3 refine gU ?_); refine gPp ?_; refine gM ?_; (iterate 3 refine gU ?_); refine gPp ?_; refine gO ?_; refine gc_if_true rfl ?_; refine gV ?_; refine gM ?_; refine gO ?_; refine gR ?_; refine gT ?_; rotate_left; refine gF ?_; refine gW .here ?_; refine gM ?_; refine gL ?_; refine gC ?_; refine gPq ?_; refine gM ?_; refine gD (fun _ => ?_) (fun _ => ?_); (iterate 3 refine gU ?_); refine gPp ?_; refine gM ?_; (iterate 3 refine gU ?_); refine gPp ?_; refine gO ?_; refine gc_if_true rfl ?_; refine gV ?_; refine gM ?_; refine gO ?_; refine gR ?_; refine gT ?_; rotate_left; refine gF ?_; refine gW .here ?_; refine gC ?_; refine gPq ?_; refine gM ?_; refine gD (fun _ => ?_) (fun _ => ?_); (iterate 3 refine gU ?_); refine gPp ?_; refine gO ?_; refine gc_if_true rfl ?_; refine gV ?_; refine gM ?_; refine gO ?_; refine gR ?_; refine gT ?_; rotate_left; refine gF ?_; refine gW .here ?_; refine gC ?_; refine gPq ?_; refine gO ?_; refine gc_if_dec rfl (fun _ => ?_) (fun _ => ?_); refine gV ?_; refine gM ?_; refine gO ?_; refine gR ?_; refine gT ?_; rotate_left; refine gK ?_; refine gX ?_; refine gQ ?_; refine gQ ?_; rotate_left)
   all_goals first | (exfalso; omega) | skip
   all_goals (refine gx_ret1 (v := .int _ _) rfl rfl (fun _ _ => ?_); rfl)
/-! ### Totals -/
section
variable {w : World} {v0 v1 v2 v3 v4 v5 v6 vb vw vx : Value} {r le : Int} {s : Sty} {bs : List Bun} {ws : List Wrk} {xs : List Scn}
theorem rJudge_bad (hs : StyV w w.heap.size (.agg #[v0, v1, v2, v3, v4, v5, v6]) s) (hb : Sl rBun w w.heap.size vb bs) (hw : Sl rWrk w w.heap.size vw ws) (hx : Sl rScn w w.heap.size vx xs) (he : ¬ judgeAllE (opCheckE s plE) bs ws xs.length = 0) :
  Ok Tryz.prog 35 [.agg #[v0, v1, v2, v3, v4, v5, v6], vb, vw, vx].toArray w fun x _ => x = .tuple #[.slice none 0 0, .int .i64 (judgeAllE (opCheckE s plE) bs ws xs.length)] := by
 have hC := fun (L : List Res) (w' : World) (s' : St w L w') => rs_check w' _ _ _ s bs ws (StyV.later s' hs) (hb.later s') (hw.later s')
 obtain ⟨A, c, rfl, hxc, hxm, _⟩ := hx.scn
 refine ok_enter Tryz.func35 rfl Tryz.ntmps35 rfl ?_
 (refine gV ?_; refine gw_boxd (v := .agg _) rfl rfl (fun _ => ?_); (iterate 2 refine gM ?_); refine gO ?_; refine gQ ?_; refine gV ?_; apply gw_d; exact w_load_boxN rfl rfl rfl .here rfl; (iterate 2 refine gM ?_))
 (apply gw_d; exact w_call rfl rfl (hC _) rfl; refine gM ?_; refine gN ?_; refine gM ?_; refine gC ?_; refine gO ?_)
 refine gc_if_dec rfl (fun h => ?_) (fun h => ?_)
 ·(refine gV ?_; (iterate 3 refine gM ?_); refine gO ?_; refine gR ?_; refine gT ?_)
  refine gx_ret2 (u := .slice _ _ _) (v := .int _ _) rfl rfl rfl (fun _ _ => ?_)
  unfold judgeAllE
  rw [if_pos h]
 ·(refine gK ?_; refine gX ?_; refine gQ ?_; refine gV ?_; refine gM ?_; refine gL ?_; refine gC ?_; refine gO ?_)
  refine gc_if_dec rfl (fun h3 => ?_) (fun h3 => ?_)
  ·(refine gV ?_; (iterate 2 refine gM ?_); refine gO ?_; refine gR ?_; refine gT ?_)
   refine gx_ret2 (u := .slice _ _ _) (v := .int _ _) rfl rfl rfl (fun _ _ => ?_)
   unfold judgeAllE
   rw [if_neg h, if_pos (by omega)]
  ·exfalso
   apply he
   unfold judgeAllE
   rw [if_neg h, if_neg (by omega)]
theorem rJudge_ok (hs : StyV w w.heap.size (.agg #[v0, v1, v2, v3, v4, v5, v6]) s) (hb : Sl rBun w w.heap.size vb bs) (hw : Sl rWrk w w.heap.size vw ws) (hx : Sl rScn w w.heap.size vx xs) (he : judgeAllE (opCheckE s plE) bs ws xs.length = 0) :
  OkM Tryz.prog 35 [.agg #[v0, v1, v2, v3, v4, v5, v6], vb, vw, vx].toArray w (fun x : Option Addr × Nat => .tuple #[.slice x.1 xs.length x.2, .int .i64 0]) (fun x => [Own x.1 xs.length x.2 3 1 ((outs s.ops ws (ticks bs) [] xs).map (Value.int .i64))]) := by
 obtain ⟨hOk, hx300⟩ := judge_zero he
 have hsc : scanE (opCheckE s plE) bs ws = 0 := by
  unfold judgeAllE at he
  split at he
  ·rename_i h; exact absurd he h
  ·rename_i h; simpa using h
 have hC : ∀ (L : List Res) (w' : World), St w L w' → Ok Tryz.prog 45 [.agg #[v0, v1, v2, v3, v4, v5, v6], vb, vw].toArray w' fun x _ => x = .int .i64 0 := fun L w' s' => by
  have := rs_check w' _ _ _ s bs ws (StyV.later s' hs) (hb.later s') (hw.later s')
  rw [hsc] at this
  exact this
 have h6 := sty_ops hs
 have hO : ∀ (L L' : List Res) (w' : World) (B : Option Addr) (cb : Nat) (ps : List Scn) (x : Scn), (∀ q ∈ ps, q ∈ xs) → Pick L (Own B ps.length cb 51 4 (ps.flatMap encX)) L' → St w L w' → Ok Tryz.prog 46 [.agg #[v0, v1, v2, v3, v4, v5, v6], vb, vw, .slice B ps.length cb, .agg #[.int .i64 x.tick, .int .i64 x.op, .int .i64 x.who, .int .i64 x.time]].toArray w' fun r _ => r = .int .i64 (outE s.ops ws (ticks bs) ps x) := fun L L' w' B cb ps x hin hp s' =>
  rs_outcome w' v0 v1 v2 v3 v4 v5 v6 vb vw _ s.ops bs ws ps x (h6.later s') (hb.later s') (hw.later s') (Sl.own (R := rScn) (enc := encX) s' hp rfl (fun q hq => paid_rep hx (hin q hq)))
 obtain ⟨Ax, cx, rfl, hxc, hxm, hxcell⟩ := hx.scn
 unfold OkM
 refine ok_enter Tryz.func35 rfl Tryz.ntmps35 rfl ?_
 (refine gV ?_; refine gw_boxd (v := .agg _) rfl rfl (fun _ => ?_); (iterate 2 refine gM ?_); refine gO ?_; refine gQ ?_; refine gV ?_; apply gw_d; exact w_load_boxN rfl rfl rfl .here rfl; (iterate 2 refine gM ?_))
 rename_i bS
 (apply gw_d; exact w_call rfl rfl (hC _) rfl; refine gM ?_; refine gN ?_; refine gM ?_; refine gC ?_; refine gO ?_)
 refine gc_if_dec rfl (fun h => absurd rfl h) (fun _ => ?_)
 (refine gK ?_; refine gX ?_; refine gQ ?_; refine gV ?_; refine gM ?_; refine gL ?_; refine gC ?_; refine gO ?_)
 refine gc_if_dec rfl (fun h => by omega) (fun _ => ?_)
 (refine gK ?_; refine gX ?_; refine gV ?_; refine gM ?_; refine gN ?_; refine gM ?_; refine gO ?_; refine gQ ?_; refine gV ?_; refine gM ?_; refine gO ?_; refine gB ?_)
 refine gc_own0 51 4 ?_
 refine gc_own0 3 1 ?_
 refine gc_loop (σ := Nat × (Option Addr × Nat) × Option Addr × Nat) [25, 26, 27, 28, 31, 32, 33, 34, 35, 36, 37, 38, 39, 14, 40, 41, 42, 43, 11, 44, 45, 46, 47, 48, 49, 50, 51, 52, 12, 29, 30, 13] (fun q => [(13, .int .i64 q.1), (11, .slice q.2.1.1 q.1 q.2.1.2), (12, .slice q.2.2.1 (paidL s.ops ws (ticks bs) (xs.take q.1)).length q.2.2.2)]) (fun q => [Own q.2.1.1 q.1 q.2.1.2 3 1 ((outs s.ops ws (ticks bs) [] (xs.take q.1)).map (Value.int .i64)), Own q.2.2.1 (paidL s.ops ws (ticks bs) (xs.take q.1)).length q.2.2.2 51 4 ((paidL s.ops ws (ticks bs) (xs.take q.1)).flatMap encX), Box bS 29 #[v0, v1, v2, v3, v4, v5, v6]]) (fun q => q.1 ≤ xs.length) (fun q => xs.length - q.1) (0, (none, 0), none, 0) (Nat.zero_le _) ⟨rfl, rfl, rfl, trivial⟩ (.cons .here (.cons .here (.cons .here .nil))) ?_
 rintro ⟨k, ⟨A, c⟩, B, cb⟩ base hk
 dsimp only at hk ⊢
 (refine gQ ?_; refine gV ?_; (iterate 2 refine gM ?_); refine gL ?_; refine gC ?_; refine gO ?_)
 refine gc_if_dec rfl (fun h => ?_) (fun h => ?_)
 ·have hlt : k < xs.length := by omega
  obtain ⟨ad, rfl, hbk, hce, _⟩ := hxcell k hlt
  have hin : ∀ q ∈ paidL s.ops ws (ticks bs) (xs.take k), q ∈ xs := fun q hq => List.mem_of_mem_take (paid_mem hq)
  have hpl := paidL_len s.ops ws (ticks bs) (xs.take k)
  have hos : outs s.ops ws (ticks bs) [] (xs.take (k + 1)) = outs s.ops ws (ticks bs) [] (xs.take k) ++ [outE s.ops ws (ticks bs) (paidL s.ops ws (ticks bs) (xs.take k)) xs[k]] := by
   rw [List.take_succ_eq_append_getElem hlt, outs_snoc]
   rfl
  have hps : paidL s.ops ws (ticks bs) (xs.take (k + 1)) = nextP s.ops ws (ticks bs) (paidL s.ops ws (ticks bs) (xs.take k)) xs[k] := by rw [List.take_succ_eq_append_getElem hlt, paidL_snoc]
  unfold nextP at hps
  rw [List.length_take] at hpl
  generalize paidL s.ops ws (ticks bs) (xs.take k) = ps at hin hpl hos hps
  generalize xs[k] = x at hce hos hps
  have hO1 := fun (L L' : List Res) (w' : World) hp (s' : St w L w') => hO L L' w' B cb ps x hin hp s'
  generalize outE s.ops ws (ticks bs) ps x = o at hos hps hO1
  (refine gK ?_; refine gX ?_; refine gQ ?_; refine gB ?_; refine gQ ?_)
  refine gc_draw 9 (by kernel_rfl) (by kernel_rfl) ?_
  (apply gd_d; exact w_load_boxN rfl rfl rfl (.there (.there .here)) rfl; (iterate 5 refine dM ?_); apply gd_d; exact w_index (m := k) rfl rfl rfl rfl rfl hlt; apply gd_d; exact w_load_elem rfl rfl rfl (by assumption) (by assumption) (by rfl); apply gd_d; exact w_call rfl rfl (fun w s' => hO1 _ _ w (.there .here) s') rfl; refine gd_nil ?_; refine gM ?_; refine gN ?_; (iterate 2 refine gM ?_))
  refine gw_bslice1 (v := .int .i64 o) rfl rfl rfl rfl rfl (fun b1 => ?_)
  refine gw_append (news := [.int .i64 o]) rfl rfl rfl (.there .here) rfl (fun w' s' _ => ⟨⟨b1, 0, none⟩, rfl, fun j u hu => by rw [add_zero]; refine (Box.cell s'.head j).trans ?_; change (#[Value.int .i64 o] : Array Value)[j]? = some u; rw [List.getElem?_toArray]; exact hu⟩) (fun u hu => by rw [List.mem_singleton] at hu; subst hu; rfl) (by unfold maxLen; omega) (by omega) (by decide) rfl (fun A2 c2 => ?_)
  (refine gM ?_; refine gN ?_; refine gM ?_; refine gC ?_; refine gO ?_)
  refine gc_if_dec rfl (fun h1 => ?_) (fun h1 => ?_)
  ·rw [if_pos h1] at hps
   (refine gG ?_; (iterate 3 refine gM ?_); apply gw_d; exact w_index (m := k) rfl rfl rfl rfl rfl hlt; apply gw_d; exact w_load_elem rfl rfl rfl (by assumption) (by assumption) (by rfl))
   refine gw_bslice1 (v := .agg #[.int .i64 x.tick, .int .i64 x.op, .int .i64 x.who, .int .i64 x.time]) rfl rfl rfl rfl rfl (fun b2 => ?_)
   refine gw_append (news := encX x) rfl rfl rfl (.there (.there (.there .here))) rfl (fun w' s' _ => ⟨⟨b2, 0, none⟩, rfl, fun j u hu => by rw [add_zero]; refine (Box.cell s'.head j).trans ?_; change (#[Value.int .i64 x.tick, .int .i64 x.op, .int .i64 x.who, .int .i64 x.time] : Array Value)[j]? = some u; rw [List.getElem?_toArray]; exact hu⟩) (fun u hu => by simp only [encX, List.mem_cons, List.not_mem_nil, or_false] at hu; rcases hu with rfl | rfl | rfl | rfl <;> rfl) (by unfold maxLen; omega) (by omega) (by decide) rfl (fun B2 cb2 => ?_)
   (refine gM ?_; refine gw_nil ?_; refine gH ?_; refine gX ?_; refine gG ?_; refine gM ?_; refine gA ?_; refine gM ?_; refine gw_nil ?_)
   refine gx_round (k + 1, (A2, c2), B2, cb2) hlt (by dsimp only; omega) (by repeat (first | exact Keeps.refl | refine Keeps.upd rfl ?_ | refine Keeps.sets rfl ?_ | refine Keeps.havoc rfl ?_)) ⟨rfl, rfl, by rw [hps, List.length_append]; rfl, trivial⟩ ?_
   dsimp only
   rw [hos, hps, List.map_append, List.flatMap_append, List.length_append]
   simp only [List.flatMap_cons, List.flatMap_nil, List.append_nil, List.map_cons, List.map_nil]
   exact .cons (.there (.there .here)) (.cons .here (.cons (.there (.there .here)) .nil))
  ·rw [if_neg h1] at hps
   (refine gK ?_; refine gH ?_; refine gX ?_; refine gG ?_; refine gM ?_; refine gA ?_; refine gM ?_; refine gw_nil ?_)
   refine gx_round (k + 1, (A2, c2), B, cb) hlt (by dsimp only; omega) (by repeat (first | exact Keeps.refl | refine Keeps.upd rfl ?_ | refine Keeps.sets rfl ?_ | refine Keeps.havoc rfl ?_)) ⟨rfl, rfl, by rw [hps]; rfl, trivial⟩ ?_
   dsimp only
   rw [hos, hps, List.map_append]
   simp only [List.map_cons, List.map_nil]
   exact .cons .here (.cons (.there .here) (.cons (.there .here) .nil))
 ·obtain rfl : k = xs.length := by omega
  rw [List.take_length]
  (refine gI ?_; (iterate 2 refine gZ ?_); refine gJ ?_; refine gX ?_; refine gV ?_; (iterate 3 refine gM ?_); refine gO ?_; refine gR ?_)
  exact gx_ret2 (u := .slice _ _ _) (v := .int _ _) rfl rfl rfl (fun w' s' => ⟨(A, c), rfl, (s'.sub (.cons .here .nil)).sep⟩)
end
def bunD (bs : List Bun) (t : Int) : Bun := (bunAt bs t).getD bunZ
def bunV (b : Bun) : Array Value := #[.int .i64 b.tick, .int .i64 b.garm, .int .i64 b.size, .int .i64 b.lot, .int .i64 b.fr, .int .i64 b.upto]
theorem findT {α : Type} {p : α → Bool} {l : List α} {k : Nat} (hk : k < l.length) (h : (l.take k).find? p = none) (hp : p l[k] = true) : l.find? p = some l[k] := by
 have e : (l.take k ++ l[k] :: l.drop (k + 1)).find? p = some l[k] := by
  rw [List.find?_append, h, List.find?_cons, hp]
  rfl
 rwa [List.getElem_cons_drop, List.take_append_drop] at e
theorem findS {α : Type} {p : α → Bool} {l : List α} {k : Nat} (hk : k < l.length) (h : (l.take k).find? p = none) (hp : p l[k] = false) : (l.take (k + 1)).find? p = none := by
 rw [List.take_succ_eq_append_getElem hk, List.find?_append, h]
 simp [hp]
section
variable {w : World} {v0 v1 v2 v3 v4 v5 v6 vb vw vx : Value} {r le : Int} {s : Sty} {bs : List Bun} {ws : List Wrk} {xs : List Scn}
end
theorem rbundle58_ok (w : World) (v : Value) (bs : List Bun) (t : Int) (hb : Sl rBun w w.heap.size v bs) : Ok Tryz.prog 51 [v, .int .i64 t].toArray w fun r _ => r = .tuple #[.agg (bunV (bunD bs t)), .bool (bunAt bs t).isSome] := by
 obtain ⟨A, c, rfl, hc, hm, hcell⟩ := hb.bun
 refine ok_enter Tryz.func51 rfl Tryz.ntmps51 rfl ?_
 (refine gV ?_; refine w_alloc rfl (fun _ => ?_); refine gM ?_; refine gO ?_; refine gQ ?_; refine gV ?_; refine gM ?_; refine gO ?_; refine gB ?_)
 refine gc_loopK (σ := Nat) [7, 8, 9, 10, 13, 14, 15, 16, 17, 18, 19, 20, 21, 22, 23, 5, 11, 12, 6] (fun k => [(6, .int .i64 k)]) (fun k => k ≤ bs.length ∧ (bs.take k).find? (fun b => decide (b.tick = t)) = none) (fun k => bs.length - k) 0 ⟨Nat.zero_le _, rfl⟩ ⟨rfl, trivial⟩ ?_
 rintro k base ⟨hk, hI⟩
 (refine gQ ?_; refine gV ?_; (iterate 2 refine gM ?_); refine gL ?_; refine gC ?_; refine gO ?_)
 refine gc_if_dec rfl (fun h => ?_) (fun h => ?_)
 ·have hlt : k < bs.length := by omega
  obtain ⟨ad, rfl, hbk, hce, _⟩ := hcell k hlt
  have hce0 := hce 0 _ rfl
  (refine gK ?_; refine gX ?_; refine gQ ?_; refine gB ?_; refine gV ?_; (iterate 2 refine gM ?_); apply gw_d; exact w_index rfl rfl rfl rfl (by with_reducible exact rfl) (by omega); refine gF ?_; apply gw_d; exact w_load_fld rfl rfl rfl (by assumption) (by assumption); refine gM ?_; refine gC ?_; refine gO ?_)
  refine gc_if_dec rfl (fun h2 => ?_) (fun h2 => ?_)
  ·have hd : bunAt bs t = some bs[k] := findT hlt hI (decide_eq_true h2)
   unfold bunD
   rw [hd]
   (refine gV ?_; (iterate 2 refine gM ?_); apply gw_d; exact w_index rfl rfl rfl rfl (by with_reducible exact rfl) (by omega); apply gw_d; exact w_load_elem rfl rfl rfl (by assumption) (by assumption) (by rfl); refine w_store_all rfl rfl rfl rfl rfl .here rfl ?_; refine gM ?_; refine gO ?_; refine gR ?_; refine gY ?_; (iterate 2 refine gT ?_); refine gY ?_; refine gT ?_)
   exact gx_ret2c (v := .bool _) rfl rfl rfl .here rfl fun w s => rfl
  ·(refine gK ?_; refine gH ?_; refine gX ?_; refine gG ?_; refine gM ?_; refine gA ?_; refine gM ?_; refine gw_nil ?_)
   exact gx_round (k + 1) ⟨hlt, findS hlt hI (decide_eq_false h2)⟩ (by omega) (by repeat (first | exact Keeps.refl | refine Keeps.upd rfl ?_ | refine Keeps.sets rfl ?_ | refine Keeps.havoc rfl ?_)) ⟨rfl, trivial⟩ (Sub.all _)
 ·obtain rfl : k = bs.length := by omega
  rw [List.take_length] at hI
  have hd : bunAt bs t = none := hI
  unfold bunD
  rw [hd]
  (refine gI ?_; (iterate 2 refine gZ ?_); refine gJ ?_; refine gX ?_; refine gV ?_; apply gw_d; exact w_build (cells := #[.int .i64 0, .int .i64 0, .int .i64 0, .int .i64 0, .int .i64 0, .int .i64 0]) rfl rfl (by kernel_rfl); refine w_store_all rfl rfl rfl rfl rfl .here rfl ?_; refine gM ?_; refine gO ?_; refine gR ?_)
  exact gx_ret2c (v := .bool _) rfl rfl rfl .here rfl fun w s => rfl

theorem paid_ext (l : List Opn) (ws : List Wrk) (tk : List Int) : ∀ (ys ps : List Scn), ∃ r, ys.foldl (nextP l ws tk) ps = ps ++ r
 | [], ps => ⟨[], by simp⟩
 | y :: ys, ps => by
  rw [List.foldl_cons]
  obtain ⟨r, hr⟩ := paid_ext l ws tk ys (nextP l ws tk ps y)
  rw [hr]
  unfold nextP
  split
  ·exact ⟨y :: r, by simp⟩
  ·exact ⟨r, rfl⟩
theorem who_hit {l : List Opn} {ws : List Wrk} {tk : List Int} {xs : List Scn} {k : Nat} {t o : Int} (hk : k < xs.length) (hI : whoAt (paidL l ws tk (xs.take k)) t o = none) (h1 : outE l ws tk (paidL l ws tk (xs.take k)) xs[k] = 1) (ht : xs[k].tick = t) (ho : xs[k].op = o) : whoAt (paidL l ws tk xs) t o = some xs[k] := by
 have e : paidL l ws tk xs = (xs.drop (k + 1)).foldl (nextP l ws tk) (paidL l ws tk (xs.take (k + 1))) := by
  unfold paidL
  rw [← List.foldl_append, List.take_append_drop]
 have e2 : paidL l ws tk (xs.take (k + 1)) = paidL l ws tk (xs.take k) ++ [xs[k]] := by
  rw [List.take_succ_eq_append_getElem hk, paidL_snoc]
  unfold nextP
  rw [if_pos h1]
 obtain ⟨r, hr⟩ := paid_ext l ws tk (xs.drop (k + 1)) (paidL l ws tk (xs.take (k + 1)))
 rw [e, hr, e2]
 unfold whoAt at hI ⊢
 rw [List.append_assoc, List.find?_append, hI]
 simp [ht, ho]
theorem who_miss {l : List Opn} {ws : List Wrk} {tk : List Int} {xs : List Scn} {k : Nat} {t o : Int} (hk : k < xs.length) (hI : whoAt (paidL l ws tk (xs.take k)) t o = none) (h1 : ¬ (outE l ws tk (paidL l ws tk (xs.take k)) xs[k] = 1 ∧ xs[k].tick = t ∧ xs[k].op = o)) : whoAt (paidL l ws tk (xs.take (k + 1))) t o = none := by
 rw [List.take_succ_eq_append_getElem hk, paidL_snoc]
 unfold nextP
 split
 ·rename_i h2
  unfold whoAt at hI ⊢
  rw [List.find?_append, hI]
  have h3 : ¬ (xs[k].tick = t ∧ xs[k].op = o) := fun h => h1 ⟨h2, h⟩
  simpa using h3
 ·exact hI

section
variable {w : World} {v0 v1 v2 v3 v4 v5 v6 vb vw vx vl vo : Value} {r le : Int} {s : Sty} {bs : List Bun} {ws : List Wrk} {xs : List Scn} {l : List Opn} {tk os : List Int}
theorem rtrace58_ok (x : Ret) (hl : Sl rOp w w.heap.size v6 l) (hb : Sl rBun w w.heap.size vb bs) (hx : Sl rScn w w.heap.size vx xs) (ho : Sl rInt w w.heap.size vo os) (hol : os.length = xs.length) (hoat : ∀ i (hi : i < xs.length), os.getD i 0 = outE l ws tk (paidL l ws tk (xs.take i)) xs[i]) :
  Ok Tryz.prog 40 [.agg #[v0, v1, v2, v3, v4, v5, v6], vb, vx, vo, .agg #[.int .i64 x.tick, .int .i64 x.ply, .int .i64 x.op]].toArray w fun y _ => y = .tuple #[.int .i64 (trW l.length bs (paidL l ws tk xs) x), .int .i64 (trE l.length bs (paidL l ws tk xs) x)] := by
 have hBu := fun (L : List Res) (w' : World) (s' : St w L w') => rbundle58_ok w' vb bs x.tick (hb.later s')
 obtain ⟨Al, cl, rfl, hlc, hlm⟩ := len_small hl
 obtain ⟨Ax, cx, rfl, hxc, hxm, hxcell⟩ := hx.scn
 obtain ⟨Ao, co, rfl, hoc, hom, hocell⟩ := ho.int
 by_cases hr : bunAt bs x.tick = none
 ·have hE : trE l.length bs (paidL l ws tk xs) x = 6 := by unfold trE; rw [hr]
  obtain ⟨hW, _⟩ := trE_bad (n := l.length) (bs := bs) (ps := paidL l ws tk xs) (r := x) (by rw [hE]; decide)
  rw [hE, hW]
  rw [hr] at hBu
  refine ok_enter Tryz.func40 rfl Tryz.ntmps40 rfl ?_
  (refine gV ?_; refine gw_boxd (v := .agg _) rfl rfl (fun _ => ?_); refine gw_boxd (v := .agg _) rfl rfl (fun _ => ?_); (iterate 2 refine gM ?_); refine gN ?_; refine gM ?_; refine gF ?_; refine gW .here ?_; apply gw_d; exact w_call rfl rfl (hBu _) rfl; refine gM ?_; apply gw_d; exact det_extract rfl rfl rfl (by conv => (lhs; whnf)); apply gw_d; exact det_extract rfl rfl rfl (by conv => (lhs; whnf)); refine w_alloc rfl (fun _ => ?_); refine w_store_all rfl rfl rfl rfl rfl .here rfl ?_; refine gM ?_; refine gO ?_; refine gQ ?_; refine gV ?_; refine gM ?_; apply gw_d; exact det_not_ rfl rfl rfl; refine gO ?_)
  refine gc_if_true rfl ?_
  (refine gV ?_; (iterate 2 refine gM ?_); refine gO ?_; refine gR ?_; refine gT ?_)
  refine gx_ret2 (u := .int _ _) (v := .int _ _) rfl rfl rfl (fun _ _ => ?_)
  rfl
 obtain ⟨b, hbe⟩ : ∃ b, bunAt bs x.tick = some b := Option.ne_none_iff_exists'.1 hr
 have hBD : bunD bs x.tick = b := by unfold bunD; rw [hbe]; rfl
 rw [hBD, hbe] at hBu
 by_cases hrr : x.ply < b.fr ∨ x.ply ≥ b.upto ∨ x.op < 0 ∨ x.op ≥ (l.length : Int)
 ·have hE : trE l.length bs (paidL l ws tk xs) x = 3 := by
   unfold trE
   rw [hbe]
   dsimp only
   rw [if_pos hrr]
  obtain ⟨hW, _⟩ := trE_bad (n := l.length) (bs := bs) (ps := paidL l ws tk xs) (r := x) (by rw [hE]; decide)
  rw [hE, hW]
  refine ok_enter Tryz.func40 rfl Tryz.ntmps40 rfl ?_
  (refine gV ?_; refine gw_boxd (v := .agg _) rfl rfl (fun _ => ?_); refine gw_boxd (v := .agg _) rfl rfl (fun _ => ?_); (iterate 2 refine gM ?_); refine gN ?_; refine gM ?_; refine gF ?_; refine gW .here ?_; apply gw_d; exact w_call rfl rfl (hBu _) rfl; refine gM ?_; apply gw_d; exact det_extract rfl rfl rfl (by conv => (lhs; whnf)); apply gw_d; exact det_extract rfl rfl rfl (by conv => (lhs; whnf)); refine w_alloc rfl (fun _ => ?_); refine w_store_all rfl rfl rfl rfl rfl .here rfl ?_; refine gM ?_; refine gO ?_; refine gQ ?_; refine gV ?_; refine gM ?_; apply gw_d; exact det_not_ rfl rfl rfl; refine gO ?_)
  refine gc_if_false rfl ?_
  focus (refine gK ?_; refine gX ?_; refine gQ ?_; refine gV ?_; refine gF ?_; refine gW (.there .here) ?_; refine gF ?_; refine gW .here ?_; refine gC ?_; refine gM ?_; refine gD (fun _ => ?_) (fun _ => ?_); (iterate 5 refine gU ?_); refine gPp ?_; refine gM ?_; (iterate 3 refine gU ?_); refine gPp ?_; refine gM ?_; (iterate 6 refine gU ?_); refine gPp ?_; refine gO ?_; refine gc_if_true rfl ?_; refine gV ?_; (iterate 2 refine gM ?_); refine gO ?_; refine gR ?_; refine gT ?_; rotate_left; refine gF ?_; refine gW (.there .here) ?_; refine gF ?_; refine gW .here ?_; refine gC ?_; refine gPq ?_; refine gM ?_; refine gD (fun _ => ?_) (fun _ => ?_); (iterate 3 refine gU ?_); refine gPp ?_; refine gM ?_; (iterate 6 refine gU ?_); refine gPp ?_; refine gO ?_; refine gc_if_true rfl ?_; refine gV ?_; (iterate 2 refine gM ?_); refine gO ?_; refine gR ?_; refine gT ?_; rotate_left; refine gF ?_; refine gW (.there .here) ?_; refine gC ?_; refine gPq ?_; refine gM ?_; refine gD (fun _ => ?_) (fun _ => ?_); (iterate 6 refine gU ?_); refine gPp ?_; refine gO ?_; refine gc_if_true rfl ?_; refine gV ?_; (iterate 2 refine gM ?_); refine gO ?_; refine gR ?_; refine gT ?_; rotate_left; refine gF ?_; refine gW (.there .here) ?_; refine gF ?_; refine gW (.there (.there .here)) ?_; refine gL ?_; refine gC ?_; refine gPq ?_; refine gO ?_; refine gc_if_dec rfl (fun _ => ?_) (fun _ => ?_); refine gV ?_; (iterate 2 refine gM ?_); refine gO ?_; refine gR ?_; refine gT ?_; rotate_left; refine gK ?_; refine gX ?_; refine gQ ?_; refine gV ?_; refine gM ?_; refine gO ?_; refine gB ?_; rotate_left)
  all_goals first | (exfalso; omega) | skip
  all_goals (refine gx_ret2 (u := .int _ _) (v := .int _ _) rfl rfl rfl (fun _ _ => ?_))
  all_goals rfl
 have hnE : trE l.length bs (paidL l ws tk xs) x = (match whoAt (paidL l ws tk xs) x.tick x.op with | none => (6 : Int) | some _ => 0) := by
  unfold trE
  rw [hbe]
  dsimp only
  rw [if_neg hrr]
  try rfl
 refine ok_enter Tryz.func40 rfl Tryz.ntmps40 rfl ?_
 (refine gV ?_; refine gw_boxd (v := .agg _) rfl rfl (fun _ => ?_); refine gw_boxd (v := .agg _) rfl rfl (fun _ => ?_); (iterate 2 refine gM ?_); refine gN ?_; refine gM ?_; refine gF ?_; refine gW .here ?_; apply gw_d; exact w_call rfl rfl (hBu _) rfl; refine gM ?_; apply gw_d; exact det_extract rfl rfl rfl (by conv => (lhs; whnf)); apply gw_d; exact det_extract rfl rfl rfl (by conv => (lhs; whnf)); refine w_alloc rfl (fun _ => ?_); refine w_store_all rfl rfl rfl rfl rfl .here rfl ?_; refine gM ?_; refine gO ?_; refine gQ ?_; refine gV ?_; refine gM ?_; apply gw_d; exact det_not_ rfl rfl rfl; refine gO ?_)
 refine gc_if_false rfl ?_
 focus (refine gK ?_; refine gX ?_; refine gQ ?_; refine gV ?_; refine gF ?_; refine gW (.there .here) ?_; refine gF ?_; refine gW .here ?_; refine gC ?_; refine gM ?_; refine gD (fun _ => ?_) (fun _ => ?_); (iterate 5 refine gU ?_); refine gPp ?_; refine gM ?_; (iterate 3 refine gU ?_); refine gPp ?_; refine gM ?_; (iterate 6 refine gU ?_); refine gPp ?_; refine gO ?_; refine gc_if_true rfl ?_; refine gV ?_; (iterate 2 refine gM ?_); refine gO ?_; refine gR ?_; refine gT ?_; rotate_left; refine gF ?_; refine gW (.there .here) ?_; refine gF ?_; refine gW .here ?_; refine gC ?_; refine gPq ?_; refine gM ?_; refine gD (fun _ => ?_) (fun _ => ?_); (iterate 3 refine gU ?_); refine gPp ?_; refine gM ?_; (iterate 6 refine gU ?_); refine gPp ?_; refine gO ?_; refine gc_if_true rfl ?_; refine gV ?_; (iterate 2 refine gM ?_); refine gO ?_; refine gR ?_; refine gT ?_; rotate_left; refine gF ?_; refine gW (.there .here) ?_; refine gC ?_; refine gPq ?_; refine gM ?_; refine gD (fun _ => ?_) (fun _ => ?_); (iterate 6 refine gU ?_); refine gPp ?_; refine gO ?_; refine gc_if_true rfl ?_; refine gV ?_; (iterate 2 refine gM ?_); refine gO ?_; refine gR ?_; refine gT ?_; rotate_left; refine gF ?_; refine gW (.there .here) ?_; refine gF ?_; refine gW (.there (.there .here)) ?_; refine gL ?_; refine gC ?_; refine gPq ?_; refine gO ?_; refine gc_if_dec rfl (fun _ => ?_) (fun _ => ?_); refine gV ?_; (iterate 2 refine gM ?_); refine gO ?_; refine gR ?_; refine gT ?_; rotate_left; refine gK ?_; refine gX ?_; refine gQ ?_; refine gV ?_; refine gM ?_; refine gO ?_; refine gB ?_; rotate_left)
 all_goals first | (exfalso; omega) | skip
 refine gc_loopK (σ := Nat) [49, 50, 51, 52, 55, 56, 57, 58, 59, 60, 61, 62, 63, 64, 65, 66, 67, 68, 69, 70, 71, 72, 73, 74, 75, 76, 77, 78, 79, 80, 81, 82, 83, 84, 10, 11, 53, 54, 14] (fun j => [(14, .int .i64 j)]) (fun j => j ≤ xs.length ∧ whoAt (paidL l ws tk (xs.take j)) x.tick x.op = none) (fun j => xs.length - j) 0 ⟨Nat.zero_le _, rfl⟩ ⟨rfl, trivial⟩ ?_
 rintro j base2 ⟨hj, hJ⟩
 (refine gQ ?_; refine gV ?_; (iterate 2 refine gM ?_); refine gL ?_; refine gC ?_; refine gO ?_)
 refine gc_if_dec rfl (fun h3 => ?_) (fun h3 => ?_)
 ·have hjl : j < xs.length := by omega
  obtain ⟨ad2, rfl, hpk, hcp, _⟩ := hxcell j hjl
  have hcp0 := hcp 0 _ rfl
  have hcp1 := hcp 1 _ rfl
  have hcp2 := hcp 2 _ rfl
  obtain ⟨ad3, rfl, hok, hco, _⟩ := hocell j (by omega)
  have hgd : os[j] = os.getD j 0 := by rw [List.getD_eq_getElem?_getD, List.getElem?_eq_getElem (by omega)]; rfl
  have hoo := hoat j hjl
  rw [← hgd] at hoo
  by_cases hm : os[j] = 1 ∧ xs[j].tick = x.tick ∧ xs[j].op = x.op
  ·have hwho := who_hit hjl hJ (by rw [← hoo]; exact hm.1) hm.2.1 hm.2.2
   have hE : trE l.length bs (paidL l ws tk xs) x = 0 := by rw [hnE, hwho]
   have hW : trW l.length bs (paidL l ws tk xs) x = xs[j].who := by unfold trW; rw [if_pos hE, hwho]; rfl
   rw [hE, hW]
   obtain ⟨hm1, hm2, hm3⟩ := hm
   (refine gK ?_; refine gX ?_; refine gQ ?_; refine gB ?_; refine gQ ?_)
   refine gc_draw 25 (by kernel_rfl) (by kernel_rfl) ?_
   focus ((iterate 2 refine dM ?_); apply gd_d; exact w_index rfl rfl rfl rfl (by with_reducible exact rfl) (by omega); apply gd_d; exact w_load_at rfl rfl rfl (by assumption) (by assumption); apply gd_d; exact det_cmp rfl rfl rfl rfl rfl; refine dM ?_; refine gd_guard_dec rfl rfl (fun _ => ?_) (fun _ => ?_); (iterate 2 refine dM ?_); apply gd_d; exact w_index rfl rfl rfl rfl (by with_reducible exact rfl) (by omega); apply gd_d; exact w_field rfl rfl rfl; apply gd_d; exact w_load_fld rfl rfl rfl (by assumption) (by assumption); apply gd_d; exact w_field rfl rfl rfl; apply gd_d; exact w_load_box rfl rfl rfl (.there .here) rfl; apply gd_d; exact det_cmp rfl rfl rfl rfl rfl; apply gd_d; exact det_pick_t (v := .bool _) rfl rfl rfl rfl; refine dM ?_; refine gd_guard_dec rfl rfl (fun _ => ?_) (fun _ => ?_); (iterate 2 refine dM ?_); apply gd_d; exact w_index rfl rfl rfl rfl (by with_reducible exact rfl) (by omega); apply gd_d; exact w_field rfl rfl rfl; apply gd_d; exact w_load_fld rfl rfl rfl (by assumption) (by assumption); apply gd_d; exact w_field rfl rfl rfl; apply gd_d; exact w_load_box rfl rfl rfl (.there .here) rfl; apply gd_d; exact det_cmp rfl rfl rfl rfl rfl; apply gd_d; exact det_pick_t (v := .bool _) rfl rfl rfl rfl; refine gd_nil ?_; refine gO ?_; refine gc_if_dec rfl (fun _ => ?_) (fun _ => ?_); refine gV ?_; (iterate 2 refine gM ?_); apply gw_d; exact w_index rfl rfl rfl rfl (by with_reducible exact rfl) (by omega); refine gF ?_; apply gw_d; exact w_load_fld rfl rfl rfl (by assumption) (by assumption); (iterate 2 refine gM ?_); refine gO ?_; refine gR ?_; refine gY ?_; (iterate 2 refine gT ?_); refine gY ?_; refine gT ?_; rotate_left; refine gK ?_; refine gH ?_; refine gX ?_; refine gG ?_; refine gM ?_; refine gA ?_; refine gM ?_; refine gw_nil ?_; rotate_left; (iterate 8 refine dU ?_); apply gd_d; exact det_pick_f (v := .bool _) rfl rfl rfl rfl; refine gd_nil ?_; refine gO ?_; refine gc_if_false rfl ?_; refine gK ?_; refine gH ?_; refine gX ?_; refine gG ?_; refine gM ?_; refine gA ?_; refine gM ?_; refine gw_nil ?_; rotate_left; (iterate 8 refine dU ?_); apply gd_d; exact det_pick_f (v := .bool _) rfl rfl rfl rfl; refine dM ?_; (iterate 8 refine dU ?_); apply gd_d; exact det_pick_f (v := .bool _) rfl rfl rfl rfl; refine gd_nil ?_; refine gO ?_; refine gc_if_false rfl ?_; refine gK ?_; refine gH ?_; refine gX ?_; refine gG ?_; refine gM ?_; refine gA ?_; refine gM ?_; refine gw_nil ?_; rotate_left)
   all_goals first | (exfalso; omega) | skip
   refine gx_ret2 (u := .int _ _) (v := .int _ _) rfl rfl rfl (fun _ _ => ?_)
   rfl
  ·have hJ' := who_miss hjl hJ (by rw [← hoo]; exact hm)
   (refine gK ?_; refine gX ?_; refine gQ ?_; refine gB ?_; refine gQ ?_)
   refine gc_draw 25 (by kernel_rfl) (by kernel_rfl) ?_
   focus ((iterate 2 refine dM ?_); apply gd_d; exact w_index rfl rfl rfl rfl (by with_reducible exact rfl) (by omega); apply gd_d; exact w_load_at rfl rfl rfl (by assumption) (by assumption); apply gd_d; exact det_cmp rfl rfl rfl rfl rfl; refine dM ?_; refine gd_guard_dec rfl rfl (fun _ => ?_) (fun _ => ?_); (iterate 2 refine dM ?_); apply gd_d; exact w_index rfl rfl rfl rfl (by with_reducible exact rfl) (by omega); apply gd_d; exact w_field rfl rfl rfl; apply gd_d; exact w_load_fld rfl rfl rfl (by assumption) (by assumption); apply gd_d; exact w_field rfl rfl rfl; apply gd_d; exact w_load_box rfl rfl rfl (.there .here) rfl; apply gd_d; exact det_cmp rfl rfl rfl rfl rfl; apply gd_d; exact det_pick_t (v := .bool _) rfl rfl rfl rfl; refine dM ?_; refine gd_guard_dec rfl rfl (fun _ => ?_) (fun _ => ?_); (iterate 2 refine dM ?_); apply gd_d; exact w_index rfl rfl rfl rfl (by with_reducible exact rfl) (by omega); apply gd_d; exact w_field rfl rfl rfl; apply gd_d; exact w_load_fld rfl rfl rfl (by assumption) (by assumption); apply gd_d; exact w_field rfl rfl rfl; apply gd_d; exact w_load_box rfl rfl rfl (.there .here) rfl; apply gd_d; exact det_cmp rfl rfl rfl rfl rfl; apply gd_d; exact det_pick_t (v := .bool _) rfl rfl rfl rfl; refine gd_nil ?_; refine gO ?_; refine gc_if_dec rfl (fun _ => ?_) (fun _ => ?_); refine gV ?_; (iterate 2 refine gM ?_); apply gw_d; exact w_index rfl rfl rfl rfl (by with_reducible exact rfl) (by omega); refine gF ?_; apply gw_d; exact w_load_fld rfl rfl rfl (by assumption) (by assumption); (iterate 2 refine gM ?_); refine gO ?_; refine gR ?_; refine gY ?_; (iterate 2 refine gT ?_); refine gY ?_; refine gT ?_; rotate_left; refine gK ?_; refine gH ?_; refine gX ?_; refine gG ?_; refine gM ?_; refine gA ?_; refine gM ?_; refine gw_nil ?_; rotate_left; (iterate 8 refine dU ?_); apply gd_d; exact det_pick_f (v := .bool _) rfl rfl rfl rfl; refine gd_nil ?_; refine gO ?_; refine gc_if_false rfl ?_; refine gK ?_; refine gH ?_; refine gX ?_; refine gG ?_; refine gM ?_; refine gA ?_; refine gM ?_; refine gw_nil ?_; rotate_left; (iterate 8 refine dU ?_); apply gd_d; exact det_pick_f (v := .bool _) rfl rfl rfl rfl; refine dM ?_; (iterate 8 refine dU ?_); apply gd_d; exact det_pick_f (v := .bool _) rfl rfl rfl rfl; refine gd_nil ?_; refine gO ?_; refine gc_if_false rfl ?_; refine gK ?_; refine gH ?_; refine gX ?_; refine gG ?_; refine gM ?_; refine gA ?_; refine gM ?_; refine gw_nil ?_; rotate_left)
   all_goals first | (exfalso; exact hm ⟨by assumption, by assumption, by assumption⟩) | skip
   all_goals exact gx_round (j + 1) ⟨by omega, hJ'⟩ (by omega) (by repeat (first | exact Keeps.refl | refine Keeps.upd rfl ?_ | refine Keeps.sets rfl ?_ | refine Keeps.havoc rfl ?_)) ⟨rfl, trivial⟩ (Sub.all _)
 ·obtain rfl : j = xs.length := by omega
  rw [List.take_length] at hJ
  have hE : trE l.length bs (paidL l ws tk xs) x = 6 := by rw [hnE, hJ]
  obtain ⟨hW, _⟩ := trE_bad (n := l.length) (bs := bs) (ps := paidL l ws tk xs) (r := x) (by rw [hE]; decide)
  rw [hE, hW]
  (refine gI ?_; (iterate 2 refine gZ ?_); refine gJ ?_; refine gX ?_; refine gV ?_; (iterate 2 refine gM ?_); refine gO ?_; refine gR ?_)
  refine gx_ret2 (u := .int _ _) (v := .int _ _) rfl rfl rfl (fun _ _ => ?_)
  rfl
theorem rTrace58_bad (x : Ret) (hs : StyV w w.heap.size (.agg #[v0, v1, v2, v3, v4, v5, v6]) s) (hb : Sl rBun w w.heap.size vb bs) (hw : Sl rWrk w w.heap.size vw ws) (hx : Sl rScn w w.heap.size vx xs) (he : ¬ judgeAllE (opCheckE s plE) bs ws xs.length = 0) :
  Ok Tryz.prog 20 [.agg #[v0, v1, v2, v3, v4, v5, v6], vb, vw, vx, .agg #[.int .i64 x.tick, .int .i64 x.ply, .int .i64 x.op]].toArray w fun x _ => x = .tuple #[.int .i64 0, .int .i64 (judgeAllE (opCheckE s plE) bs ws xs.length)] := by
 have hJ := fun (L : List Res) (w' : World) (s' : St w L w') => rJudge_bad (StyV.later s' hs) (hb.later s') (hw.later s') (hx.later s') he
 generalize judgeAllE (opCheckE s plE) bs ws xs.length = e at he hJ
 refine ok_enter Tryz.func20 rfl Tryz.ntmps20 rfl ?_
 (refine gV ?_; refine gw_boxd (v := .agg _) rfl rfl (fun _ => ?_); refine gw_boxd (v := .agg _) rfl rfl (fun _ => ?_); (iterate 2 refine gM ?_); refine gN ?_; apply gw_d; exact w_load_boxN rfl rfl rfl (.there .here) rfl; (iterate 3 refine gM ?_); apply gw_d; exact w_call rfl rfl (hJ _) rfl; refine gM ?_; apply gw_d; exact det_extract rfl rfl rfl (by conv => (lhs; whnf)); apply gw_d; exact det_extract rfl rfl rfl (by conv => (lhs; whnf)); (iterate 2 refine gM ?_); refine gO ?_; refine gQ ?_; refine gV ?_; refine gM ?_; refine gC ?_; refine gO ?_)
 refine gc_if_dec rfl (fun _ => ?_) (fun h => absurd he h)
 (refine gV ?_; (iterate 3 refine gM ?_); refine gO ?_; refine gR ?_; refine gT ?_)
 refine gx_ret2 (u := .int _ _) (v := .int _ _) rfl rfl rfl (fun _ _ => ?_)
 rfl
theorem out_range (l : List Opn) (ws : List Wrk) (tk : List Int) (ps : List Scn) (x : Scn) : 1 ≤ outE l ws tk ps x ∧ outE l ws tk ps x ≤ 6 := by
 unfold outE judgeE
 repeat' split
 all_goals exact ⟨by decide, by decide⟩
theorem outs_in (l : List Opn) (ws : List Wrk) (tk : List Int) : ∀ (xs ps : List Scn), ∀ y ∈ outs l ws tk ps xs, inI64 y
 | [], _, y, h => by cases h
 | x :: xs, ps, y, h => by
  rcases List.mem_cons.1 h with rfl | h
  ·have := out_range l ws tk ps x
   unfold inI64
   omega
  ·exact outs_in l ws tk xs _ y h
theorem rTrace58_ok (x : Ret) (hs : StyV w w.heap.size (.agg #[v0, v1, v2, v3, v4, v5, v6]) s) (hb : Sl rBun w w.heap.size vb bs) (hw : Sl rWrk w w.heap.size vw ws) (hx : Sl rScn w w.heap.size vx xs) (he : judgeAllE (opCheckE s plE) bs ws xs.length = 0) :
  Ok Tryz.prog 20 [.agg #[v0, v1, v2, v3, v4, v5, v6], vb, vw, vx, .agg #[.int .i64 x.tick, .int .i64 x.ply, .int .i64 x.op]].toArray w fun y _ => y = .tuple #[.int .i64 (trW s.ops.length bs (paidL s.ops ws (ticks bs) xs) x), .int .i64 (trE s.ops.length bs (paidL s.ops ws (ticks bs) xs) x)] := by
 have hJ := fun (L : List Res) (w' : World) (s' : St w L w') => rJudge_ok (StyV.later s' hs) (hb.later s') (hw.later s') (hx.later s') he
 have h6 := sty_ops hs
 have hol := outs_len s.ops ws (ticks bs) xs []
 have hoat := fun i (hi : i < xs.length) => outs_at (l := s.ops) (ws := ws) (tk := ticks bs) hi
 have hin := outs_in s.ops ws (ticks bs) xs []
 generalize outs s.ops ws (ticks bs) [] xs = os at hJ hol hoat hin
 have hT := fun (L L' : List Res) (w' : World) (A : Option Addr) (c : Nat) (hp : Pick L (Own A xs.length c 3 1 (os.map (Value.int .i64))) L') (s' : St w L w') => rtrace58_ok (v0 := v0) (v1 := v1) (v2 := v2) (v3 := v3) (v4 := v4) (v5 := v5) x (h6.later s') (hb.later s') (hx.later s') (Sl.ownI s' hp hol.symm hin) hol hoat
 refine ok_enter Tryz.func20 rfl Tryz.ntmps20 rfl ?_
 (refine gV ?_; refine gw_boxd (v := .agg _) rfl rfl (fun _ => ?_); refine gw_boxd (v := .agg _) rfl rfl (fun _ => ?_); (iterate 2 refine gM ?_); refine gN ?_; apply gw_d; exact w_load_boxN rfl rfl rfl (.there .here) rfl; (iterate 3 refine gM ?_))
 refine gw_callm rfl (hJ _) rfl (fun y => ?_)
 obtain ⟨O, cO⟩ := y
 (refine gM ?_; apply gw_d; exact det_extract rfl rfl rfl (by conv => (lhs; whnf)); apply gw_d; exact det_extract rfl rfl rfl (by conv => (lhs; whnf)); (iterate 2 refine gM ?_); refine gO ?_; refine gQ ?_; refine gV ?_; refine gM ?_; refine gC ?_; refine gO ?_)
 refine gc_if_dec rfl (fun h => absurd rfl h) (fun _ => ?_)
 (refine gK ?_; refine gX ?_; refine gV ?_; apply gw_d; exact w_load_boxN rfl rfl rfl (.there (.there .here)) rfl; (iterate 3 refine gM ?_); apply gw_d; exact w_load_boxN rfl rfl rfl (.there .here) rfl; apply gw_d; exact w_call rfl rfl (fun w' s' => hT _ _ w' O cO .here s') rfl; apply gw_d; exact det_extract rfl rfl rfl (by conv => (lhs; whnf)); apply gw_d; exact det_extract rfl rfl rfl (by conv => (lhs; whnf)); (iterate 2 refine gM ?_); refine gO ?_; refine gR ?_)
 refine gx_ret2 (u := .int _ _) (v := .int _ _) rfl rfl rfl (fun _ _ => ?_)
 rfl
end
theorem lawReturnsTraces_ok (w : World) (hL : Lay w) (v : Value) (c : Shp) (x : Ret) (hc : ShopV w v c) : Ok Tryz.prog 5 [v, .agg #[.int .i64 x.tick, .int .i64 x.ply, .int .i64 x.op]].toArray w fun r _ => r = .bool true := by
 have hc' := hc
 obtain ⟨v0, v1, v2, v3, v4, v5, v6, vb, vw, vx, rfl, hs, hb, hw, hx⟩ := hc
 have hA : ∀ (L : List Res) (w' : World), St w L w' → Ok Tryz.prog 18 [].toArray w' fun r _ => r = .bool true := fun L w' s => alive_ok w' (hL.later s)
 have hF : ∀ (L : List Res) (w' : World), St w L w' → OkM Tryz.prog 17 [.agg #[v0, v1, v2, v3, v4, v5, v6, vb, vw, vx, .int .i64 c.r, .int .i64 c.le]].toArray w' (fun b : Bool => .bool b) (fun _ => []) := fun L w' s' => light58_ok w' _ c (hc'.later s')
 have hT : ∃ (a e : Int), (∀ (L : List Res) (w' : World), St w L w' → Ok Tryz.prog 19 [.agg #[v0, v1, v2, v3, v4, v5, v6], vb, vw, vx, .agg #[.int .i64 x.tick, .int .i64 x.ply, .int .i64 x.op]].toArray w' fun y _ => y = .tuple #[.int .i64 a, .int .i64 e]) ∧
   (∀ (L : List Res) (w' : World), St w L w' → Ok Tryz.prog 20 [.agg #[v0, v1, v2, v3, v4, v5, v6], vb, vw, vx, .agg #[.int .i64 x.tick, .int .i64 x.ply, .int .i64 x.op]].toArray w' fun y _ => y = .tuple #[.int .i64 a, .int .i64 e]) := by
  by_cases he : judgeAllE (opCheckE c.sty plE) c.bs c.ws c.xs.length = 0
  ·exact ⟨_, _, fun L w' s' => Trace_ok x (StyV.later s' hs) (hb.later s') (hw.later s') (hx.later s') he, fun L w' s' => rTrace58_ok x (StyV.later s' hs) (hb.later s') (hw.later s') (hx.later s') he⟩
  ·exact ⟨_, _, fun L w' s' => Trace_bad x (StyV.later s' hs) (hb.later s') (hw.later s') (hx.later s') he, fun L w' s' => rTrace58_bad x (StyV.later s' hs) (hb.later s') (hw.later s') (hx.later s') he⟩
 obtain ⟨a, e, hT1, hT2⟩ := hT
 refine ok_enter Tryz.func5 rfl Tryz.ntmps5 rfl ?_
 (refine gV ?_; refine gw_boxd (v := .agg _) rfl rfl (fun _ => ?_); refine gw_boxd (v := .agg _) rfl rfl (fun _ => ?_); refine gM ?_; refine gO ?_; refine gQ ?_; refine gV ?_; apply gw_d; exact w_load_boxN rfl rfl rfl (.there .here) rfl)
 refine gw_callm rfl (hF _) rfl (fun b => ?_)
 focus (apply gw_d; exact det_not_ rfl rfl rfl; refine gO ?_; refine gc_if rfl (fun _ => ?_) (fun _ => ?_); refine gV ?_; apply gw_d; exact w_call rfl rfl (hA _) rfl; refine gM ?_; refine gO ?_; refine gR ?_; refine gT ?_; rotate_left; refine gK ?_; refine gX ?_; refine gV ?_; refine gF ?_; apply gw_d; exact w_load_part rfl rfl rfl (.there .here) rfl rfl; refine gF ?_; refine gW (.there .here) ?_; refine gF ?_; refine gW (.there .here) ?_; refine gF ?_; refine gW (.there .here) ?_; apply gw_d; exact w_load_boxN rfl rfl rfl .here rfl; rotate_left)
 all_goals first | (refine gx_ret1 (v := .bool _) rfl rfl (fun _ _ => ?_); rfl) | skip
 (apply gw_d; exact w_call rfl rfl (hT1 _) rfl; refine gM ?_; apply gw_d; exact det_extract rfl rfl rfl (by conv => (lhs; whnf)); apply gw_d; exact det_extract rfl rfl rfl (by conv => (lhs; whnf)); (iterate 2 refine gM ?_); refine gN ?_; refine gF ?_; apply gw_d; exact w_load_part rfl rfl rfl (.there .here) rfl rfl; refine gF ?_; refine gW (.there .here) ?_; refine gF ?_; refine gW (.there .here) ?_; refine gF ?_; refine gW (.there .here) ?_; apply gw_d; exact w_load_boxN rfl rfl rfl .here rfl; apply gw_d; exact w_call rfl rfl (hT2 _) rfl; refine gM ?_; apply gw_d; exact det_extract rfl rfl rfl (by conv => (lhs; whnf)); apply gw_d; exact det_extract rfl rfl rfl (by conv => (lhs; whnf)); (iterate 2 refine gM ?_); refine gN ?_; (iterate 2 refine gM ?_); refine gC ?_; refine gM ?_)
 focus (refine gD (fun _ => ?_) (fun _ => ?_); (iterate 2 refine gM ?_); refine gC ?_; refine gPp ?_; refine gM ?_; refine gD (fun _ => ?_) (fun _ => ?_); apply gw_d; exact w_call rfl rfl (hA _) rfl; refine gPp ?_; refine gM ?_; refine gO ?_; refine gR ?_; rotate_left; refine gU ?_; refine gPq ?_; refine gM ?_; refine gO ?_; refine gR ?_; rotate_left; (iterate 3 refine gU ?_); refine gPq ?_; refine gM ?_; refine gU ?_; refine gPq ?_; refine gM ?_; refine gO ?_; refine gR ?_; rotate_left)
 all_goals first | (exfalso; rename_i hne; exact hne rfl) | skip
 all_goals (refine gx_ret1 (v := .bool _) rfl rfl (fun _ _ => ?_); rfl)
open Go.ChangeShapes Go.WideShapes Go.ChangeAt Go.RowKit
section
variable {H : Type} {enc : TypeId × Value → H} {w : World} {base : Nat} {spare : Nat → Bool} {held : Bool}
theorem tariff_trod {n : Nat} {cs : List Value} {x : DataW H × List MemPlace} (hl : cs.length = 2) (h : DataW.trod enc Tryz.prog w base spare held n 36 cs = some x) : ∃ r l, cs = [.int .i64 r, .int .i64 l] ∧ inI64 r ∧ inI64 l := by
 match cs, hl with
 | [c0, c1], _ =>
  obtain ⟨_, _, h0⟩ := field_trod (i := 0) (ft := 3) h (by kernel_rfl) rfl
  obtain ⟨_, _, h1⟩ := field_trod (i := 1) (ft := 3) h (by kernel_rfl) rfl
  obtain ⟨i0, rfl, hi0⟩ := int_trod (by kernel_rfl) h0
  obtain ⟨i1, rfl, hi1⟩ := int_trod (by kernel_rfl) h1
  exact ⟨i0, i1, rfl, hi0, hi1⟩
end
theorem gTab : Tryz.prog.globalNamed "garment/wage.bounds" = some 0 := by kernel_rfl
theorem gTabType : (Tryz.prog.globals[0]?).map (·.type) = some 76 := by kernel_rfl
theorem cellsTab : Tryz.prog.cellsOf 76 = 2 := by kernel_rfl
theorem cellsInt : Tryz.prog.cellsOf 3 = 1 := by kernel_rfl
/-- What the row's list gives. -/
theorem lay_of {W : World} (h : laidMetH Tryz.prog [("garment/wage.bounds", .agg [.lit (.int .i64 100000), .lit (.int .i64 1073741824)])] W) : Lay W := by
 have ht : Lib.TabIs Tryz.prog W "garment/wage.bounds" .i64 [100000, 1073741824] := Lib.tabIs_of_head (rest := []) gTab gTabType (by kernel_rfl) (by kernel_rfl) cellsInt cellsTab h
 have c0 : W.cell? ⟨0, 0, none⟩ = some (.int .i64 100000) := ht.cell gTab 0 (by decide)
 have c1 : W.cell? ⟨0, 1, none⟩ = some (.int .i64 1073741824) := ht.cell gTab 1 (by decide)
 exact ⟨cell_lt c0, c0, c1⟩
open Go.ChangeShapes Go.WideShapes Go.ChangeAt Go.RowKit
section
variable {H : Type} {enc : TypeId × Value → H} {w : World} {base : Nat} {spare : Nat → Bool} {held : Bool}
theorem ints23 {n : Nat} {c : Value} {x : DataW H × List MemPlace} (h : DataW.trod enc Tryz.prog w base spare held n 23 [c] = some x) : ∃ l, Sl rInt w w.heap.size c l :=
 ints_trod (e := 3) (by kernel_rfl) (by kernel_rfl) (by kernel_rfl) h
theorem op_trod {n : Nat} {cs : List Value} {x : DataW H × List MemPlace} (hl : cs.length = 5) (h : DataW.trod enc Tryz.prog w base spare held n 55 cs = some x) : ∃ o, rOp.rep w (fun b => b < w.heap.size) o cs := by
 match cs, hl with
 | [c0, c1, c2, c3, c4], _ =>
  obtain ⟨_, _, h0⟩ := field_trod (i := 0) (ft := 9) h (by kernel_rfl) rfl
  obtain ⟨_, _, h1⟩ := field_trod (i := 1) (ft := 3) h (by kernel_rfl) rfl
  obtain ⟨_, _, h2⟩ := field_trod (i := 2) (ft := 3) h (by kernel_rfl) rfl
  obtain ⟨_, _, h3⟩ := field_trod (i := 3) (ft := 23) h (by kernel_rfl) rfl
  obtain ⟨_, _, h4⟩ := field_trod (i := 4) (ft := 23) h (by kernel_rfl) rfl
  obtain ⟨s, rfl, hs⟩ := str_trod (by kernel_rfl) h0
  obtain ⟨i1, rfl, hi1⟩ := int_trod (by kernel_rfl) h1
  obtain ⟨i2, rfl, hi2⟩ := int_trod (by kernel_rfl) h2
  obtain ⟨la, ha⟩ := ints23 h3
  obtain ⟨lu, hu⟩ := ints23 h4
  obtain ⟨Aa, ca, rfl, _⟩ := len_small ha
  obtain ⟨Au, cu, rfl, _⟩ := len_small hu
  exact ⟨⟨s, i1, i2, la, lu⟩, Aa, ca, Au, cu, rfl, ⟨hs, hi1, hi2⟩, ha, hu⟩
theorem ops_trod {n : Nat} {c : Value} {x : DataW H × List MemPlace} (h : DataW.trod enc Tryz.prog w base spare held n 27 [c] = some x) : ∃ l, Sl rOp w w.heap.size c l :=
 sl_of_trod (R := rOp) (e := 55) (by kernel_rfl) (by kernel_rfl) (by decide) (fun _ _ _ hl hy => op_trod hl hy) h
end
open Go.ChangeShapes Go.WideShapes Go.ChangeAt Go.RowKit
section
variable {H : Type} {enc : TypeId × Value → H} {P : Program} {w : World} {base : Nat} {spare : Nat → Bool} {held : Bool}
/-- The type of a field of k cells, at its place. -/
def fieldK (P : Program) (e : TypeId) (i o k : Nat) : Option TypeId := match P.underlying e with
 | some (.struct fs) => match fs[i]? with
  | some f => bif Nat.beq f.offset o && Nat.beq (P.cellsOf f.type) k then some f.type else none
  | none => none
 | _ => none
theorem fieldK_trod {e ft : TypeId} {i o k n : Nat} {cs ds : List Value} {x : DataW H × List MemPlace} (h : DataW.trod enc P w base spare held n e cs = some x) (hf : fieldK P e i o k = some ft) (hc : (cs.drop o).take k = ds) :
  ∃ m y, DataW.trod enc P w base spare held m ft ds = some y := by
 unfold fieldK at hf
 split at hf
 ·rename_i fs hu
  split at hf
  ·rename_i f hfi
   cases hb : (Nat.beq f.offset o && Nat.beq (P.cellsOf f.type) k) with
   | false => rw [hb] at hf; cases hf
   | true =>
    rw [hb] at hf
    simp only [cond_true, Option.some.injEq] at hf
    subst hf
    rw [Bool.and_eq_true] at hb
    have h1 : f.offset = o := Nat.eq_of_beq_eq_true hb.1
    have h2 : P.cellsOf f.type = k := Nat.eq_of_beq_eq_true hb.2
    obtain ⟨xs, m, _, _, _, hlen, hg⟩ := DataW.trod_struct hu h
    have h3 := hg i f hfi
    have hi : i < fs.size := (Array.getElem?_eq_some_iff.1 hfi).1
    rw [h1, h2, List.getElem?_eq_getElem (by omega), hc] at h3
    exact ⟨m, _, h3⟩
  ·cases hf
 ·cases hf
end
section
variable {H : Type} {enc : TypeId × Value → H} {w : World} {base : Nat} {spare : Nat → Bool} {held : Bool}
theorem strs_trod {n : Nat} {c : Value} {x : DataW H × List MemPlace} (h : DataW.trod enc Tryz.prog w base spare held n 22 [c] = some x) : ∃ l, Sl rStr w w.heap.size c l :=
 sl_of_trod (R := rStr) (e := 9) (by kernel_rfl) (by kernel_rfl) (by decide) (fun _ cs _ hl hy => by
  match cs, hl with
  | [c0], _ =>
   obtain ⟨s, rfl, hs⟩ := str_trod (by kernel_rfl) hy
   exact ⟨s, rfl, hs⟩) h
theorem spots_trod {n : Nat} {c : Value} {x : DataW H × List MemPlace} (h : DataW.trod enc Tryz.prog w base spare held n 107 [c] = some x) : ∃ l, Sl rSpot w w.heap.size c l :=
 sl_of_trod (R := rSpot) (e := 106) (by kernel_rfl) (by kernel_rfl) (by decide) (fun _ cs _ hl hy => by
  match cs, hl with
  | [c0, c1], _ =>
   obtain ⟨_, _, h0⟩ := field_trod (i := 0) (ft := 3) hy (by kernel_rfl) rfl
   obtain ⟨_, _, h1⟩ := field_trod (i := 1) (ft := 3) hy (by kernel_rfl) rfl
   obtain ⟨i0, rfl, hi0⟩ := int_trod (by kernel_rfl) h0
   obtain ⟨i1, rfl, hi1⟩ := int_trod (by kernel_rfl) h1
   exact ⟨(i0, i1), rfl, hi0, hi1⟩) h
theorem notches_trod {n : Nat} {c : Value} {x : DataW H × List MemPlace} (h : DataW.trod enc Tryz.prog w base spare held n 111 [c] = some x) : ∃ l, Sl rSpot w w.heap.size c l :=
 sl_of_trod (R := rSpot) (e := 183) (by kernel_rfl) (by kernel_rfl) (by decide) (fun _ cs _ hl hy => by
  match cs, hl with
  | [c0, c1], _ =>
   obtain ⟨_, _, h0⟩ := field_trod (i := 0) (ft := 3) hy (by kernel_rfl) rfl
   obtain ⟨_, _, h1⟩ := field_trod (i := 1) (ft := 3) hy (by kernel_rfl) rfl
   obtain ⟨i0, rfl, hi0⟩ := int_trod (by kernel_rfl) h0
   obtain ⟨i1, rfl, hi1⟩ := int_trod (by kernel_rfl) h1
   exact ⟨(i0, i1), rfl, hi0, hi1⟩) h
theorem edges_trod {n : Nat} {c : Value} {x : DataW H × List MemPlace} (h : DataW.trod enc Tryz.prog w base spare held n 110 [c] = some x) : ∃ l, Sl rEdge w w.heap.size c l :=
 sl_of_trod (R := rEdge) (e := 109) (by kernel_rfl) (by kernel_rfl) (by decide) (fun _ cs _ hl hy => by
  match cs, hl with
  | [c0, c1], _ =>
   obtain ⟨_, _, h0⟩ := field_trod (i := 0) (ft := 9) hy (by kernel_rfl) rfl
   obtain ⟨_, _, h1⟩ := field_trod (i := 1) (ft := 107) hy (by kernel_rfl) rfl
   obtain ⟨s, rfl, hs⟩ := str_trod (by kernel_rfl) h0
   obtain ⟨l, hl⟩ := spots_trod h1
   exact ⟨(s, l), c1, rfl, hs, hl⟩) h
theorem piece_trod {n : Nat} {cs : List Value} {x : DataW H × List MemPlace} (hl : cs.length = 7) (h : DataW.trod enc Tryz.prog w base spare held n 113 cs = some x) : ∃ o, rPiece.rep w (fun b => b < w.heap.size) o cs := by
 match cs, hl with
 | [c0, c1, c2, c3, c4, c5, c6], _ =>
  obtain ⟨_, _, h0⟩ := field_trod (i := 0) (ft := 9) h (by kernel_rfl) rfl
  obtain ⟨_, _, h1⟩ := field_trod (i := 1) (ft := 110) h (by kernel_rfl) rfl
  obtain ⟨_, _, h2⟩ := field_trod (i := 2) (ft := 3) h (by kernel_rfl) rfl
  obtain ⟨_, _, h3⟩ := field_trod (i := 3) (ft := 111) h (by kernel_rfl) rfl
  obtain ⟨_, _, h4⟩ := field_trod (i := 4) (ft := 107) h (by kernel_rfl) rfl
  obtain ⟨_, _, h5⟩ := field_trod (i := 5) (ft := 23) h (by kernel_rfl) rfl
  obtain ⟨_, _, h6⟩ := field_trod (i := 6) (ft := 4) h (by kernel_rfl) rfl
  obtain ⟨s, rfl, hs⟩ := str_trod (by kernel_rfl) h0
  obtain ⟨le, he⟩ := edges_trod h1
  obtain ⟨i2, rfl, hi2⟩ := int_trod (by kernel_rfl) h2
  obtain ⟨ln, hn⟩ := notches_trod h3
  obtain ⟨lc, hc⟩ := spots_trod h4
  obtain ⟨lw, hw⟩ := ints23 h5
  obtain ⟨b6, rfl⟩ := bool_trod (by kernel_rfl) h6
  obtain ⟨Ae, ce, rfl, _⟩ := len_small he
  obtain ⟨An, cn, rfl, _⟩ := len_small hn
  obtain ⟨Ac, cc, rfl, _⟩ := len_small hc
  obtain ⟨Aw, cw, rfl, _⟩ := len_small hw
  exact ⟨⟨s, le, i2, ln, lc, lw, b6⟩, Ae, ce, An, cn, Ac, cc, Aw, cw, rfl, ⟨hs, hi2⟩, he, hn, hc, hw⟩
theorem use_trod {n : Nat} {cs : List Value} {x : DataW H × List MemPlace} (hl : cs.length = 3) (h : DataW.trod enc Tryz.prog w base spare held n 115 cs = some x) : ∃ o, rUse.rep w (fun b => b < w.heap.size) o cs := by
 match cs, hl with
 | [c0, c1, c2], _ =>
  obtain ⟨_, _, h0⟩ := field_trod (i := 0) (ft := 3) h (by kernel_rfl) rfl
  obtain ⟨_, _, h1⟩ := field_trod (i := 1) (ft := 3) h (by kernel_rfl) rfl
  obtain ⟨_, _, h2⟩ := field_trod (i := 2) (ft := 4) h (by kernel_rfl) rfl
  obtain ⟨i0, rfl, hi0⟩ := int_trod (by kernel_rfl) h0
  obtain ⟨i1, rfl, hi1⟩ := int_trod (by kernel_rfl) h1
  obtain ⟨b2, rfl⟩ := bool_trod (by kernel_rfl) h2
  exact ⟨(i0, i1, b2), rfl, hi0, hi1⟩
theorem seam_trod {n : Nat} {cs : List Value} {x : DataW H × List MemPlace} (hl : cs.length = 6) (h : DataW.trod enc Tryz.prog w base spare held n 163 cs = some x) : ∃ o, rSeam.rep w (fun b => b < w.heap.size) o cs := by
 match cs, hl with
 | [c0, c1, c2, c3, c4, c5], _ =>
  obtain ⟨_, _, h0⟩ := field_trod (i := 0) (ft := 3) h (by kernel_rfl) rfl
  obtain ⟨_, _, h1⟩ := field_trod (i := 1) (ft := 3) h (by kernel_rfl) rfl
  obtain ⟨_, _, h2⟩ := field_trod (i := 2) (ft := 3) h (by kernel_rfl) rfl
  obtain ⟨_, _, h3⟩ := field_trod (i := 3) (ft := 3) h (by kernel_rfl) rfl
  obtain ⟨_, _, h4⟩ := field_trod (i := 4) (ft := 4) h (by kernel_rfl) rfl
  obtain ⟨_, _, h5⟩ := field_trod (i := 5) (ft := 3) h (by kernel_rfl) rfl
  obtain ⟨i0, rfl, hi0⟩ := int_trod (by kernel_rfl) h0
  obtain ⟨i1, rfl, hi1⟩ := int_trod (by kernel_rfl) h1
  obtain ⟨i2, rfl, hi2⟩ := int_trod (by kernel_rfl) h2
  obtain ⟨i3, rfl, hi3⟩ := int_trod (by kernel_rfl) h3
  obtain ⟨b4, rfl⟩ := bool_trod (by kernel_rfl) h4
  obtain ⟨i5, rfl, hi5⟩ := int_trod (by kernel_rfl) h5
  exact ⟨(i0, i1, i2, i3, b4, i5), rfl⟩
theorem sty_trod {n : Nat} {cs : List Value} {x : DataW H × List MemPlace} (hl : cs.length = 7) (h : DataW.trod enc Tryz.prog w base spare held n 29 cs = some x) : ∃ s, StyV w w.heap.size (.agg cs.toArray) s := by
 match cs, hl with
 | [c0, c1, c2, c3, c4, c5, c6], _ =>
  obtain ⟨_, _, h0⟩ := field_trod (i := 0) (ft := 9) h (by kernel_rfl) rfl
  obtain ⟨_, _, h1⟩ := field_trod (i := 1) (ft := 22) h (by kernel_rfl) rfl
  obtain ⟨_, _, h2⟩ := field_trod (i := 2) (ft := 23) h (by kernel_rfl) rfl
  obtain ⟨_, _, h3⟩ := field_trod (i := 3) (ft := 24) h (by kernel_rfl) rfl
  obtain ⟨_, _, h4⟩ := field_trod (i := 4) (ft := 25) h (by kernel_rfl) rfl
  obtain ⟨_, _, h5⟩ := field_trod (i := 5) (ft := 26) h (by kernel_rfl) rfl
  obtain ⟨_, _, h6⟩ := field_trod (i := 6) (ft := 27) h (by kernel_rfl) rfl
  obtain ⟨s, rfl, hs⟩ := str_trod (by kernel_rfl) h0
  obtain ⟨l1, k1⟩ := strs_trod h1
  obtain ⟨l2, k2⟩ := ints23 h2
  obtain ⟨l3, k3⟩ := sl_of_trod (R := rPiece) (e := 113) (by kernel_rfl) (by kernel_rfl) (by decide) (fun _ _ _ hl hy => piece_trod hl hy) h3
  obtain ⟨l4, k4⟩ := sl_of_trod (R := rUse) (e := 115) (by kernel_rfl) (by kernel_rfl) (by decide) (fun _ _ _ hl hy => use_trod hl hy) h4
  obtain ⟨l5, k5⟩ := sl_of_trod (R := rSeam) (e := 163) (by kernel_rfl) (by kernel_rfl) (by decide) (fun _ _ _ hl hy => seam_trod hl hy) h5
  obtain ⟨l6, k6⟩ := ops_trod h6
  obtain ⟨A1, d1, rfl, _⟩ := len_small k1
  obtain ⟨A2, d2, rfl, _⟩ := len_small k2
  obtain ⟨A3, d3, rfl, _⟩ := len_small k3
  obtain ⟨A4, d4, rfl, _⟩ := len_small k4
  obtain ⟨A5, d5, rfl, _⟩ := len_small k5
  obtain ⟨A6, d6, rfl, _⟩ := len_small k6
  exact ⟨⟨s, l1, l2, l3, l4, l5, l6⟩, A1, d1, A2, d2, A3, d3, A4, d4, A5, d5, A6, d6, rfl, hs, k1, k2, k3, k4, k5, k6⟩
end
open Go.ChangeShapes Go.WideShapes Go.ChangeAt Go.RowKit
section
variable {H : Type} {enc : TypeId × Value → H} {w : World} {base : Nat} {spare : Nat → Bool} {held : Bool}
theorem bun_trod {n : Nat} {cs : List Value} {x : DataW H × List MemPlace} (hl : cs.length = 6) (h : DataW.trod enc Tryz.prog w base spare held n 44 cs = some x) : ∃ o, rBun.rep w (fun b => b < w.heap.size) o cs := by
 match cs, hl with
 | [c0, c1, c2, c3, c4, c5], _ =>
  obtain ⟨_, _, h0⟩ := field_trod (i := 0) (ft := 3) h (by kernel_rfl) rfl
  obtain ⟨_, _, h1⟩ := field_trod (i := 1) (ft := 3) h (by kernel_rfl) rfl
  obtain ⟨_, _, h2⟩ := field_trod (i := 2) (ft := 3) h (by kernel_rfl) rfl
  obtain ⟨_, _, h3⟩ := field_trod (i := 3) (ft := 3) h (by kernel_rfl) rfl
  obtain ⟨_, _, h4⟩ := field_trod (i := 4) (ft := 3) h (by kernel_rfl) rfl
  obtain ⟨_, _, h5⟩ := field_trod (i := 5) (ft := 3) h (by kernel_rfl) rfl
  obtain ⟨i0, rfl, hi0⟩ := int_trod (by kernel_rfl) h0
  obtain ⟨i1, rfl, hi1⟩ := int_trod (by kernel_rfl) h1
  obtain ⟨i2, rfl, hi2⟩ := int_trod (by kernel_rfl) h2
  obtain ⟨i3, rfl, hi3⟩ := int_trod (by kernel_rfl) h3
  obtain ⟨i4, rfl, hi4⟩ := int_trod (by kernel_rfl) h4
  obtain ⟨i5, rfl, hi5⟩ := int_trod (by kernel_rfl) h5
  exact ⟨⟨i0, i1, i2, i3, i4, i5⟩, rfl, hi0, hi4, hi5⟩
theorem wrk_trod {n : Nat} {cs : List Value} {x : DataW H × List MemPlace} (hl : cs.length = 2) (h : DataW.trod enc Tryz.prog w base spare held n 85 cs = some x) : ∃ o, rWrk.rep w (fun b => b < w.heap.size) o cs := by
 match cs, hl with
 | [c0, c1], _ =>
  obtain ⟨_, _, h0⟩ := field_trod (i := 0) (ft := 9) h (by kernel_rfl) rfl
  obtain ⟨_, _, h1⟩ := field_trod (i := 1) (ft := 23) h (by kernel_rfl) rfl
  obtain ⟨s, rfl, hs⟩ := str_trod (by kernel_rfl) h0
  obtain ⟨l1, k1⟩ := ints23 h1
  obtain ⟨A1, d1, rfl, _⟩ := len_small k1
  exact ⟨⟨s, l1⟩, A1, d1, rfl, hs, k1⟩
theorem scn_trod {n : Nat} {cs : List Value} {x : DataW H × List MemPlace} (hl : cs.length = 4) (h : DataW.trod enc Tryz.prog w base spare held n 51 cs = some x) : ∃ o, rScn.rep w (fun b => b < w.heap.size) o cs := by
 match cs, hl with
 | [c0, c1, c2, c3], _ =>
  obtain ⟨_, _, h0⟩ := field_trod (i := 0) (ft := 3) h (by kernel_rfl) rfl
  obtain ⟨_, _, h1⟩ := field_trod (i := 1) (ft := 3) h (by kernel_rfl) rfl
  obtain ⟨_, _, h2⟩ := field_trod (i := 2) (ft := 3) h (by kernel_rfl) rfl
  obtain ⟨_, _, h3⟩ := field_trod (i := 3) (ft := 3) h (by kernel_rfl) rfl
  obtain ⟨i0, rfl, hi0⟩ := int_trod (by kernel_rfl) h0
  obtain ⟨i1, rfl, hi1⟩ := int_trod (by kernel_rfl) h1
  obtain ⟨i2, rfl, hi2⟩ := int_trod (by kernel_rfl) h2
  obtain ⟨i3, rfl, hi3⟩ := int_trod (by kernel_rfl) h3
  exact ⟨⟨i0, i1, i2, i3⟩, rfl, hi0, hi1, hi2, hi3⟩
end
open Go.ChangeShapes Go.WideShapes Go.ChangeAt Go.RowKit
section
variable {H : Type} {enc : TypeId × Value → H} {w : World} {base : Nat} {spare : Nat → Bool} {held : Bool}
theorem ret_trod {n : Nat} {cs : List Value} {x : DataW H × List MemPlace} (hl : cs.length = 3) (h : DataW.trod enc Tryz.prog w base spare held n 46 cs = some x) : ∃ o, rRet.rep w (fun b => b < w.heap.size) o cs := by
 match cs, hl with
 | [c0, c1, c2], _ =>
  obtain ⟨_, _, h0⟩ := field_trod (i := 0) (ft := 3) h (by kernel_rfl) rfl
  obtain ⟨_, _, h1⟩ := field_trod (i := 1) (ft := 3) h (by kernel_rfl) rfl
  obtain ⟨_, _, h2⟩ := field_trod (i := 2) (ft := 3) h (by kernel_rfl) rfl
  obtain ⟨i0, rfl, hi0⟩ := int_trod (by kernel_rfl) h0
  obtain ⟨i1, rfl, hi1⟩ := int_trod (by kernel_rfl) h1
  obtain ⟨i2, rfl, hi2⟩ := int_trod (by kernel_rfl) h2
  exact ⟨⟨i0, i1, i2⟩, rfl, hi0, hi1, hi2⟩
theorem ret_Trod {v : Value} {d : DataW H} {p : List MemPlace} {cs : Array Value} (hv : v = .agg cs) (hn : cs.size = 3) (h : DataW.Trod enc Tryz.prog w base spare held 46 v d p) : ∃ x : Ret, v = .agg #[.int .i64 x.tick, .int .i64 x.ply, .int .i64 x.op] := by
 subst hv
 obtain ⟨fuel, hf⟩ := h
 obtain ⟨x, h1, _⟩ := ret_trod (cs := cs.toList) (by simpa using hn) hf
 refine ⟨x, ?_⟩
 congr 1
 apply Array.ext'
 exact h1
theorem shop_trod {n : Nat} {cs : List Value} {x : DataW H × List MemPlace} (hl : cs.length = 12) (h : DataW.trod enc Tryz.prog w base spare held n 65 cs = some x) : ∃ c, ShopV w (.agg cs.toArray) c := by
 match cs, hl with
 | [c0, c1, c2, c3, c4, c5, c6, c7, c8, c9, c10, c11], _ =>
  obtain ⟨_, _, h0⟩ := fieldK_trod (i := 0) (o := 0) (k := 7) (ft := 29) h (by kernel_rfl) rfl
  obtain ⟨_, _, h1⟩ := fieldK_trod (i := 1) (o := 7) (k := 1) (ft := 30) h (by kernel_rfl) rfl
  obtain ⟨_, _, h2⟩ := fieldK_trod (i := 2) (o := 8) (k := 1) (ft := 31) h (by kernel_rfl) rfl
  obtain ⟨_, _, h3⟩ := fieldK_trod (i := 3) (o := 9) (k := 1) (ft := 32) h (by kernel_rfl) rfl
  obtain ⟨_, _, h4⟩ := fieldK_trod (i := 4) (o := 10) (k := 2) (ft := 36) h (by kernel_rfl) rfl
  obtain ⟨s, hs⟩ := sty_trod rfl h0
  obtain ⟨l1, k1⟩ := sl_of_trod (R := rBun) (e := 44) (by kernel_rfl) (by kernel_rfl) (by decide) (fun _ _ _ hl hy => bun_trod hl hy) h1
  obtain ⟨l2, k2⟩ := sl_of_trod (R := rWrk) (e := 85) (by kernel_rfl) (by kernel_rfl) (by decide) (fun _ _ _ hl hy => wrk_trod hl hy) h2
  obtain ⟨l3, k3⟩ := sl_of_trod (R := rScn) (e := 51) (by kernel_rfl) (by kernel_rfl) (by decide) (fun _ _ _ hl hy => scn_trod hl hy) h3
  obtain ⟨r, le, ht, _, _⟩ := tariff_trod rfl h4
  injection ht with e1 e2
  injection e2 with e2
  subst e1 e2
  exact ⟨⟨s, l1, l2, l3, r, le⟩, c0, c1, c2, c3, c4, c5, c6, c7, c8, c9, rfl, hs, k1, k2, k3⟩
theorem shop_Trod {v : Value} {d : DataW H} {p : List MemPlace} {cs : Array Value} (hv : v = .agg cs) (hn : cs.size = 12) (h : DataW.Trod enc Tryz.prog w base spare held 65 v d p) : ∃ c, ShopV w v c := by
 subst hv
 obtain ⟨fuel, hf⟩ := h
 exact shop_trod (cs := cs.toList) (by simpa using hn) hf
end
end Go.Proofs.YtckhibfbdnoigaaGreatDoor
