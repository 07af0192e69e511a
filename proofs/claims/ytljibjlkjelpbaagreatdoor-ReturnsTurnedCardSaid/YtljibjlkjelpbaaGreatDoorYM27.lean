/- The law ReturnsTurned: the walk. -/
import Derived.Test.YtljibjlkjelpbaaGreatDoorJW
namespace Go.Proofs.YtljibjlkjelpbaaGreatDoor
open Go.RowKit
set_option maxRecDepth 100000
set_option maxHeartbeats 4000000

theorem ret_rep {w0 w : World} {B : Nat} {S : Nat → Prop} {v : Value} {l : List Ret} (h : Sl rRet w0 B v l) {q : Ret} (hq : q ∈ l) : rRet.rep w S q (encR q) := by
  obtain ⟨k, hk, rfl⟩ := List.getElem_of_mem hq
  obtain ⟨_, _, _, _, _, hcell⟩ := h.ret
  obtain ⟨_, _, _, _, h1⟩ := hcell k hk
  exact ⟨rfl, h1⟩
theorem chg_turn {r le : Int} {ops : List Opn} {bs : List Bun} {ps : List Scn} (l : List Ret) : (chgL r le ops bs ps l).length = (chgL r le ops bs ps l.reverse).length ∧ ∀ q ∈ chgL r le ops bs ps l, q ∈ chgL r le ops bs ps l.reverse := by
  have hp := (done_perm (ok := okR ops.length bs ps) (xs := l) (ys := l.reverse) (fun y => List.mem_reverse.symm)).map (chgOf r le ops bs ps)
  exact ⟨hp.length_eq, fun q hq => hp.mem_iff.1 hq⟩
theorem lawReturnsTurned_ok (w : World) (hL : Lay w) (v : Value) (c : Shp) (vl : Value) (l : List Ret) (hc : ShopV w v c) (hl : Sl rRet w w.heap.size vl l) : Ok Tryz.prog 12 [v, vl].toArray w fun r _ => r = .bool true := by
  have hc' := hc
  have hl' := hl
  obtain ⟨v0, v1, v2, v3, v4, v5, v6, vb, vw, vx, rfl, hs, hb, hw, hx⟩ := hc
  obtain ⟨Al, cl, rfl, hlc, hlm, hlcell⟩ := hl.ret
  have hA : ∀ (L : List Res) (w' : World), St w L w' → Ok Tryz.prog 22 [].toArray w' fun r _ => r = .bool true := fun L w' s => alive_ok w' (hL.later s)
  have hF : ∀ (L : List Res) (w' : World), St w L w' → OkM Tryz.prog 26 [.agg #[v0, v1, v2, v3, v4, v5, v6, vb, vw, vx, .int .i64 c.r, .int .i64 c.le]].toArray w' (fun b : Bool => .bool b) (fun _ => []) := fun L w' s' => light58_ok w' _ c (hc'.later s')
  refine ok_enter Tryz.func12 rfl Tryz.ntmps12 rfl ?_
  focus (refine gc_seq ?_; refine gc_region ?_; refine gw_boxd (v := .agg _) rfl rfl (fun _ => ?_); refine gM rfl rfl (by conv => (lhs; whnf)) ?_; refine gO ?_; refine gc_seq ?_; refine gc_seq ?_; refine gc_region ?_; apply gw_d; exact w_load_boxN rfl rfl rfl .here rfl)
  rename_i bS
  refine gw_callm rfl (hF _) rfl (fun b => ?_)
  focus (apply gw_d; exact det_not_ rfl rfl rfl; refine gM rfl rfl (by conv => (lhs; whnf)) ?_; refine gw_guard rfl rfl (fun _ => ?_) (fun _ => ?_); refine gU rfl ?_; refine gU rfl ?_; refine gU rfl ?_; apply gw_d; exact det_pick_t (v := .bool _) rfl rfl rfl rfl; refine gO ?_; refine gc_if_true rfl ?_; refine gc_seq ?_; refine gc_region ?_; apply gw_d; exact w_call rfl rfl (hA _) rfl; refine gM rfl rfl (by conv => (lhs; whnf)) ?_; refine gO ?_; refine gc_ret ?_; refine gx_then_ret ?_; rotate_left; refine gM rfl rfl (by conv => (lhs; whnf)) ?_; refine gL rfl rfl rfl ?_; refine gC rfl rfl rfl rfl rfl ?_; apply gw_d; exact det_pick_f (v := .bool _) rfl rfl rfl rfl; refine gO ?_; refine gc_if_dec rfl (fun _ => ?_) (fun _ => ?_); refine gc_seq ?_; refine gc_region ?_; apply gw_d; exact w_call rfl rfl (hA _) rfl; refine gM rfl rfl (by conv => (lhs; whnf)) ?_; refine gO ?_; refine gc_ret ?_; refine gx_then_ret ?_; rotate_left; refine gc_skip ?_; refine gx_next ?_; refine gc_seq ?_; refine gc_region ?_; refine gM rfl rfl (by conv => (lhs; whnf)) ?_; refine gO ?_; refine gc_seq ?_; refine gc_seq ?_; refine gc_region ?_; refine gM rfl rfl (by conv => (lhs; whnf)) ?_; refine gL rfl rfl rfl ?_; apply gw_d; exact det_ar rfl rfl rfl rfl rfl (by omega); refine gM rfl rfl (by conv => (lhs; whnf)) ?_; refine gO ?_; refine gc_block ?_; rotate_left)
  all_goals first | (refine gx_ret1 (v := .bool _) rfl rfl (fun _ _ => ?_); rfl) | skip
  have h40 : l.length ≤ 40 := by omega
  refine gc_own0 76 3 ?_
  refine gc_loop1 (σ := Nat × Option Addr × Nat) [28, 29, 32, 33, 34, 35, 36, 37, 38, 5, 30, 31, 6] (fun q => [(6, .int .i64 ((l.length : Int) - 1 - q.1)), (5, .slice q.2.1 q.1 q.2.2)]) (fun q => Own q.2.1 q.1 q.2.2 76 3 ((l.reverse.take q.1).flatMap encR)) (fun q => q.1 ≤ l.length) (fun q => l.length - q.1) (0, none, 0) (Nat.zero_le _) ⟨by show Value.int .i64 _ = Value.int .i64 _; congr 1; simp, rfl, trivial⟩ rfl ?_
  rintro ⟨k, A, ca⟩ base hk
  dsimp only at hk ⊢
  focus (refine gc_seq ?_; refine gc_seq ?_; refine gc_region ?_; refine gM rfl rfl (by conv => (lhs; whnf)) ?_; refine gC rfl rfl rfl rfl rfl ?_; refine gO ?_)
  refine gc_if_dec rfl (fun h => ?_) (fun h => ?_)
  · have hkl : k < l.length := by omega
    obtain ⟨m, hm⟩ : ∃ m : Nat, (l.length : Int) - 1 - k = (m : Int) := ⟨l.length - 1 - k, by omega⟩
    have hml : m < l.length := by omega
    obtain ⟨ad, rfl, hbk, hce, _⟩ := hlcell m hml
    have hrv : l.reverse.take (k + 1) = l.reverse.take k ++ [l[m]] := by
      rw [List.take_succ_eq_append_getElem (by simpa using hkl), List.getElem_reverse]
      congr 2
      have : l.length - 1 - k = m := by omega
      simp only [this]
    focus (refine gc_skip ?_; refine gx_next ?_; refine gc_seq ?_; refine gc_block ?_; refine gc_region ?_; refine gM rfl rfl (by conv => (lhs; whnf)) ?_; refine gM rfl rfl (by conv => (lhs; whnf)) ?_; refine gM rfl rfl (by conv => (lhs; whnf)) ?_; apply gw_d; exact w_index (m := m) rfl rfl rfl rfl hm hml; apply gw_d; exact w_load_elem rfl rfl rfl (by assumption) (by assumption) (by rfl))
    refine gw_bslice1 (v := .agg #[.int .i64 l[m].tick, .int .i64 l[m].ply, .int .i64 l[m].op]) rfl rfl rfl rfl rfl (fun bb => ?_)
    refine gw_append (news := encR l[m]) rfl rfl rfl (.there .here) rfl (fun w' s _ => ?_) (fun u hu => ?_) (by unfold maxLen; omega) (by omega) (by decide) rfl (fun A3 c3 => ?_)
    · refine ⟨⟨bb, 0, none⟩, rfl, fun i u hu => ?_⟩
      rw [add_zero]
      refine (Box.cell s.head i).trans ?_
      change (#[Value.int .i64 l[m].tick, .int .i64 l[m].ply, .int .i64 l[m].op] : Array Value)[i]? = some u
      rw [List.getElem?_toArray]
      exact hu
    · unfold encR at hu
      simp only [List.mem_cons, List.not_mem_nil, or_false] at hu
      rcases hu with rfl | rfl | rfl <;> rfl
    · focus (refine gM rfl rfl (by conv => (lhs; whnf)) ?_; refine gw_nil ?_; refine gx_block ?_; refine gx_next ?_; refine gc_region ?_; refine gM rfl rfl (by conv => (lhs; whnf)) ?_; apply gw_d; exact det_ar rfl rfl rfl rfl rfl (by omega); refine gM rfl rfl (by conv => (lhs; whnf)) ?_; refine gw_nil ?_)
      refine gx_round (k + 1, A3, c3) hkl (by dsimp only; omega) (by repeat (first | exact Keeps.refl | refine Keeps.upd rfl ?_ | refine Keeps.sets rfl ?_ | refine Keeps.havoc rfl ?_)) ⟨by show Value.int .i64 _ = Value.int .i64 _; congr 1; omega, rfl, trivial⟩ ?_
      dsimp only
      rw [hrv, List.flatMap_append]
      simp only [List.flatMap_cons, List.flatMap_nil, List.append_nil]
      exact .cons .here Sub.tail
  obtain rfl : k = l.length := by omega
  rw [List.take_of_length_le (by simp)]
  have hlr : l.reverse.length = l.length := by simp
  have hsl : ∀ (L L' : List Res) (w' : World), Pick L (Own A l.length ca 76 3 (l.reverse.flatMap encR)) L' → St w L w' → Sl rRet w' w'.heap.size (.slice A l.length ca) l.reverse := fun L L' w' hp s' => Sl.own (R := rRet) (enc := encR) s' hp hlr.symm (fun q hq => ret_rep hl' (List.mem_reverse.1 hq))
  by_cases he : chgErr c.r c.le (opCheckE c.sty plE) c.bs c.ws c.xs.length l.length = 0
  · obtain ⟨_, hj, ht⟩ := chgErr_zero he
    obtain ⟨hOk, _⟩ := judge_zero hj
    have hC1 := fun (L : List Res) (w' : World) (s' : St w L w') => charges_ok (r := c.r) (le := c.le) (hL.later s') (StyV.later s' hs) (hb.later s') (hw.later s') (hx.later s') (hl'.later s') he
    have hC2 := fun (L L' : List Res) (w' : World) (hp : Pick L (Own A l.length ca 76 3 (l.reverse.flatMap encR)) L') (s' : St w L w') => charges_ok (r := c.r) (le := c.le) (hL.later s') (StyV.later s' hs) (hb.later s') (hw.later s') (hx.later s') (hsl L L' w' hp s') (by rw [hlr]; exact he)
    rw [hlr] at hC2
    obtain ⟨hcl, hcm⟩ := chg_turn (r := c.r) (le := c.le) (ops := c.sty.ops) (bs := c.bs) (ps := paidL c.sty.ops c.ws (ticks c.bs) c.xs) l
    have hch40 : (chgL c.r c.le c.sty.ops c.bs (paidL c.sty.ops c.ws (ticks c.bs) c.xs) l).length ≤ 40 := by
      have := done_len (ok := okR c.sty.ops.length c.bs (paidL c.sty.ops c.ws (ticks c.bs) c.xs)) l
      unfold chgL
      rw [List.length_map]
      omega
    generalize outsR (okR c.sty.ops.length c.bs (paidL c.sty.ops c.ws (ticks c.bs) c.xs)) [] l = os at hC1
    generalize outsR (okR c.sty.ops.length c.bs (paidL c.sty.ops c.ws (ticks c.bs) c.xs)) [] l.reverse = os2 at hC2
    generalize chgL c.r c.le c.sty.ops c.bs (paidL c.sty.ops c.ws (ticks c.bs) c.xs) l = ch at hC1 hcl hcm hch40
    generalize chgL c.r c.le c.sty.ops c.bs (paidL c.sty.ops c.ws (ticks c.bs) c.xs) l.reverse = cg at hC2 hcl hcm
    have hec : ∀ x ∈ ch, (encC x).length = 5 := fun _ _ => rfl
    have heg : ∀ x ∈ cg, (encC x).length = 5 := fun _ _ => rfl
    focus (refine gc_exit ?_; refine gx_then_exit ?_; refine gx_then_exit ?_; refine gx_block_exit ?_; refine gx_next ?_; refine gc_seq ?_; refine gc_region ?_; apply gw_d; exact w_load_boxN rfl rfl rfl (.there .here) rfl; refine gM rfl rfl (by conv => (lhs; whnf)) ?_)
    refine gw_callm rfl (hC1 _) rfl (fun x => ?_)
    obtain ⟨⟨B1, d1⟩, o1⟩ := x
    focus (refine gM rfl rfl (by conv => (lhs; whnf)) ?_; apply gw_d; exact det_extract rfl rfl rfl (by conv => (lhs; whnf)); apply gw_d; exact det_extract rfl rfl rfl (by conv => (lhs; whnf)); apply gw_d; exact det_extract rfl rfl rfl (by conv => (lhs; whnf)); refine gM rfl rfl (by conv => (lhs; whnf)) ?_; refine gM rfl rfl (by conv => (lhs; whnf)) ?_; refine gM rfl rfl (by conv => (lhs; whnf)) ?_; refine gN ?_; apply gw_d; exact w_load_boxN rfl rfl rfl (.there (.there (.there .here))) rfl; refine gM rfl rfl (by conv => (lhs; whnf)) ?_)
    refine gw_callm rfl (fun w' s' => hC2 _ _ w' (.there (.there .here)) s') rfl (fun x => ?_)
    obtain ⟨⟨B2, d2⟩, o2⟩ := x
    refine gw_ent (K := [Own B1 ch.length d1 74 5 (ch.flatMap encC), Own B2 cg.length d2 74 5 (cg.flatMap encC)]) (Sub.ent (.cons (.there (.there .here)) (.cons .here .nil))) ?_
    focus (refine gM rfl rfl (by conv => (lhs; whnf)) ?_; apply gw_d; exact det_extract rfl rfl rfl (by conv => (lhs; whnf)); apply gw_d; exact det_extract rfl rfl rfl (by conv => (lhs; whnf)); apply gw_d; exact det_extract rfl rfl rfl (by conv => (lhs; whnf)); refine gM rfl rfl (by conv => (lhs; whnf)) ?_; refine gM rfl rfl (by conv => (lhs; whnf)) ?_; refine gM rfl rfl (by conv => (lhs; whnf)) ?_; refine gO ?_; refine gc_seq ?_; refine gc_seq ?_; refine gc_region ?_; refine gM rfl rfl (by conv => (lhs; whnf)) ?_; refine gM rfl rfl (by conv => (lhs; whnf)) ?_; refine gC rfl rfl rfl rfl rfl ?_; refine gM rfl rfl (by conv => (lhs; whnf)) ?_; refine gM rfl rfl (by conv => (lhs; whnf)) ?_; refine gL rfl rfl rfl ?_; refine gM rfl rfl (by conv => (lhs; whnf)) ?_; refine gL rfl rfl rfl ?_; refine gC rfl rfl rfl rfl rfl ?_; apply gw_d; exact det_pick_f (v := .bool _) rfl rfl rfl rfl; refine gO ?_; refine gc_if_dec rfl (fun _ => ?_) (fun _ => ?_); refine gc_seq ?_; refine gc_region ?_; refine gM rfl rfl (by conv => (lhs; whnf)) ?_; refine gO ?_; refine gc_ret ?_; refine gx_then_ret ?_; rotate_left; refine gc_skip ?_; refine gx_next ?_; refine gc_seq ?_; refine gc_seq ?_; refine gc_region ?_; refine gM rfl rfl (by conv => (lhs; whnf)) ?_; refine gO ?_; refine gc_block ?_; rotate_left)
    all_goals first | (exfalso; omega) | skip
    refine gc_loopK (σ := Nat) [63, 64, 65, 66, 14, 15, 69, 70, 71, 72, 75, 76, 77, 78, 79, 80, 81, 82, 83, 84, 85, 86, 73, 74, 87, 88, 4, 67, 68, 13] (fun i => [(13, .int .i64 i)]) (fun i => i ≤ ch.length) (fun i => ch.length - i) 0 (Nat.zero_le _) ⟨rfl, trivial⟩ ?_
    rintro i base2 hi
    focus (refine gc_seq ?_; refine gc_seq ?_; refine gc_region ?_; refine gM rfl rfl (by conv => (lhs; whnf)) ?_; refine gM rfl rfl (by conv => (lhs; whnf)) ?_; refine gL rfl rfl rfl ?_; refine gC rfl rfl rfl rfl rfl ?_; refine gO ?_)
    refine gc_if_dec rfl (fun h => ?_) (fun h => ?_)
    · have hil : i < ch.length := by omega
      have hci := flat_at hec hil
      have hmem := hcm ch[i] (List.getElem_mem hil)
      focus (refine gc_skip ?_; refine gx_next ?_; refine gc_seq ?_; refine gc_block ?_; refine gc_seq ?_; refine gc_region ?_; refine gM rfl rfl (by conv => (lhs; whnf)) ?_; refine gO ?_; refine gc_seq ?_; refine gc_seq ?_; refine gc_region ?_; refine gM rfl rfl (by conv => (lhs; whnf)) ?_; refine gO ?_; refine gc_block ?_)
      refine gc_loopK (σ := Nat) [69, 70, 71, 72, 75, 76, 77, 78, 79, 80, 81, 82, 83, 84, 85, 86, 14, 73, 74, 15] (fun j => [(15, .int .i64 j), (14, .bool ((cg.take j).any fun q => decide (ch[i] = q)))]) (fun j => j ≤ cg.length) (fun j => cg.length - j) 0 (Nat.zero_le _) ⟨rfl, rfl, trivial⟩ ?_
      rintro j base3 hj2
      focus (refine gc_seq ?_; refine gc_seq ?_; refine gc_region ?_; refine gM rfl rfl (by conv => (lhs; whnf)) ?_; refine gM rfl rfl (by conv => (lhs; whnf)) ?_; refine gL rfl rfl rfl ?_; refine gC rfl rfl rfl rfl rfl ?_; refine gO ?_)
      refine gc_if_dec rfl (fun h2 => ?_) (fun h2 => ?_)
      · have hjl : j < cg.length := by omega
        have hcj := flat_at heg hjl
        have hsn : ((cg.take (j + 1)).any fun q => decide (ch[i] = q)) = (((cg.take j).any fun q => decide (ch[i] = q)) || decide (ch[i] = cg[j])) := by
          rw [List.take_succ_eq_append_getElem hjl, List.any_append]
          simp
        have heq : decide ([ch[i].who, ch[i].tick, ch[i].ply, ch[i].op, ch[i].amt] = [cg[j].who, cg[j].tick, cg[j].ply, cg[j].op, cg[j].amt]) = decide (ch[i] = cg[j]) := by
          rw [decide_eq_decide]
          constructor
          · intro h4
            simp only [List.cons.injEq, and_true] at h4
            cases ha5 : ch[i]; cases hb5 : cg[j]
            rw [ha5, hb5] at h4
            simp only at h4
            obtain ⟨q1, q2, q3, q4, q5⟩ := h4
            rw [q1, q2, q3, q4, q5]
          · intro h4
            rw [h4]
        cases hb0 : ((cg.take j).any fun q => decide (ch[i] = q)) with
        | true =>
          rw [hb0] at hsn
          focus (refine gc_skip ?_; refine gx_next ?_; refine gc_seq ?_; refine gc_block ?_)
          refine gc_draw 12 (by kernel_rfl) (by kernel_rfl) ?_
          focus (apply gd_d; exact det_m rfl rfl (by conv => (lhs; whnf)); apply gd_d; exact det_m rfl rfl (by conv => (lhs; whnf)); apply gd_d; exact det_not rfl; apply gd_d; exact det_not rfl; apply gd_d; exact det_not rfl; apply gd_d; exact det_not rfl; apply gd_d; exact det_not rfl; apply gd_d; exact det_not rfl; apply gd_d; exact det_not rfl; apply gd_d; exact det_not rfl; apply gd_d; exact det_not rfl; apply gd_d; exact det_pick_t (v := .bool _) rfl rfl rfl rfl; refine gd_nil ?_; refine gM rfl rfl (by conv => (lhs; whnf)) ?_; refine gw_nil ?_; refine gx_block ?_; refine gx_next ?_; refine gc_region ?_; refine gM rfl rfl (by conv => (lhs; whnf)) ?_; apply gw_d; exact det_ar rfl rfl rfl rfl rfl (by omega); refine gM rfl rfl (by conv => (lhs; whnf)) ?_; refine gw_nil ?_)
          exact gx_round (j + 1) hjl (by omega) (by repeat (first | exact Keeps.refl | refine Keeps.upd rfl ?_ | refine Keeps.sets rfl ?_ | refine Keeps.havoc rfl ?_)) ⟨rfl, by rw [hsn]; rfl, trivial⟩ (Sub.all _)
        | false =>
          rw [hb0] at hsn
          focus (refine gc_skip ?_; refine gx_next ?_; refine gc_seq ?_; refine gc_block ?_)
          refine gc_draw 12 (by kernel_rfl) (by kernel_rfl) ?_
          focus (apply gd_d; exact det_m rfl rfl (by conv => (lhs; whnf)); apply gd_d; exact det_m rfl rfl (by conv => (lhs; whnf)); apply gd_d; exact det_m rfl rfl (by conv => (lhs; whnf)); apply gd_d; exact det_m rfl rfl (by conv => (lhs; whnf)); apply gd_d; exact w_indexO (m := i) rfl rfl rfl rfl rfl hil .here; apply gd_d; exact w_loadON (l := encC ch[i]) rfl rfl rfl .here (by omega) hci rfl; apply gd_d; exact det_m rfl rfl (by conv => (lhs; whnf)); apply gd_d; exact det_m rfl rfl (by conv => (lhs; whnf)); apply gd_d; exact w_indexO (m := j) rfl rfl rfl rfl rfl hjl (.there .here); apply gd_d; exact w_loadON (l := encC cg[j]) rfl rfl rfl (.there .here) (by omega) hcj rfl; apply gd_d; exact det_eq (c' := .bool (decide (ch[i] = cg[j]))) (w_eqs (xs := [ch[i].who, ch[i].tick, ch[i].ply, ch[i].op, ch[i].amt]) (ys := [cg[j].who, cg[j].tick, cg[j].ply, cg[j].op, cg[j].amt]) rfl rfl rfl rfl rfl rfl) (by rw [heq]); apply gd_d; exact det_pick_f (v := .bool _) rfl rfl rfl rfl; refine gd_nil ?_; refine gM rfl rfl (by conv => (lhs; whnf)) ?_; refine gw_nil ?_; refine gx_block ?_; refine gx_next ?_; refine gc_region ?_; refine gM rfl rfl (by conv => (lhs; whnf)) ?_; apply gw_d; exact det_ar rfl rfl rfl rfl rfl (by omega); refine gM rfl rfl (by conv => (lhs; whnf)) ?_; refine gw_nil ?_)
          exact gx_round (j + 1) hjl (by omega) (by repeat (first | exact Keeps.refl | refine Keeps.upd rfl ?_ | refine Keeps.sets rfl ?_ | refine Keeps.havoc rfl ?_)) ⟨rfl, by rw [hsn]; rfl, trivial⟩ (Sub.all _)
      · obtain rfl : j = cg.length := by omega
        have hall : ((cg.take cg.length).any fun q => decide (ch[i] = q)) = true := by
          rw [List.take_length, List.any_eq_true]
          exact ⟨ch[i], hmem, by simp⟩
        rw [hall]
        focus (refine gc_exit ?_; refine gx_then_exit ?_; refine gx_then_exit ?_; refine gx_block_exit ?_; refine gx_next ?_; refine gc_seq ?_; refine gc_region ?_; refine gM rfl rfl (by conv => (lhs; whnf)) ?_; apply gw_d; exact det_not_ rfl rfl rfl; refine gO ?_)
        refine gc_if_false rfl ?_
        focus (refine gc_skip ?_; refine gx_block ?_; refine gx_next ?_; refine gc_region ?_; refine gM rfl rfl (by conv => (lhs; whnf)) ?_; apply gw_d; exact det_ar rfl rfl rfl rfl rfl (by omega); refine gM rfl rfl (by conv => (lhs; whnf)) ?_; refine gw_nil ?_)
        exact gx_round (i + 1) hil (by omega) (by repeat (first | exact Keeps.refl | refine Keeps.upd rfl ?_ | refine Keeps.sets rfl ?_ | refine Keeps.havoc rfl ?_)) ⟨rfl, trivial⟩ (Sub.all _)
    · focus (refine gc_exit ?_; refine gx_then_exit ?_; refine gx_then_exit ?_; refine gx_block_exit ?_; refine gx_next ?_; refine gc_seq ?_; refine gc_region ?_; apply gw_d; exact w_call rfl rfl (hA _) rfl; refine gM rfl rfl (by conv => (lhs; whnf)) ?_; refine gO ?_; refine gc_ret ?_)
      refine gx_ret1 (v := .bool _) rfl rfl (fun _ _ => ?_)
      rfl
  · have hC1 := fun (L : List Res) (w' : World) (s' : St w L w') => charges_bad (r := c.r) (le := c.le) (hL.later s') (StyV.later s' hs) (hb.later s') (hw.later s') (hx.later s') (hl'.later s') he
    have hC2 := fun (L L' : List Res) (w' : World) (hp : Pick L (Own A l.length ca 76 3 (l.reverse.flatMap encR)) L') (s' : St w L w') => charges_bad (r := c.r) (le := c.le) (hL.later s') (StyV.later s' hs) (hb.later s') (hw.later s') (hx.later s') (hsl L L' w' hp s') (by rw [hlr]; exact he)
    rw [hlr] at hC2
    generalize chgErr c.r c.le (opCheckE c.sty plE) c.bs c.ws c.xs.length l.length = er at he hC1 hC2
    focus (refine gc_exit ?_; refine gx_then_exit ?_; refine gx_then_exit ?_; refine gx_block_exit ?_; refine gx_next ?_; refine gc_seq ?_; refine gc_region ?_; apply gw_d; exact w_load_boxN rfl rfl rfl (.there .here) rfl; refine gM rfl rfl (by conv => (lhs; whnf)) ?_; apply gw_d; exact w_call rfl rfl (hC1 _) rfl; refine gM rfl rfl (by conv => (lhs; whnf)) ?_; apply gw_d; exact det_extract rfl rfl rfl (by conv => (lhs; whnf)); apply gw_d; exact det_extract rfl rfl rfl (by conv => (lhs; whnf)); apply gw_d; exact det_extract rfl rfl rfl (by conv => (lhs; whnf)); refine gM rfl rfl (by conv => (lhs; whnf)) ?_; refine gM rfl rfl (by conv => (lhs; whnf)) ?_; refine gM rfl rfl (by conv => (lhs; whnf)) ?_; refine gN ?_; apply gw_d; exact w_load_boxN rfl rfl rfl (.there .here) rfl; refine gM rfl rfl (by conv => (lhs; whnf)) ?_; apply gw_d; exact w_call rfl rfl (fun w' s' => hC2 _ _ w' .here s') rfl; refine gM rfl rfl (by conv => (lhs; whnf)) ?_; apply gw_d; exact det_extract rfl rfl rfl (by conv => (lhs; whnf)); apply gw_d; exact det_extract rfl rfl rfl (by conv => (lhs; whnf)); apply gw_d; exact det_extract rfl rfl rfl (by conv => (lhs; whnf)); refine gM rfl rfl (by conv => (lhs; whnf)) ?_; refine gM rfl rfl (by conv => (lhs; whnf)) ?_; refine gM rfl rfl (by conv => (lhs; whnf)) ?_; refine gO ?_; refine gc_seq ?_; refine gc_seq ?_; refine gc_region ?_; refine gM rfl rfl (by conv => (lhs; whnf)) ?_; refine gM rfl rfl (by conv => (lhs; whnf)) ?_; refine gC rfl rfl rfl rfl rfl ?_; refine gM rfl rfl (by conv => (lhs; whnf)) ?_; refine gw_guard_dec rfl rfl (fun _ => ?_) (fun _ => ?_); refine gU rfl ?_; refine gU rfl ?_; refine gU rfl ?_; refine gU rfl ?_; refine gU rfl ?_; apply gw_d; exact det_pick_t (v := .bool _) rfl rfl rfl rfl; refine gO ?_; refine gc_if_true rfl ?_; refine gc_seq ?_; refine gc_region ?_; refine gM rfl rfl (by conv => (lhs; whnf)) ?_; refine gO ?_; refine gc_ret ?_; refine gx_then_ret ?_; rotate_left; refine gM rfl rfl (by conv => (lhs; whnf)) ?_; refine gL rfl rfl rfl ?_; refine gM rfl rfl (by conv => (lhs; whnf)) ?_; refine gL rfl rfl rfl ?_; refine gC rfl rfl rfl rfl rfl ?_; apply gw_d; exact det_pick_f (v := .bool _) rfl rfl rfl rfl; refine gO ?_; refine gc_if_dec rfl (fun _ => ?_) (fun _ => ?_); refine gc_seq ?_; refine gc_region ?_; refine gM rfl rfl (by conv => (lhs; whnf)) ?_; refine gO ?_; refine gc_ret ?_; refine gx_then_ret ?_; rotate_left; refine gc_skip ?_; refine gx_next ?_; refine gc_seq ?_; refine gc_seq ?_; refine gc_region ?_; refine gM rfl rfl (by conv => (lhs; whnf)) ?_; refine gO ?_; refine gc_block ?_; rotate_left)
    all_goals first | (exfalso; rename_i hne; exact hne rfl) | skip
    refine gc_loopK (σ := Nat) [63, 64, 65, 66, 14, 15, 69, 70, 71, 72, 75, 76, 77, 78, 79, 80, 81, 82, 83, 84, 85, 86, 73, 74, 87, 88, 4, 67, 68, 13] (fun k => [(13, .int .i64 k)]) (fun k => k = 0) (fun _ => 0) 0 rfl ⟨rfl, trivial⟩ ?_
    rintro k base2 rfl
    focus (refine gc_seq ?_; refine gc_seq ?_; refine gc_region ?_; refine gM rfl rfl (by conv => (lhs; whnf)) ?_; refine gM rfl rfl (by conv => (lhs; whnf)) ?_; refine gL rfl rfl rfl ?_; refine gC rfl rfl rfl rfl rfl ?_; refine gO ?_)
    refine gc_if_dec rfl (fun h => by omega) (fun h => ?_)
    focus (refine gc_exit ?_; refine gx_then_exit ?_; refine gx_then_exit ?_; refine gx_block_exit ?_; refine gx_next ?_; refine gc_seq ?_; refine gc_region ?_; apply gw_d; exact w_call rfl rfl (hA _) rfl; refine gM rfl rfl (by conv => (lhs; whnf)) ?_; refine gO ?_; refine gc_ret ?_)
    refine gx_ret1 (v := .bool _) rfl rfl (fun _ _ => ?_)
    rfl
end Go.Proofs.YtljibjlkjelpbaaGreatDoor
