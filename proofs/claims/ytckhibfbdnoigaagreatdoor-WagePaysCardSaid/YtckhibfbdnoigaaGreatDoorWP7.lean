/- Texts in one file: RV QR RY M14 Open57 Open Open2 Open3. -/
import Derived.Test.YtckhibfbdnoigaaGreatDoorWP6
import Derived.Test.YtckhibfbdnoigaaGreatDoorWP4
import Derived.Test.YtckhibfbdnoigaaGreatDoorWP5
import Derived.Test.YtckhibfbdnoigaaGreatDoorWP2
import Derived.Lib.LaidTab
import Derived.LaidByTextLater
import Derived.Test.YtckhibfbdnoigaaGreatDoorWP3
set_option maxRecDepth 100000
set_option maxHeartbeats 8000000
namespace Go.Proofs.YtckhibfbdnoigaaGreatDoor
open Go.RowKit
section
variable {w : World} {v0 v1 v2 v3 v4 v5 v6 vb vw vx : Value} {r le : Int} {s : Sty} {bs : List Bun} {ws : List Wrk} {xs : List Scn}
theorem rJudge_bad (hs : StyV w w.heap.size (.agg #[v0, v1, v2, v3, v4, v5, v6]) s) (hb : Sl rBun w w.heap.size vb bs) (hw : Sl rWrk w w.heap.size vw ws) (hx : Sl rScn w w.heap.size vx xs) (he : ¬ judgeAllE (opCheckE s plE) bs ws xs.length = 0) :
    Ok Tryz.prog 35 [.agg #[v0, v1, v2, v3, v4, v5, v6], vb, vw, vx].toArray w fun x _ => x = .tuple #[.slice none 0 0, .int .i64 (judgeAllE (opCheckE s plE) bs ws xs.length)] := by
  have hC := fun (L : List Res) (w' : World) (s' : St w L w') => rs_check w' _ _ _ s bs ws (StyV.later s' hs) (hb.later s') (hw.later s')
  obtain ⟨A, c, rfl, hxc, hxm, _⟩ := hx.scn
  refine ok_enter Tryz.func35 rfl Tryz.ntmps35 rfl ?_
  focus (refine gV ?_; refine gw_boxd (v := .agg _) rfl rfl (fun _ => ?_); (iterate 2 refine gM ?_); refine gO ?_; refine gQ ?_; refine gV ?_; apply gw_d; exact w_load_boxN rfl rfl rfl .here rfl; (iterate 2 refine gM ?_))
  focus (apply gw_d; exact w_call rfl rfl (hC _) rfl; refine gM ?_; refine gN ?_; refine gM ?_; refine gC rfl rfl rfl rfl rfl ?_; refine gO ?_)
  refine gc_if_dec rfl (fun h => ?_) (fun h => ?_)
  · focus (refine gV ?_; (iterate 3 refine gM ?_); refine gO ?_; refine gR ?_; refine gT ?_)
    refine gx_ret2 (u := .slice _ _ _) (v := .int _ _) rfl rfl rfl (fun _ _ => ?_)
    unfold judgeAllE
    rw [if_pos h]
  · focus (refine gK ?_; refine gX ?_; refine gQ ?_; refine gV ?_; refine gM ?_; refine gL rfl rfl rfl ?_; refine gC rfl rfl rfl rfl rfl ?_; refine gO ?_)
    refine gc_if_dec rfl (fun h3 => ?_) (fun h3 => ?_)
    · focus (refine gV ?_; (iterate 2 refine gM ?_); refine gO ?_; refine gR ?_; refine gT ?_)
      refine gx_ret2 (u := .slice _ _ _) (v := .int _ _) rfl rfl rfl (fun _ _ => ?_)
      unfold judgeAllE
      rw [if_neg h, if_pos (by omega)]
    · exfalso
      apply he
      unfold judgeAllE
      rw [if_neg h, if_neg (by omega)]
theorem rJudge_ok (hs : StyV w w.heap.size (.agg #[v0, v1, v2, v3, v4, v5, v6]) s) (hb : Sl rBun w w.heap.size vb bs) (hw : Sl rWrk w w.heap.size vw ws) (hx : Sl rScn w w.heap.size vx xs) (he : judgeAllE (opCheckE s plE) bs ws xs.length = 0) :
    OkM Tryz.prog 35 [.agg #[v0, v1, v2, v3, v4, v5, v6], vb, vw, vx].toArray w (fun x : Option Addr × Nat => .tuple #[.slice x.1 xs.length x.2, .int .i64 0]) (fun x => [Own x.1 xs.length x.2 3 1 ((outs s.ops ws (ticks bs) [] xs).map (Value.int .i64))]) := by
  obtain ⟨hOk, hx300⟩ := judge_zero he
  have hsc : scanE (opCheckE s plE) bs ws = 0 := by
    unfold judgeAllE at he
    split at he
    · rename_i h; exact absurd he h
    · rename_i h; simpa using h
  have hC : ∀ (L : List Res) (w' : World), St w L w' → Ok Tryz.prog 45 [.agg #[v0, v1, v2, v3, v4, v5, v6], vb, vw].toArray w' fun x _ => x = .int .i64 0 := fun L w' s' => by
    have := rs_check w' _ _ _ s bs ws (StyV.later s' hs) (hb.later s') (hw.later s')
    rw [hsc] at this
    exact this
  have h6 := sty_ops hs
  have hO : ∀ (L L' : List Res) (w' : World) (B : Option Addr) (cb : Nat) (ps : List Scn) (x : Scn), (∀ q ∈ ps, q ∈ xs) → Pick L (Own B ps.length cb 51 4 (ps.flatMap encX)) L' → St w L w' → Ok Tryz.prog 46 [.agg #[v0, v1, v2, v3, v4, v5, v6], vb, vw, .slice B ps.length cb, .agg #[.int .i64 x.tick, .int .i64 x.op, .int .i64 x.who, .int .i64 x.time]].toArray w' fun r _ => r = .int .i64 (outE s.ops ws (ticks bs) ps x) := fun L L' w' B cb ps x hin hp s' =>
    rs_outcome w' v0 v1 v2 v3 v4 v5 v6 vb vw _ s.ops bs ws ps x (h6.later s') (hb.later s') (hw.later s') (Sl.own (R := rScn) (enc := encX) s' hp rfl (fun q hq => paid_rep hx (hin q hq)))
  obtain ⟨Ax, cx, rfl, hxc, hxm, hxcell⟩ := hx.scn
  unfold OkM
  refine ok_enter Tryz.func35 rfl Tryz.ntmps35 rfl ?_
  focus (refine gV ?_; refine gw_boxd (v := .agg _) rfl rfl (fun _ => ?_); (iterate 2 refine gM ?_); refine gO ?_; refine gQ ?_; refine gV ?_; apply gw_d; exact w_load_boxN rfl rfl rfl .here rfl; (iterate 2 refine gM ?_))
  rename_i bS
  focus (apply gw_d; exact w_call rfl rfl (hC _) rfl; refine gM ?_; refine gN ?_; refine gM ?_; refine gC rfl rfl rfl rfl rfl ?_; refine gO ?_)
  refine gc_if_dec rfl (fun h => absurd rfl h) (fun _ => ?_)
  focus (refine gK ?_; refine gX ?_; refine gQ ?_; refine gV ?_; refine gM ?_; refine gL rfl rfl rfl ?_; refine gC rfl rfl rfl rfl rfl ?_; refine gO ?_)
  refine gc_if_dec rfl (fun h => by omega) (fun _ => ?_)
  focus (refine gK ?_; refine gX ?_; refine gV ?_; refine gM ?_; refine gN ?_; refine gM ?_; refine gO ?_; refine gQ ?_; refine gV ?_; refine gM ?_; refine gO ?_; refine gB ?_)
  refine gc_own0 51 4 ?_
  refine gc_own0 3 1 ?_
  refine gc_loop (σ := Nat × (Option Addr × Nat) × Option Addr × Nat) [25, 26, 27, 28, 31, 32, 33, 34, 35, 36, 37, 38, 39, 14, 40, 41, 42, 43, 11, 44, 45, 46, 47, 48, 49, 50, 51, 52, 12, 29, 30, 13] (fun q => [(13, .int .i64 q.1), (11, .slice q.2.1.1 q.1 q.2.1.2), (12, .slice q.2.2.1 (paidL s.ops ws (ticks bs) (xs.take q.1)).length q.2.2.2)]) (fun q => [Own q.2.1.1 q.1 q.2.1.2 3 1 ((outs s.ops ws (ticks bs) [] (xs.take q.1)).map (Value.int .i64)), Own q.2.2.1 (paidL s.ops ws (ticks bs) (xs.take q.1)).length q.2.2.2 51 4 ((paidL s.ops ws (ticks bs) (xs.take q.1)).flatMap encX), Box bS 29 #[v0, v1, v2, v3, v4, v5, v6]]) (fun q => q.1 ≤ xs.length) (fun q => xs.length - q.1) (0, (none, 0), none, 0) (Nat.zero_le _) ⟨rfl, rfl, rfl, trivial⟩ (.cons .here (.cons .here (.cons .here .nil))) ?_
  rintro ⟨k, ⟨A, c⟩, B, cb⟩ base hk
  dsimp only at hk ⊢
  focus (refine gQ ?_; refine gV ?_; (iterate 2 refine gM ?_); refine gL rfl rfl rfl ?_; refine gC rfl rfl rfl rfl rfl ?_; refine gO ?_)
  refine gc_if_dec rfl (fun h => ?_) (fun h => ?_)
  · have hlt : k < xs.length := by omega
    obtain ⟨ad, rfl, hbk, hce, _⟩ := hxcell k hlt
    have hin : ∀ q ∈ paidL s.ops ws (ticks bs) (xs.take k), q ∈ xs := fun q hq => List.mem_of_mem_take (paid_mem hq)
    have hpl := paidL_len s.ops ws (ticks bs) (xs.take k)
    have hos : outs s.ops ws (ticks bs) [] (xs.take (k + 1)) = outs s.ops ws (ticks bs) [] (xs.take k) ++ [outE s.ops ws (ticks bs) (paidL s.ops ws (ticks bs) (xs.take k)) xs[k]] := by
      rw [List.take_succ_eq_append_getElem hlt, outs_snoc]
      rfl
    have hps : paidL s.ops ws (ticks bs) (xs.take (k + 1)) = nextP s.ops ws (ticks bs) (paidL s.ops ws (ticks bs) (xs.take k)) xs[k] := by rw [List.take_succ_eq_append_getElem hlt, paidL_snoc]
    unfold nextP at hps
    rw [List.length_take] at hpl
    generalize paidL s.ops ws (ticks bs) (xs.take k) = ps at hin hpl hos hps
    generalize xs[k] = x at hce hos hps
    have hO1 := fun (L L' : List Res) (w' : World) hp (s' : St w L w') => hO L L' w' B cb ps x hin hp s'
    generalize outE s.ops ws (ticks bs) ps x = o at hos hps hO1
    focus (refine gK ?_; refine gX ?_; refine gQ ?_; refine gB ?_; refine gQ ?_)
    refine gc_draw 9 (by kernel_rfl) (by kernel_rfl) ?_
    focus (apply gd_d; exact w_load_boxN rfl rfl rfl (.there (.there .here)) rfl; (iterate 5 refine dM ?_); apply gd_d; exact w_index (m := k) rfl rfl rfl rfl rfl hlt; apply gd_d; exact w_load_elem rfl rfl rfl (by assumption) (by assumption) (by rfl); apply gd_d; exact w_call rfl rfl (fun w s' => hO1 _ _ w (.there .here) s') rfl; refine gd_nil ?_; refine gM ?_; refine gN ?_; (iterate 2 refine gM ?_))
    refine gw_bslice1 (v := .int .i64 o) rfl rfl rfl rfl rfl (fun b1 => ?_)
    refine gw_append (news := [.int .i64 o]) rfl rfl rfl (.there .here) rfl (fun w' s' _ => ⟨⟨b1, 0, none⟩, rfl, fun j u hu => by rw [add_zero]; refine (Box.cell s'.head j).trans ?_; change (#[Value.int .i64 o] : Array Value)[j]? = some u; rw [List.getElem?_toArray]; exact hu⟩) (fun u hu => by rw [List.mem_singleton] at hu; subst hu; rfl) (by unfold maxLen; omega) (by omega) (by decide) rfl (fun A2 c2 => ?_)
    focus (refine gM ?_; refine gN ?_; refine gM ?_; refine gC rfl rfl rfl rfl rfl ?_; refine gO ?_)
    refine gc_if_dec rfl (fun h1 => ?_) (fun h1 => ?_)
    · rw [if_pos h1] at hps
      focus (refine gG ?_; (iterate 3 refine gM ?_); apply gw_d; exact w_index (m := k) rfl rfl rfl rfl rfl hlt; apply gw_d; exact w_load_elem rfl rfl rfl (by assumption) (by assumption) (by rfl))
      refine gw_bslice1 (v := .agg #[.int .i64 x.tick, .int .i64 x.op, .int .i64 x.who, .int .i64 x.time]) rfl rfl rfl rfl rfl (fun b2 => ?_)
      refine gw_append (news := encX x) rfl rfl rfl (.there (.there (.there .here))) rfl (fun w' s' _ => ⟨⟨b2, 0, none⟩, rfl, fun j u hu => by rw [add_zero]; refine (Box.cell s'.head j).trans ?_; change (#[Value.int .i64 x.tick, .int .i64 x.op, .int .i64 x.who, .int .i64 x.time] : Array Value)[j]? = some u; rw [List.getElem?_toArray]; exact hu⟩) (fun u hu => by simp only [encX, List.mem_cons, List.not_mem_nil, or_false] at hu; rcases hu with rfl | rfl | rfl | rfl <;> rfl) (by unfold maxLen; omega) (by omega) (by decide) rfl (fun B2 cb2 => ?_)
      focus (refine gM ?_; refine gw_nil ?_; refine gH ?_; refine gX ?_; refine gG ?_; refine gM ?_; refine gA rfl rfl rfl rfl rfl (by omega) ?_; refine gM ?_; refine gw_nil ?_)
      refine gx_round (k + 1, (A2, c2), B2, cb2) hlt (by dsimp only; omega) (by repeat (first | exact Keeps.refl | refine Keeps.upd rfl ?_ | refine Keeps.sets rfl ?_ | refine Keeps.havoc rfl ?_)) ⟨rfl, rfl, by rw [hps, List.length_append]; rfl, trivial⟩ ?_
      dsimp only
      rw [hos, hps, List.map_append, List.flatMap_append, List.length_append]
      simp only [List.flatMap_cons, List.flatMap_nil, List.append_nil, List.map_cons, List.map_nil]
      exact .cons (.there (.there .here)) (.cons .here (.cons (.there (.there .here)) .nil))
    · rw [if_neg h1] at hps
      focus (refine gK ?_; refine gH ?_; refine gX ?_; refine gG ?_; refine gM ?_; refine gA rfl rfl rfl rfl rfl (by omega) ?_; refine gM ?_; refine gw_nil ?_)
      refine gx_round (k + 1, (A2, c2), B, cb) hlt (by dsimp only; omega) (by repeat (first | exact Keeps.refl | refine Keeps.upd rfl ?_ | refine Keeps.sets rfl ?_ | refine Keeps.havoc rfl ?_)) ⟨rfl, rfl, by rw [hps]; rfl, trivial⟩ ?_
      dsimp only
      rw [hos, hps, List.map_append]
      simp only [List.map_cons, List.map_nil]
      exact .cons .here (.cons (.there .here) (.cons (.there .here) .nil))
  · obtain rfl : k = xs.length := by omega
    rw [List.take_length]
    focus (refine gI ?_; (iterate 2 refine gZ ?_); refine gJ ?_; refine gX ?_; refine gV ?_; (iterate 3 refine gM ?_); refine gO ?_; refine gR ?_)
    exact gx_ret2 (u := .slice _ _ _) (v := .int _ _) rfl rfl rfl (fun w' s' => ⟨(A, c), rfl, (s'.sub (.cons .here .nil)).sep⟩)
end
def bunD (bs : List Bun) (t : Int) : Bun := (bunAt bs t).getD bunZ
structure Plies (bs : List Bun) : Prop where
  h : ∀ b ∈ bs, 1 ≤ b.upto - b.fr ∧ b.upto - b.fr ≤ 40
theorem ScanOk.bundles {e : Int} {bs : List Bun} {ws : List Wrk} (h : ScanOk e bs ws) : Plies bs := ⟨fun b hb => by
  obtain ⟨k, hk, rfl⟩ := List.getElem_of_mem hb
  exact h.plies k hk⟩
section
variable {r le : Int} {l : List Opn} {bs : List Bun} {ps : List Scn}
end
def bunV (b : Bun) : Array Value := #[.int .i64 b.tick, .int .i64 b.garm, .int .i64 b.size, .int .i64 b.lot, .int .i64 b.fr, .int .i64 b.upto]
theorem findT {α : Type} {p : α → Bool} {l : List α} {k : Nat} (hk : k < l.length) (h : (l.take k).find? p = none) (hp : p l[k] = true) : l.find? p = some l[k] := by
  have e : (l.take k ++ l[k] :: l.drop (k + 1)).find? p = some l[k] := by
    rw [List.find?_append, h, List.find?_cons, hp]
    rfl
  rwa [List.getElem_cons_drop, List.take_append_drop] at e
theorem findS {α : Type} {p : α → Bool} {l : List α} {k : Nat} (hk : k < l.length) (h : (l.take k).find? p = none) (hp : p l[k] = false) : (l.take (k + 1)).find? p = none := by
  rw [List.take_succ_eq_append_getElem hk, List.find?_append, h]
  simp [hp]
theorem rBundle_ok (w : World) (v : Value) (bs : List Bun) (t : Int) (hb : Sl rBun w w.heap.size v bs) : Ok Tryz.prog 47 [v, .int .i64 t].toArray w fun r _ => r = .agg (bunV (bunD bs t)) := by
  obtain ⟨A, c, rfl, hc, hm, hcell⟩ := hb.bun
  refine ok_enter Tryz.func47 rfl Tryz.ntmps47 rfl ?_
  focus (refine gV ?_; refine w_alloc rfl (fun _ => ?_); refine gO ?_; refine gQ ?_; refine gV ?_; refine gM ?_; refine gO ?_; refine gB ?_)
  refine gc_loopK (σ := Nat) [6, 7, 8, 9, 12, 13, 14, 15, 16, 17, 18, 19, 20, 21, 22, 10, 11, 5] (fun k => [(5, .int .i64 k)]) (fun k => k ≤ bs.length ∧ (bs.take k).find? (fun b => decide (b.tick = t)) = none) (fun k => bs.length - k) 0 ⟨Nat.zero_le _, rfl⟩ ⟨rfl, trivial⟩ ?_
  rintro k base ⟨hk, hI⟩
  focus (refine gQ ?_; refine gV ?_; (iterate 2 refine gM ?_); refine gL rfl rfl rfl ?_; refine gC rfl rfl rfl rfl rfl ?_; refine gO ?_)
  refine gc_if_dec rfl (fun h => ?_) (fun h => ?_)
  · have hlt : k < bs.length := by omega
    obtain ⟨ad, rfl, hbk, hce, _⟩ := hcell k hlt
    have hce0 := hce 0 _ rfl
    focus (refine gK ?_; refine gX ?_; refine gQ ?_; refine gB ?_; refine gV ?_; (iterate 2 refine gM ?_); apply gw_d; exact w_index rfl rfl rfl rfl (by with_reducible exact rfl) (by omega); refine gF rfl rfl rfl ?_; apply gw_d; exact w_load_fld rfl rfl rfl (by assumption) (by assumption); refine gM ?_; refine gC rfl rfl rfl rfl rfl ?_; refine gO ?_)
    refine gc_if_dec rfl (fun h2 => ?_) (fun h2 => ?_)
    · have hd : bunD bs t = bs[k] := by
        unfold bunD bunAt
        have : bs.find? (fun b => decide (b.tick = t)) = some bs[k] := findT hlt hI (decide_eq_true h2)
        rw [this]
        rfl
      rw [hd]
      focus (refine gV ?_; (iterate 2 refine gM ?_); apply gw_d; exact w_index rfl rfl rfl rfl (by with_reducible exact rfl) (by omega); apply gw_d; exact w_load_elem rfl rfl rfl (by assumption) (by assumption) (by rfl); refine w_store_all rfl rfl rfl rfl rfl .here rfl ?_; refine gO ?_; refine gR ?_; refine gY ?_; (iterate 2 refine gT ?_); refine gY ?_; refine gT ?_)
      exact gx_retc rfl rfl .here rfl fun w s => rfl
    · focus (refine gK ?_; refine gH ?_; refine gX ?_; refine gG ?_; refine gM ?_; refine gA rfl rfl rfl rfl rfl (by omega) ?_; refine gM ?_; refine gw_nil ?_)
      exact gx_round (k + 1) ⟨hlt, findS hlt hI (decide_eq_false h2)⟩ (by omega) (by repeat (first | exact Keeps.refl | refine Keeps.upd rfl ?_ | refine Keeps.sets rfl ?_ | refine Keeps.havoc rfl ?_)) ⟨rfl, trivial⟩ (Sub.all _)
  · obtain rfl : k = bs.length := by omega
    rw [List.take_length] at hI
    have hd : bunD bs t = bunZ := by unfold bunD bunAt; rw [hI]; rfl
    rw [hd]
    focus (refine gI ?_; (iterate 2 refine gZ ?_); refine gJ ?_; refine gX ?_; refine gV ?_; apply gw_d; exact w_build (cells := #[.int .i64 0, .int .i64 0, .int .i64 0, .int .i64 0, .int .i64 0, .int .i64 0]) rfl rfl (by kernel_rfl); refine w_store_all rfl rfl rfl rfl rfl .here rfl ?_; refine gO ?_; refine gR ?_)
    exact gx_retc rfl rfl .here rfl fun w s => rfl
theorem cnt_bunD (bs : List Bun) (t : Int) : cntAt bs t = (bunD bs t).upto - (bunD bs t).fr := by
  unfold cntAt bunD bunAt
  cases bs.find? fun b => decide (b.tick = t) with
  | none => rfl
  | some b => rfl
theorem bunD_range {bs : List Bun} (hp : Plies bs) (t : Int) : 0 ≤ (bunD bs t).upto - (bunD bs t).fr ∧ (bunD bs t).upto - (bunD bs t).fr ≤ 40 := by
  unfold bunD
  cases h : bunAt bs t with
  | none => exact ⟨by decide, by decide⟩
  | some b =>
    have := hp.h b (bunAt_mem h).1
    show 0 ≤ b.upto - b.fr ∧ b.upto - b.fr ≤ 40
    omega
theorem rWorth_ok (w : World) (v0 v1 v2 v3 v4 v5 v6 vb : Value) (r le : Int) (l : List Opn) (bs : List Bun) (x : Scn) (hl : Sl rOp w w.heap.size v6 l) (hb : Sl rBun w w.heap.size vb bs) (hp : Plies bs) (ho : 0 ≤ x.op ∧ x.op < l.length) :
    Ok Tryz.prog 36 [.agg #[v0, v1, v2, v3, v4, v5, v6], vb, .agg #[.int .i64 r, .int .i64 le], .agg #[.int .i64 x.tick, .int .i64 x.op, .int .i64 x.who, .int .i64 x.time]].toArray w fun y _ => y = .int .i64 (amtOf r le l bs x) := by
  obtain ⟨o, hoo⟩ : ∃ o : Nat, x.op = (o : Int) := ⟨x.op.toNat, by omega⟩
  have hol : o < l.length := by omega
  obtain ⟨ad, co, rfl, _, hlm, hbo, hocell⟩ := hl.at' 5 rfl (by omega)
  obtain ⟨cs, hce, Aa, ca, Au, cu, rfl, hnm, q1, q2⟩ := hocell o hol
  have hce2 := hce 2 _ rfl
  have hmin : minAt l x.op = l[o].minutes := by
    unfold minAt
    rw [hoo, Int.toNat_natCast, List.getElem?_eq_getElem hol]
    rfl
  have hbr := bunD_range hp x.tick
  have hcn := cnt_bunD bs x.tick
  unfold amtOf
  rw [hmin, hcn]
  have hBu := fun (L : List Res) (w' : World) (s' : St w L w') => rBundle_ok w' vb bs x.tick (hb.later s')
  generalize bunD bs x.tick = b at hbr hBu
  have hAm : ∀ (L : List Res) (w' : World), St w L w' → Ok Tryz.prog 48 [.agg #[.int .i64 r, .int .i64 le], .int .i64 l[o].minutes, .int .i64 (b.upto - b.fr)].toArray w' fun y _ => y = .tuple #[.int .i64 (amtV r le l[o].minutes (b.upto - b.fr)), .int .i64 (amtE r le l[o].minutes (b.upto - b.fr))] := fun L w' s' => rAmount_ok w' r le _ _
  refine ok_enter Tryz.func36 rfl Tryz.ntmps36 rfl ?_
  focus (refine gV ?_; refine gw_boxd (v := .agg _) rfl rfl (fun _ => ?_); refine gw_boxd (v := .agg _) rfl rfl (fun _ => ?_); refine gw_boxd (v := .agg _) rfl rfl (fun _ => ?_); refine gM ?_; refine gN ?_; refine gM ?_; refine gF rfl rfl rfl ?_; refine gW rfl rfl rfl .here rfl ?_; apply gw_d; exact w_call rfl rfl (hBu _) rfl; refine w_alloc rfl (fun _ => ?_); refine w_store_all rfl rfl rfl rfl rfl .here rfl ?_; refine gO ?_; refine gQ ?_)
  refine gc_draw 19 (by kernel_rfl) (by kernel_rfl) ?_
  focus (apply gd_d; exact w_load_boxN rfl rfl rfl (.there (.there .here)) rfl; apply gd_d; exact w_field rfl rfl rfl; apply gd_d; exact w_load_box rfl rfl rfl (.there (.there (.there .here))) rfl; apply gd_d; exact w_field rfl rfl rfl; apply gd_d; exact w_load_box rfl rfl rfl (.there .here) rfl; apply gd_d; exact w_index (m := o) rfl rfl rfl rfl hoo hol; apply gd_d; exact w_field rfl rfl rfl; apply gd_d; exact w_load_fld rfl rfl rfl (by assumption) (by assumption); apply gd_d; exact w_field rfl rfl rfl; apply gd_d; exact w_load_box rfl rfl rfl .here rfl; apply gd_d; exact w_field rfl rfl rfl; apply gd_d; exact w_load_box rfl rfl rfl .here rfl; apply gd_d; exact det_ar rfl rfl rfl rfl rfl (by omega); apply gd_d; exact w_call rfl rfl (hAm _) rfl; refine dM ?_; apply gd_d; exact det_extract rfl rfl rfl (by conv => (lhs; whnf)); apply gd_d; exact det_extract rfl rfl rfl (by conv => (lhs; whnf)); (iterate 2 refine dM ?_); refine gd_nil ?_; refine gN ?_; (iterate 2 refine gM ?_); refine gO ?_; refine gR ?_)
  refine gx_ret1 (v := .int _ _) rfl rfl (fun _ _ => ?_)
  rfl

theorem amts_next {r le : Int} {l : List Opn} {bs : List Bun} {ws : List Wrk} {tk : List Int} {ps : List Scn} {x : Scn} {m : Nat} : amts r le l bs (nextP l ws tk ps x) m = if outE l ws tk ps x = 1 ∧ x.who = (m : Int) then amts r le l bs ps m ++ [amtOf r le l bs x] else amts r le l bs ps m := by
  unfold nextP
  by_cases h1 : outE l ws tk ps x = 1
  · rw [if_pos h1, amts_snoc]
    by_cases h2 : x.who = (m : Int)
    · rw [if_pos h2, if_pos ⟨h1, h2⟩]
    · rw [if_neg h2, if_neg (fun h => h2 h.2)]
  · rw [if_neg h1, if_neg (fun h => h1 h.1)]
section
variable {w : World} {v0 v1 v2 v3 v4 v5 v6 vb vw vx : Value} {r le : Int} {s : Sty} {bs : List Bun} {ws : List Wrk} {xs : List Scn}
theorem rPays_bad (hs : StyV w w.heap.size (.agg #[v0, v1, v2, v3, v4, v5, v6]) s) (hb : Sl rBun w w.heap.size vb bs) (hw : Sl rWrk w w.heap.size vw ws) (hx : Sl rScn w w.heap.size vx xs) (he : ¬ paysE r le (opCheckE s plE) bs ws xs.length = 0) :
    Ok Tryz.prog 15 [.agg #[v0, v1, v2, v3, v4, v5, v6], vb, vw, vx, .agg #[.int .i64 r, .int .i64 le]].toArray w fun x _ => x = .tuple #[.slice none 0 0, .int .i64 (paysE r le (opCheckE s plE) bs ws xs.length)] := by
  have hC : ∀ (L : List Res) (w' : World), St w L w' → Ok Tryz.prog 34 [.agg #[.int .i64 r, .int .i64 le]].toArray w' fun x _ => x = .int .i64 (tarE r le) := fun L w' _ => rCheck57_ok w' r le
  by_cases ht : tarE r le = 0
  · have hj : ¬ judgeAllE (opCheckE s plE) bs ws xs.length = 0 := fun h => he (pays_mk ht h)
    have hJ := fun (L : List Res) (w' : World) (s' : St w L w') => rJudge_bad (StyV.later s' hs) (hb.later s') (hw.later s') (hx.later s') hj
    have hE : paysE r le (opCheckE s plE) bs ws xs.length = judgeAllE (opCheckE s plE) bs ws xs.length := by unfold paysE; rw [if_neg (fun h => h ht)]
    rw [hE]
    rw [ht] at hC
    generalize judgeAllE (opCheckE s plE) bs ws xs.length = e at hj hJ
    refine ok_enter Tryz.func15 rfl Tryz.ntmps15 rfl ?_
    focus (refine gV ?_; refine gw_boxd (v := .agg _) rfl rfl (fun _ => ?_); refine gw_boxd (v := .agg _) rfl rfl (fun _ => ?_); (iterate 2 refine gM ?_); refine gO ?_; refine gQ ?_; refine gV ?_; apply gw_d; exact w_load_boxN rfl rfl rfl .here rfl)
    focus (apply gw_d; exact w_call rfl rfl (hC _) rfl; refine gM ?_; refine gN ?_; refine gM ?_; refine gC rfl rfl rfl rfl rfl ?_; refine gO ?_)
    refine gc_if_dec rfl (fun h => absurd rfl h) (fun _ => ?_)
    focus (refine gK ?_; refine gX ?_; refine gV ?_; apply gw_d; exact w_load_boxN rfl rfl rfl (.there .here) rfl; (iterate 3 refine gM ?_); apply gw_d; exact w_call rfl rfl (hJ _) rfl; refine gM ?_; apply gw_d; exact det_extract rfl rfl rfl (by conv => (lhs; whnf)); apply gw_d; exact det_extract rfl rfl rfl (by conv => (lhs; whnf)); (iterate 2 refine gM ?_); refine gO ?_; refine gQ ?_; refine gV ?_; refine gM ?_; refine gC rfl rfl rfl rfl rfl ?_; refine gO ?_)
    refine gc_if_dec rfl (fun h => ?_) (fun h => absurd hj h)
    focus (refine gV ?_; (iterate 3 refine gM ?_); refine gO ?_; refine gR ?_; refine gT ?_)
    refine gx_ret2 (u := .slice _ _ _) (v := .int _ _) rfl rfl rfl (fun _ _ => ?_)
    rfl
  · have hE : paysE r le (opCheckE s plE) bs ws xs.length = tarE r le := by unfold paysE; rw [if_pos ht]
    rw [hE]
    generalize tarE r le = e at ht hC
    refine ok_enter Tryz.func15 rfl Tryz.ntmps15 rfl ?_
    focus (refine gV ?_; refine gw_boxd (v := .agg _) rfl rfl (fun _ => ?_); refine gw_boxd (v := .agg _) rfl rfl (fun _ => ?_); (iterate 2 refine gM ?_); refine gO ?_; refine gQ ?_; refine gV ?_; apply gw_d; exact w_load_boxN rfl rfl rfl .here rfl)
    focus (apply gw_d; exact w_call rfl rfl (hC _) rfl; refine gM ?_; refine gN ?_; refine gM ?_; refine gC rfl rfl rfl rfl rfl ?_; refine gO ?_)
    refine gc_if_dec rfl (fun h => ?_) (fun h => absurd ht h)
    focus (refine gV ?_; (iterate 3 refine gM ?_); refine gO ?_; refine gR ?_; refine gT ?_)
    refine gx_ret2 (u := .slice _ _ _) (v := .int _ _) rfl rfl rfl (fun _ _ => ?_)
    rfl
theorem rPays_ok (hs : StyV w w.heap.size (.agg #[v0, v1, v2, v3, v4, v5, v6]) s) (hb : Sl rBun w w.heap.size vb bs) (hw : Sl rWrk w w.heap.size vw ws) (hx : Sl rScn w w.heap.size vx xs) (he : paysE r le (opCheckE s plE) bs ws xs.length = 0) :
    OkM Tryz.prog 15 [.agg #[v0, v1, v2, v3, v4, v5, v6], vb, vw, vx, .agg #[.int .i64 r, .int .i64 le]].toArray w (fun x : Option Addr × Nat => .tuple #[.slice x.1 (paysL r le s.ops bs ws xs).length x.2, .int .i64 0]) (fun x => [Own x.1 (paysL r le s.ops bs ws xs).length x.2 90 3 ((paysL r le s.ops bs ws xs).flatMap encP)]) := by
  obtain ⟨ht, hj⟩ := pays_zero he
  obtain ⟨hr, hle⟩ := tar_zero ht
  obtain ⟨hOk, hx300⟩ := judge_zero hj
  have hPl := hOk.bundles
  have h12 := skill_len hOk.skill
  have h6 := sty_ops hs
  have hC : ∀ (L : List Res) (w' : World), St w L w' → Ok Tryz.prog 34 [.agg #[.int .i64 r, .int .i64 le]].toArray w' fun x _ => x = .int .i64 0 := fun L w' _ => by
    have := rCheck57_ok w' r le
    rw [ht] at this
    exact this
  have hJ := fun (L : List Res) (w' : World) (s' : St w L w') => rJudge_ok (StyV.later s' hs) (hb.later s') (hw.later s') (hx.later s') hj
  have hWo := fun (L : List Res) (w' : World) (x : Scn) (ho : 0 ≤ x.op ∧ x.op < s.ops.length) (s' : St w L w') => rWorth_ok w' v0 v1 v2 v3 v4 v5 v6 vb r le s.ops bs x (h6.later s') (hb.later s') hPl ho
  obtain ⟨Aw, cw, rfl, hwc, hwm⟩ := len_small hw
  obtain ⟨Ax, cx, rfl, hxc, hxm, hxcell⟩ := hx.scn
  have hol := outs_len s.ops ws (ticks bs) xs []
  have hoat := fun i (hi : i < xs.length) => outs_at (l := s.ops) (ws := ws) (tk := ticks bs) hi
  generalize hos : outs s.ops ws (ticks bs) [] xs = os at hJ hol hoat
  unfold OkM
  refine ok_enter Tryz.func15 rfl Tryz.ntmps15 rfl ?_
  focus (refine gV ?_; refine gw_boxd (v := .agg _) rfl rfl (fun _ => ?_); refine gw_boxd (v := .agg _) rfl rfl (fun _ => ?_); (iterate 2 refine gM ?_); refine gO ?_; refine gQ ?_; refine gV ?_; apply gw_d; exact w_load_boxN rfl rfl rfl .here rfl)
  rename_i bS bT
  focus (apply gw_d; exact w_call rfl rfl (hC _) rfl; refine gM ?_; refine gN ?_; refine gM ?_; refine gC rfl rfl rfl rfl rfl ?_; refine gO ?_)
  refine gc_if_dec rfl (fun h => absurd rfl h) (fun _ => ?_)
  focus (refine gK ?_; refine gX ?_; refine gV ?_; apply gw_d; exact w_load_boxN rfl rfl rfl (.there .here) rfl; (iterate 3 refine gM ?_))
  refine gw_callm rfl (hJ _) rfl (fun y => ?_)
  obtain ⟨O, cO⟩ := y
  focus (refine gM ?_; apply gw_d; exact det_extract rfl rfl rfl (by conv => (lhs; whnf)); apply gw_d; exact det_extract rfl rfl rfl (by conv => (lhs; whnf)); (iterate 2 refine gM ?_); refine gO ?_; refine gQ ?_; refine gV ?_; refine gM ?_; refine gC rfl rfl rfl rfl rfl ?_; refine gO ?_)
  refine gc_if_dec rfl (fun h => absurd rfl h) (fun _ => ?_)
  focus (refine gK ?_; refine gX ?_; refine gV ?_; refine gM ?_; refine gO ?_; refine gQ ?_; refine gV ?_; refine gM ?_; refine gO ?_; refine gB ?_)
  refine gc_own0 90 3 ?_
  refine gc_loop1 (σ := Nat × Option Addr × Nat) [36, 37, 38, 39, 42, 43, 17, 18, 19, 44, 45, 46, 47, 50, 51, 52, 53, 54, 55, 56, 57, 58, 59, 60, 61, 62, 63, 64, 65, 66, 67, 68, 69, 70, 71, 72, 73, 74, 75, 48, 49, 76, 77, 78, 79, 80, 81, 82, 83, 84, 85, 86, 87, 15, 40, 41, 16] (fun q => [(16, .int .i64 q.1), (15, .slice q.2.1 (payP le (amts r le s.ops bs (paidL s.ops ws (ticks bs) xs)) q.1).length q.2.2)]) (fun q => Own q.2.1 (payP le (amts r le s.ops bs (paidL s.ops ws (ticks bs) xs)) q.1).length q.2.2 90 3 ((payP le (amts r le s.ops bs (paidL s.ops ws (ticks bs) xs)) q.1).flatMap encP)) (fun q => q.1 ≤ ws.length) (fun q => ws.length - q.1) (0, none, 0) (Nat.zero_le _) ⟨rfl, rfl, trivial⟩ rfl ?_
  rintro ⟨m, A, c⟩ base hm
  dsimp only at hm ⊢
  have hpn := payP_snoc le (amts r le s.ops bs (paidL s.ops ws (ticks bs) xs)) m
  have hpl := payP_len le (amts r le s.ops bs (paidL s.ops ws (ticks bs) xs)) m
  focus (refine gQ ?_; refine gV ?_; (iterate 2 refine gM ?_); refine gL rfl rfl rfl ?_; refine gC rfl rfl rfl rfl rfl ?_; refine gO ?_)
  refine gc_if_dec rfl (fun h => ?_) (fun h => ?_)
  · have hml : m < ws.length := by omega
    focus (refine gK ?_; refine gX ?_; refine gQ ?_; refine gB ?_; refine gV ?_; refine gM ?_; apply gw_d; exact w_buildP [(0, .int .i64 (m : Int))] (cells := #[.int .i64 (m : Int), .int .i64 0, .int .i64 0]) (by kernel_rfl) rfl rfl rfl; refine w_alloc rfl (fun _ => ?_); refine w_store_all rfl rfl rfl rfl rfl .here rfl ?_; refine gN ?_; refine gM ?_; refine gO ?_; refine gQ ?_; refine gV ?_; refine gM ?_; refine gO ?_; refine gB ?_)
    rename_i bp
    refine gc_loop1 (σ := Nat) [44, 45, 46, 47, 50, 51, 52, 53, 54, 55, 56, 57, 58, 59, 60, 61, 62, 63, 18, 64, 65, 66, 67, 68, 69, 70, 71, 72, 73, 74, 75, 48, 49, 19] (fun i => [(19, .int .i64 i), (18, .bool (decide (¬ (amts r le s.ops bs (paidL s.ops ws (ticks bs) (xs.take i)) m).length = 0)))]) (fun i => Box bp 90 #[.int .i64 (m : Int), .int .i64 (sumI (amts r le s.ops bs (paidL s.ops ws (ticks bs) (xs.take i)) m)), .int .i64 0]) (fun i => i ≤ xs.length) (fun i => xs.length - i) 0 (Nat.zero_le _) ⟨rfl, rfl, trivial⟩ rfl ?_
    rintro i base2 hi
    focus (refine gQ ?_; refine gV ?_; (iterate 2 refine gM ?_); refine gL rfl rfl rfl ?_; refine gC rfl rfl rfl rfl rfl ?_; refine gO ?_)
    refine gc_if_dec rfl (fun h2 => ?_) (fun h2 => ?_)
    · have hil : i < xs.length := by omega
      obtain ⟨ad, rfl, hbk, hce, _⟩ := hxcell i hil
      have hce2 := hce 2 _ rfl
      have hoi := hoat i hil
      have hps : paidL s.ops ws (ticks bs) (xs.take (i + 1)) = nextP s.ops ws (ticks bs) (paidL s.ops ws (ticks bs) (xs.take i)) xs[i] := by rw [List.take_succ_eq_append_getElem hil, paidL_snoc]
      have han : amts r le s.ops bs (paidL s.ops ws (ticks bs) (xs.take (i + 1))) m = if outE s.ops ws (ticks bs) (paidL s.ops ws (ticks bs) (xs.take i)) xs[i] = 1 ∧ xs[i].who = (m : Int) then amts r le s.ops bs (paidL s.ops ws (ticks bs) (xs.take i)) m ++ [amtOf r le s.ops bs xs[i]] else amts r le s.ops bs (paidL s.ops ws (ticks bs) (xs.take i)) m := by rw [hps, amts_next]
      have hone := @out_one s.ops ws (ticks bs) (paidL s.ops ws (ticks bs) (xs.take i)) xs[i]
      rw [← hoi] at han hone
      have hrow : (os.map (Value.int .i64))[i * 1]? = some (.int .i64 (os.getD i 0)) := by
        rw [Nat.mul_one, List.getElem?_map, List.getElem?_eq_getElem (by omega), List.getD_eq_getElem?_getD, List.getElem?_eq_getElem (by omega)]
        rfl
      have har : ∀ z ∈ amts r le s.ops bs (paidL s.ops ws (ticks bs) (xs.take i)) m, 0 ≤ z ∧ z ≤ 1000000000 := amts_range
      have hal : (amts r le s.ops bs (paidL s.ops ws (ticks bs) (xs.take i)) m).length ≤ i := by
        have h8 := amts_len r le s.ops bs (paidL s.ops ws (ticks bs) (xs.take i)) m
        have h9 := paidL_len s.ops ws (ticks bs) (xs.take i)
        rw [List.length_take] at h9
        omega
      have hav : 0 ≤ amtOf r le s.ops bs xs[i] ∧ amtOf r le s.ops bs xs[i] ≤ 1000000000 := amtV_range _ _ _ _
      have hWi := fun (L : List Res) (w' : World) (ho : 0 ≤ xs[i].op ∧ xs[i].op < s.ops.length) (s' : St w L w') => hWo L w' xs[i] ho s'
      generalize amts r le s.ops bs (paidL s.ops ws (ticks bs) (xs.take i)) m = am at han har hal
      have hsr := sumI_range har am.length (Nat.le_refl _)
      rw [List.take_length] at hsr
      by_cases hw1 : xs[i].who = (m : Int)
      · by_cases ho1 : os.getD i 0 = 1
        · rw [if_pos ⟨ho1, hw1⟩] at han
          have hop := (hone ho1).2.1
          generalize xs[i] = x at hce hce2 hav hWi hw1 han hop
          focus (refine gK ?_; refine gX ?_; refine gQ ?_; refine gB ?_; refine gV ?_; (iterate 2 refine gM ?_); apply gw_d; exact w_index (m := i) rfl rfl rfl rfl rfl hil; refine gF rfl rfl rfl ?_; apply gw_d; exact w_load_fld rfl rfl rfl (by assumption) (by assumption); refine gM ?_; refine gC rfl rfl rfl rfl rfl ?_; refine gM ?_; refine gw_guard_dec rfl rfl (fun _ => ?_) (fun _ => ?_); (iterate 2 refine gM ?_); apply gw_d; exact w_indexO (m := i) rfl rfl rfl rfl rfl (by omega) (.there (.there .here)); apply gw_d; exact w_loadO rfl rfl rfl (.there (.there .here)) (by omega) hrow; refine gC rfl rfl rfl rfl rfl ?_; refine gPt rfl rfl rfl rfl ?_; refine gO ?_; refine gc_if_dec rfl (fun _ => ?_) (fun _ => ?_); refine gV ?_; refine gM ?_; refine gO ?_; rotate_left; refine gK ?_; refine gH ?_; refine gX ?_; refine gG ?_; refine gM ?_; refine gA rfl rfl rfl rfl rfl (by omega) ?_; refine gM ?_; refine gw_nil ?_; rotate_left; (iterate 5 refine gU ?_); refine gPf rfl rfl rfl rfl ?_; refine gO ?_; refine gc_if_false rfl ?_; refine gK ?_; refine gH ?_; refine gX ?_; refine gG ?_; refine gM ?_; refine gA rfl rfl rfl rfl rfl (by omega) ?_; refine gM ?_; refine gw_nil ?_; rotate_left)
          all_goals first | (exfalso; omega) | skip
          refine gc_draw 11 (by kernel_rfl) (by kernel_rfl) ?_
          focus (apply gd_d; exact w_field rfl rfl rfl; apply gd_d; exact w_load_box rfl rfl rfl .here rfl; apply gd_d; exact w_load_boxN rfl rfl rfl (.there (.there (.there (.there .here)))) rfl; refine dM ?_; apply gd_d; exact w_load_boxN rfl rfl rfl (.there (.there (.there .here))) rfl; (iterate 2 refine dM ?_); apply gd_d; exact w_index (m := i) rfl rfl rfl rfl rfl hil; apply gd_d; exact w_load_elem rfl rfl rfl (by assumption) (by assumption) (by rfl); apply gd_d; exact w_call rfl rfl (fun w s' => hWi _ w hop s') rfl; apply gd_d; exact det_ar rfl rfl rfl rfl rfl (by omega); refine gd_nil ?_; refine gF rfl rfl rfl ?_)
          focus (skip)
          refine w_store_row (n := 1) (v := .int .i64 (sumI am + amtOf r le s.ops bs x)) (cs' := #[.int .i64 (m : Int), .int .i64 (sumI am + amtOf r le s.ops bs x), .int .i64 0]) rfl rfl rfl rfl rfl .here (by simp) (by rfl) ?_
          focus (refine gw_nil ?_; refine gH ?_; refine gX ?_; refine gG ?_; refine gM ?_; refine gA rfl rfl rfl rfl rfl (by omega) ?_; refine gM ?_; refine gw_nil ?_)
          refine gx_round (i + 1) hil (by omega) (by repeat (first | exact Keeps.refl | refine Keeps.upd rfl ?_ | refine Keeps.sets rfl ?_ | refine Keeps.havoc rfl ?_)) ⟨rfl, ?_, trivial⟩ ?_
          · rw [han]
            refine congrArg Value.bool (Eq.symm (decide_eq_true ?_))
            simp
          · rw [han, sumI_snoc]
            exact Sub.all _
        · rw [if_neg (fun h9 => ho1 h9.1)] at han
          generalize xs[i] = x at hce hce2 hav hWi hw1 han
          focus (refine gK ?_; refine gX ?_; refine gQ ?_; refine gB ?_; refine gV ?_; (iterate 2 refine gM ?_); apply gw_d; exact w_index (m := i) rfl rfl rfl rfl rfl hil; refine gF rfl rfl rfl ?_; apply gw_d; exact w_load_fld rfl rfl rfl (by assumption) (by assumption); refine gM ?_; refine gC rfl rfl rfl rfl rfl ?_; refine gM ?_; refine gw_guard_dec rfl rfl (fun _ => ?_) (fun _ => ?_); (iterate 2 refine gM ?_); apply gw_d; exact w_indexO (m := i) rfl rfl rfl rfl rfl (by omega) (.there (.there .here)); apply gw_d; exact w_loadO rfl rfl rfl (.there (.there .here)) (by omega) hrow; refine gC rfl rfl rfl rfl rfl ?_; refine gPt rfl rfl rfl rfl ?_; refine gO ?_; refine gc_if_dec rfl (fun _ => ?_) (fun _ => ?_); refine gV ?_; refine gM ?_; refine gO ?_; rotate_left; refine gK ?_; refine gH ?_; refine gX ?_; refine gG ?_; refine gM ?_; refine gA rfl rfl rfl rfl rfl (by omega) ?_; refine gM ?_; refine gw_nil ?_; rotate_left; (iterate 5 refine gU ?_); refine gPf rfl rfl rfl rfl ?_; refine gO ?_; refine gc_if_false rfl ?_; refine gK ?_; refine gH ?_; refine gX ?_; refine gG ?_; refine gM ?_; refine gA rfl rfl rfl rfl rfl (by omega) ?_; refine gM ?_; refine gw_nil ?_; rotate_left)
          all_goals first | (exfalso; omega) | skip
          refine gx_round (i + 1) hil (by omega) (by repeat (first | exact Keeps.refl | refine Keeps.upd rfl ?_ | refine Keeps.sets rfl ?_ | refine Keeps.havoc rfl ?_)) ⟨rfl, by rw [han]; rfl, trivial⟩ ?_
          rw [han]
          exact Sub.all _
      · rw [if_neg (fun h9 => hw1 h9.2)] at han
        generalize xs[i] = x at hce hce2 hav hWi hw1 han
        focus (refine gK ?_; refine gX ?_; refine gQ ?_; refine gB ?_; refine gV ?_; (iterate 2 refine gM ?_); apply gw_d; exact w_index (m := i) rfl rfl rfl rfl rfl hil; refine gF rfl rfl rfl ?_; apply gw_d; exact w_load_fld rfl rfl rfl (by assumption) (by assumption); refine gM ?_; refine gC rfl rfl rfl rfl rfl ?_; refine gM ?_; refine gw_guard_dec rfl rfl (fun _ => ?_) (fun _ => ?_); (iterate 2 refine gM ?_); rotate_left; (iterate 5 refine gU ?_); refine gPf rfl rfl rfl rfl ?_; refine gO ?_; refine gc_if_false rfl ?_; refine gK ?_; refine gH ?_; refine gX ?_; refine gG ?_; refine gM ?_; refine gA rfl rfl rfl rfl rfl (by omega) ?_; refine gM ?_; refine gw_nil ?_; rotate_left)
        all_goals first | (exfalso; omega) | skip
        refine gx_round (i + 1) hil (by omega) (by repeat (first | exact Keeps.refl | refine Keeps.upd rfl ?_ | refine Keeps.sets rfl ?_ | refine Keeps.havoc rfl ?_)) ⟨rfl, by rw [han]; rfl, trivial⟩ ?_
        rw [han]
        exact Sub.all _
    · obtain rfl : i = xs.length := by omega
      rw [List.take_length]
      have har : ∀ z ∈ amts r le s.ops bs (paidL s.ops ws (ticks bs) xs) m, 0 ≤ z ∧ z ≤ 1000000000 := amts_range
      have hal : (amts r le s.ops bs (paidL s.ops ws (ticks bs) xs) m).length ≤ xs.length := by
        have h8 := amts_len r le s.ops bs (paidL s.ops ws (ticks bs) xs) m
        have h9 := paidL_len s.ops ws (ticks bs) xs
        omega
      have hpo : payOf le m (amts r le s.ops bs (paidL s.ops ws (ticks bs) xs) m) = if (amts r le s.ops bs (paidL s.ops ws (ticks bs) xs) m).length = 0 then [] else [⟨m, sumI (amts r le s.ops bs (paidL s.ops ws (ticks bs) xs) m), max (le - sumI (amts r le s.ops bs (paidL s.ops ws (ticks bs) xs) m)) 0⟩] := rfl
      rw [hpo] at hpn
      generalize amts r le s.ops bs (paidL s.ops ws (ticks bs) xs) m = am at har hal hpn
      have hsr := sumI_range har am.length (Nat.le_refl _)
      rw [List.take_length] at hsr
      generalize payP le (amts r le s.ops bs (paidL s.ops ws (ticks bs) xs)) m = pp at hpl hpn
      focus (refine gI ?_; (iterate 2 refine gZ ?_); refine gJ ?_; refine gX ?_; refine gV ?_; refine gM ?_; refine gO ?_)
      refine gc_if_dec rfl (fun h3 => ?_) (fun h3 => ?_)
      · rw [if_neg h3] at hpn
        focus (refine gV ?_; refine gF rfl rfl rfl ?_; refine gW rfl rfl rfl (.there (.there (.there .here))) rfl ?_; refine gF rfl rfl rfl ?_; refine gW rfl rfl rfl .here rfl ?_; refine gA rfl rfl rfl rfl rfl (by omega) ?_; apply gw_d; exact w_max rfl rfl rfl rfl; refine gF rfl rfl rfl ?_)
        refine w_store_row (n := 1) (v := .int .i64 (max (le - sumI am) 0)) (cs' := #[.int .i64 (m : Int), .int .i64 (sumI am), .int .i64 (max (le - sumI am) 0)]) rfl rfl rfl rfl rfl .here (by simp) (by rfl) ?_
        focus (refine gO ?_; refine gG ?_; refine gM ?_; apply gw_d; exact w_load_boxN rfl rfl rfl .here rfl)
        refine gw_bslice1 (v := .agg #[.int .i64 (m : Int), .int .i64 (sumI am), .int .i64 (max (le - sumI am) 0)]) rfl rfl rfl rfl rfl (fun b1 => ?_)
        refine gw_append (news := encP ⟨m, sumI am, max (le - sumI am) 0⟩) rfl rfl rfl (.there (.there .here)) rfl (fun w' s' _ => ⟨⟨b1, 0, none⟩, rfl, fun j u hu => by rw [add_zero]; refine (Box.cell s'.head j).trans ?_; change (#[Value.int .i64 (m : Int), .int .i64 (sumI am), .int .i64 (max (le - sumI am) 0)] : Array Value)[j]? = some u; rw [List.getElem?_toArray]; exact hu⟩) (fun u hu => by simp only [encP, List.mem_cons, List.not_mem_nil, or_false] at hu; rcases hu with rfl | rfl | rfl <;> rfl) (by unfold maxLen; omega) (by omega) (by decide) rfl (fun A2 c2 => ?_)
        focus (refine gM ?_; refine gw_nil ?_; refine gH ?_; refine gX ?_; refine gG ?_; refine gM ?_; refine gA rfl rfl rfl rfl rfl (by omega) ?_; refine gM ?_; refine gw_nil ?_)
        refine gx_round (m + 1, A2, c2) hml (by dsimp only; omega) (by repeat (first | exact Keeps.refl | refine Keeps.upd rfl ?_ | refine Keeps.sets rfl ?_ | refine Keeps.havoc rfl ?_)) ⟨rfl, by rw [hpn, List.length_append]; rfl, trivial⟩ ?_
        dsimp only
        rw [hpn, List.flatMap_append, List.length_append]
        simp only [List.flatMap_cons, List.flatMap_nil, List.append_nil]
        exact .cons .here (.cons (.there (.there .here)) (.cons (.there (.there .here)) (.cons (.there (.there .here)) .nil)))
      · rw [if_pos (Classical.not_not.1 h3), List.append_nil] at hpn
        focus (refine gK ?_; refine gH ?_; refine gX ?_; refine gG ?_; refine gM ?_; refine gA rfl rfl rfl rfl rfl (by omega) ?_; refine gM ?_; refine gw_nil ?_)
        refine gx_round (m + 1, A, c) hml (by dsimp only; omega) (by repeat (first | exact Keeps.refl | refine Keeps.upd rfl ?_ | refine Keeps.sets rfl ?_ | refine Keeps.havoc rfl ?_)) ⟨rfl, by rw [hpn]; rfl, trivial⟩ ?_
        dsimp only
        rw [hpn]
        exact .cons (.there .here) Sub.tail
  · obtain rfl : m = ws.length := by omega
    focus (refine gI ?_; (iterate 2 refine gZ ?_); refine gJ ?_; refine gX ?_; refine gV ?_; (iterate 3 refine gM ?_); refine gO ?_; refine gR ?_)
    exact gx_ret2 (u := .slice _ _ _) (v := .int _ _) rfl rfl rfl (fun w' s' => ⟨(A, c), rfl, (s'.sub (.cons .here .nil)).sep⟩)
end
theorem lawWagePays_ok (w : World) (hL : Lay w) (v : Value) (c : Cse) (r le : Int) (hc : CaseV w v c) : Ok Tryz.prog 4 [v, .agg #[.int .i64 r, .int .i64 le]].toArray w fun r _ => r = .bool true := by
  have hc' := hc
  obtain ⟨v0, v1, v2, v3, v4, v5, v6, vb, vw, vx, rfl, hs, hb, hw, hx⟩ := hc
  have hA : ∀ (L : List Res) (w' : World), St w L w' → Ok Tryz.prog 13 [].toArray w' fun r _ => r = .bool true := fun L w' s => awake57_ok w' (hL.later s)
  have hF : ∀ (L : List Res) (w' : World), St w L w' → OkM Tryz.prog 12 [.agg #[v0, v1, v2, v3, v4, v5, v6, vb, vw, vx]].toArray w' (fun b : Bool => .bool b) (fun _ => []) := fun L w' s' => few57_ok w' _ c (hc'.later s')
  refine ok_enter Tryz.func4 rfl Tryz.ntmps4 rfl ?_
  focus (refine gV ?_; refine gw_boxd (v := .agg _) rfl rfl (fun _ => ?_); refine gw_boxd (v := .agg _) rfl rfl (fun _ => ?_); refine gM ?_; refine gO ?_; refine gQ ?_; refine gV ?_; apply gw_d; exact w_load_boxN rfl rfl rfl (.there .here) rfl)
  rename_i bC bT
  focus (skip)
  refine gw_callm rfl (hF _) rfl (fun b => ?_)
  focus (apply gw_d; exact det_not_ rfl rfl rfl; refine gO ?_)
  refine gc_if rfl (fun _ => ?_) (fun _ => ?_)
  · focus (refine gV ?_; apply gw_d; exact w_call rfl rfl (hA _) rfl; refine gM ?_; refine gO ?_; refine gR ?_; refine gT ?_)
    refine gx_ret1 (v := .bool _) rfl rfl (fun _ _ => ?_)
    rfl
  by_cases he : paysE r le (opCheckE c.sty plE) c.bs c.ws c.xs.length = 0
  · have hP := fun (L : List Res) (w' : World) (s' : St w L w') => cPays_ok (r := r) (le := le) (hL.later s') (StyV.later s' hs) (hb.later s') (hw.later s') (hx.later s') he
    have hR := fun (L : List Res) (w' : World) (s' : St w L w') => rPays_ok (r := r) (le := le) (StyV.later s' hs) (hb.later s') (hw.later s') (hx.later s') he
    obtain ⟨h1, h2⟩ := pays_zero he
    obtain ⟨h3, h4⟩ := judge_zero h2
    obtain ⟨hr, hle⟩ := tar_zero h1
    have h12 := skill_len h3.skill
    have hin := pays_in (r := r) (l := c.sty.ops) (bs := c.bs) hle h12 h4
    generalize paysL r le c.sty.ops c.bs c.ws c.xs = pl at hP hR hin
    have hS : ∀ (L : List Res) (w' : World) (A B : Option Addr) (a b : Nat), St w (Own B pl.length b 90 3 (pl.flatMap encP) :: Own A pl.length a 90 3 (pl.flatMap encP) :: L) w' → Ok Tryz.prog 16 [.slice A pl.length a, .slice B pl.length b].toArray w' fun r _ => r = .bool true := fun L w' A B a b s' => by
      have := same57_ok w' _ _ pl pl (Sl.own (R := rPay) (enc := encP) s' (.there .here) rfl (fun q hq => pay_rep hle (hin q hq))) (Sl.own (R := rPay) (enc := encP) s' .here rfl (fun q hq => pay_rep hle (hin q hq)))
      simpa using this
    focus (refine gK ?_; refine gX ?_; refine gV ?_; refine gF rfl rfl rfl ?_; apply gw_d; exact w_load_part rfl rfl rfl (.there .here) rfl rfl; refine gF rfl rfl rfl ?_; refine gW rfl rfl rfl (.there .here) rfl ?_; refine gF rfl rfl rfl ?_; refine gW rfl rfl rfl (.there .here) rfl ?_; refine gF rfl rfl rfl ?_; refine gW rfl rfl rfl (.there .here) rfl ?_; apply gw_d; exact w_load_boxN rfl rfl rfl .here rfl)
    refine gw_callm rfl (hP _) rfl (fun x => ?_)
    obtain ⟨A, a⟩ := x
    focus (refine gM ?_; apply gw_d; exact det_extract rfl rfl rfl (by conv => (lhs; whnf)); apply gw_d; exact det_extract rfl rfl rfl (by conv => (lhs; whnf)); (iterate 2 refine gM ?_); refine gN ?_; refine gF rfl rfl rfl ?_; apply gw_d; exact w_load_part rfl rfl rfl (.there (.there .here)) rfl rfl; refine gF rfl rfl rfl ?_; refine gW rfl rfl rfl (.there (.there .here)) rfl ?_; refine gF rfl rfl rfl ?_; refine gW rfl rfl rfl (.there (.there .here)) rfl ?_; refine gF rfl rfl rfl ?_; refine gW rfl rfl rfl (.there (.there .here)) rfl ?_; apply gw_d; exact w_load_boxN rfl rfl rfl (.there .here) rfl)
    refine gw_callm rfl (hR _) rfl (fun x => ?_)
    obtain ⟨B, b⟩ := x
    focus (refine gM ?_; apply gw_d; exact det_extract rfl rfl rfl (by conv => (lhs; whnf)); apply gw_d; exact det_extract rfl rfl rfl (by conv => (lhs; whnf)); (iterate 2 refine gM ?_); refine gN ?_; (iterate 2 refine gM ?_); refine gC rfl rfl rfl rfl rfl ?_; (iterate 3 refine gM ?_); apply gw_d; exact w_call rfl rfl (fun w' s' => hS _ w' A B a b s') rfl; refine gPt rfl rfl rfl rfl ?_; refine gM ?_; apply gw_d; exact w_call rfl rfl (hA _) rfl; refine gPt rfl rfl rfl rfl ?_; refine gM ?_; refine gO ?_; refine gR ?_)
    refine gx_ret1 (v := .bool _) rfl rfl (fun _ _ => ?_)
    rfl
  · have hP := fun (L : List Res) (w' : World) (s' : St w L w') => cPays_bad (r := r) (le := le) (hL.later s') (StyV.later s' hs) (hb.later s') (hw.later s') (hx.later s') he
    have hR := fun (L : List Res) (w' : World) (s' : St w L w') => rPays_bad (r := r) (le := le) (StyV.later s' hs) (hb.later s') (hw.later s') (hx.later s') he
    generalize paysE r le (opCheckE c.sty plE) c.bs c.ws c.xs.length = e at hP hR
    have hS : ∀ (L : List Res) (w' : World), St w L w' → Ok Tryz.prog 16 [.slice none 0 0, .slice none 0 0].toArray w' fun r _ => r = .bool true := fun L w' _ => by
      have := same57_ok w' _ _ [] [] (Sl.nil rPay w') (Sl.nil rPay w')
      simpa using this
    focus (refine gK ?_; refine gX ?_; refine gV ?_; refine gF rfl rfl rfl ?_; apply gw_d; exact w_load_part rfl rfl rfl (.there .here) rfl rfl; refine gF rfl rfl rfl ?_; refine gW rfl rfl rfl (.there .here) rfl ?_; refine gF rfl rfl rfl ?_; refine gW rfl rfl rfl (.there .here) rfl ?_; refine gF rfl rfl rfl ?_; refine gW rfl rfl rfl (.there .here) rfl ?_; apply gw_d; exact w_load_boxN rfl rfl rfl .here rfl; apply gw_d; exact w_call rfl rfl (hP _) rfl; refine gM ?_; apply gw_d; exact det_extract rfl rfl rfl (by conv => (lhs; whnf)); apply gw_d; exact det_extract rfl rfl rfl (by conv => (lhs; whnf)); (iterate 2 refine gM ?_); refine gN ?_; refine gF rfl rfl rfl ?_; apply gw_d; exact w_load_part rfl rfl rfl (.there .here) rfl rfl; refine gF rfl rfl rfl ?_; refine gW rfl rfl rfl (.there .here) rfl ?_; refine gF rfl rfl rfl ?_; refine gW rfl rfl rfl (.there .here) rfl ?_; refine gF rfl rfl rfl ?_; refine gW rfl rfl rfl (.there .here) rfl ?_; apply gw_d; exact w_load_boxN rfl rfl rfl .here rfl; apply gw_d; exact w_call rfl rfl (hR _) rfl; refine gM ?_; apply gw_d; exact det_extract rfl rfl rfl (by conv => (lhs; whnf)); apply gw_d; exact det_extract rfl rfl rfl (by conv => (lhs; whnf)); (iterate 2 refine gM ?_); refine gN ?_; (iterate 2 refine gM ?_); refine gC rfl rfl rfl rfl rfl ?_; refine gM ?_; refine gw_guard_dec rfl rfl (fun _ => ?_) (fun _ => ?_); (iterate 2 refine gM ?_); apply gw_d; exact w_call rfl rfl (hS _) rfl; refine gPt rfl rfl rfl rfl ?_; refine gM ?_; apply gw_d; exact w_call rfl rfl (hA _) rfl; refine gPt rfl rfl rfl rfl ?_; refine gM ?_; refine gO ?_; refine gR ?_; rotate_left; (iterate 3 refine gU ?_); refine gPf rfl rfl rfl rfl ?_; refine gM ?_; refine gU ?_; refine gPf rfl rfl rfl rfl ?_; refine gM ?_; refine gO ?_; refine gR ?_; rotate_left)
    all_goals first | exact absurd rfl (by assumption) | skip
    refine gx_ret1 (v := .bool _) rfl rfl (fun _ _ => ?_)
    rfl
open Go.ChangeShapes Go.WideShapes Go.ChangeAt Go.RowKit
section
variable {H : Type} {enc : TypeId × Value → H} {w : World} {base : Nat} {spare : Nat → Bool} {held : Bool}
theorem tariff_trod {n : Nat} {cs : List Value} {x : DataW H × List MemPlace} (hl : cs.length = 2) (h : DataW.trod enc Tryz.prog w base spare held n 36 cs = some x) : ∃ r l, cs = [.int .i64 r, .int .i64 l] ∧ inI64 r ∧ inI64 l := by
  match cs, hl with
  | [c0, c1], _ =>
    obtain ⟨_, _, h0⟩ := field_trod (i := 0) (ft := 3) h (by kernel_rfl) rfl
    obtain ⟨_, _, h1⟩ := field_trod (i := 1) (ft := 3) h (by kernel_rfl) rfl
    obtain ⟨i0, rfl, hi0⟩ := int_trod (by kernel_rfl) h0
    obtain ⟨i1, rfl, hi1⟩ := int_trod (by kernel_rfl) h1
    exact ⟨i0, i1, rfl, hi0, hi1⟩
theorem tariff_Trod {v : Value} {d : DataW H} {p : List MemPlace} {cs : Array Value} (hv : v = .agg cs) (hn : cs.size = 2) (h : DataW.Trod enc Tryz.prog w base spare held 36 v d p) : ∃ r l, v = .agg #[.int .i64 r, .int .i64 l] ∧ inI64 r ∧ inI64 l := by
  subst hv
  obtain ⟨fuel, hf⟩ := h
  obtain ⟨r, l, h1, h2⟩ := tariff_trod (cs := cs.toList) (by simpa using hn) hf
  refine ⟨r, l, ?_, h2⟩
  congr 1
  apply Array.ext'
  exact h1
end
theorem gTab : Tryz.prog.globalNamed "garment/wage.bounds" = some 0 := by kernel_rfl
theorem gTabType : (Tryz.prog.globals[0]?).map (·.type) = some 76 := by kernel_rfl
theorem cellsTab : Tryz.prog.cellsOf 76 = 2 := by kernel_rfl
theorem cellsInt : Tryz.prog.cellsOf 3 = 1 := by kernel_rfl
/-- What the row's list gives. -/
theorem lay_of {W : World} (h : laidMetH Tryz.prog [("garment/wage.bounds", .agg [.lit (.int .i64 100000), .lit (.int .i64 1073741824)])] W) : Lay W := by
  have ht : Lib.TabIs Tryz.prog W "garment/wage.bounds" .i64 [100000, 1073741824] := Lib.tabIs_of_head (rest := []) gTab gTabType (by kernel_rfl) (by kernel_rfl) cellsInt cellsTab h
  have c0 : W.cell? ⟨0, 0, none⟩ = some (.int .i64 100000) := ht.cell gTab 0 (by decide)
  have c1 : W.cell? ⟨0, 1, none⟩ = some (.int .i64 1073741824) := ht.cell gTab 1 (by decide)
  exact ⟨cell_lt c0, c0, c1⟩
open Go.ChangeShapes Go.WideShapes Go.ChangeAt Go.RowKit
section
variable {H : Type} {enc : TypeId × Value → H} {w : World} {base : Nat} {spare : Nat → Bool} {held : Bool}
theorem ints23 {n : Nat} {c : Value} {x : DataW H × List MemPlace} (h : DataW.trod enc Tryz.prog w base spare held n 23 [c] = some x) : ∃ l, Sl rInt w w.heap.size c l :=
  ints_trod (e := 3) (by kernel_rfl) (by kernel_rfl) (by kernel_rfl) h
theorem op_trod {n : Nat} {cs : List Value} {x : DataW H × List MemPlace} (hl : cs.length = 5) (h : DataW.trod enc Tryz.prog w base spare held n 55 cs = some x) : ∃ o, rOp.rep w (fun b => b < w.heap.size) o cs := by
  match cs, hl with
  | [c0, c1, c2, c3, c4], _ =>
    obtain ⟨_, _, h0⟩ := field_trod (i := 0) (ft := 9) h (by kernel_rfl) rfl
    obtain ⟨_, _, h1⟩ := field_trod (i := 1) (ft := 3) h (by kernel_rfl) rfl
    obtain ⟨_, _, h2⟩ := field_trod (i := 2) (ft := 3) h (by kernel_rfl) rfl
    obtain ⟨_, _, h3⟩ := field_trod (i := 3) (ft := 23) h (by kernel_rfl) rfl
    obtain ⟨_, _, h4⟩ := field_trod (i := 4) (ft := 23) h (by kernel_rfl) rfl
    obtain ⟨s, rfl, hs⟩ := str_trod (by kernel_rfl) h0
    obtain ⟨i1, rfl, hi1⟩ := int_trod (by kernel_rfl) h1
    obtain ⟨i2, rfl, hi2⟩ := int_trod (by kernel_rfl) h2
    obtain ⟨la, ha⟩ := ints23 h3
    obtain ⟨lu, hu⟩ := ints23 h4
    obtain ⟨Aa, ca, rfl, _⟩ := len_small ha
    obtain ⟨Au, cu, rfl, _⟩ := len_small hu
    exact ⟨⟨s, i1, i2, la, lu⟩, Aa, ca, Au, cu, rfl, ⟨hs, hi1, hi2⟩, ha, hu⟩
theorem ops_trod {n : Nat} {c : Value} {x : DataW H × List MemPlace} (h : DataW.trod enc Tryz.prog w base spare held n 27 [c] = some x) : ∃ l, Sl rOp w w.heap.size c l :=
  sl_of_trod (R := rOp) (e := 55) (by kernel_rfl) (by kernel_rfl) (by decide) (fun _ _ _ hl hy => op_trod hl hy) h
end
open Go.ChangeShapes Go.WideShapes Go.ChangeAt Go.RowKit
section
variable {H : Type} {enc : TypeId × Value → H} {P : Program} {w : World} {base : Nat} {spare : Nat → Bool} {held : Bool}
/-- The type of a field of k cells, at its place. -/
def fieldK (P : Program) (e : TypeId) (i o k : Nat) : Option TypeId := match P.underlying e with
  | some (.struct fs) => match fs[i]? with
    | some f => bif Nat.beq f.offset o && Nat.beq (P.cellsOf f.type) k then some f.type else none
    | none => none
  | _ => none
theorem fieldK_trod {e ft : TypeId} {i o k n : Nat} {cs ds : List Value} {x : DataW H × List MemPlace} (h : DataW.trod enc P w base spare held n e cs = some x) (hf : fieldK P e i o k = some ft) (hc : (cs.drop o).take k = ds) :
    ∃ m y, DataW.trod enc P w base spare held m ft ds = some y := by
  unfold fieldK at hf
  split at hf
  · rename_i fs hu
    split at hf
    · rename_i f hfi
      cases hb : (Nat.beq f.offset o && Nat.beq (P.cellsOf f.type) k) with
      | false => rw [hb] at hf; cases hf
      | true =>
        rw [hb] at hf
        simp only [cond_true, Option.some.injEq] at hf
        subst hf
        rw [Bool.and_eq_true] at hb
        have h1 : f.offset = o := Nat.eq_of_beq_eq_true hb.1
        have h2 : P.cellsOf f.type = k := Nat.eq_of_beq_eq_true hb.2
        obtain ⟨xs, m, _, _, _, hlen, hg⟩ := DataW.trod_struct hu h
        have h3 := hg i f hfi
        have hi : i < fs.size := (Array.getElem?_eq_some_iff.1 hfi).1
        rw [h1, h2, List.getElem?_eq_getElem (by omega), hc] at h3
        exact ⟨m, _, h3⟩
    · cases hf
  · cases hf
end
section
variable {H : Type} {enc : TypeId × Value → H} {w : World} {base : Nat} {spare : Nat → Bool} {held : Bool}
theorem strs_trod {n : Nat} {c : Value} {x : DataW H × List MemPlace} (h : DataW.trod enc Tryz.prog w base spare held n 22 [c] = some x) : ∃ l, Sl rStr w w.heap.size c l :=
  sl_of_trod (R := rStr) (e := 9) (by kernel_rfl) (by kernel_rfl) (by decide) (fun _ cs _ hl hy => by
    match cs, hl with
    | [c0], _ =>
      obtain ⟨s, rfl, hs⟩ := str_trod (by kernel_rfl) hy
      exact ⟨s, rfl, hs⟩) h
theorem spots_trod {n : Nat} {c : Value} {x : DataW H × List MemPlace} (h : DataW.trod enc Tryz.prog w base spare held n 107 [c] = some x) : ∃ l, Sl rSpot w w.heap.size c l :=
  sl_of_trod (R := rSpot) (e := 106) (by kernel_rfl) (by kernel_rfl) (by decide) (fun _ cs _ hl hy => by
    match cs, hl with
    | [c0, c1], _ =>
      obtain ⟨_, _, h0⟩ := field_trod (i := 0) (ft := 3) hy (by kernel_rfl) rfl
      obtain ⟨_, _, h1⟩ := field_trod (i := 1) (ft := 3) hy (by kernel_rfl) rfl
      obtain ⟨i0, rfl, hi0⟩ := int_trod (by kernel_rfl) h0
      obtain ⟨i1, rfl, hi1⟩ := int_trod (by kernel_rfl) h1
      exact ⟨(i0, i1), rfl, hi0, hi1⟩) h
theorem notches_trod {n : Nat} {c : Value} {x : DataW H × List MemPlace} (h : DataW.trod enc Tryz.prog w base spare held n 111 [c] = some x) : ∃ l, Sl rSpot w w.heap.size c l :=
  sl_of_trod (R := rSpot) (e := 183) (by kernel_rfl) (by kernel_rfl) (by decide) (fun _ cs _ hl hy => by
    match cs, hl with
    | [c0, c1], _ =>
      obtain ⟨_, _, h0⟩ := field_trod (i := 0) (ft := 3) hy (by kernel_rfl) rfl
      obtain ⟨_, _, h1⟩ := field_trod (i := 1) (ft := 3) hy (by kernel_rfl) rfl
      obtain ⟨i0, rfl, hi0⟩ := int_trod (by kernel_rfl) h0
      obtain ⟨i1, rfl, hi1⟩ := int_trod (by kernel_rfl) h1
      exact ⟨(i0, i1), rfl, hi0, hi1⟩) h
theorem edges_trod {n : Nat} {c : Value} {x : DataW H × List MemPlace} (h : DataW.trod enc Tryz.prog w base spare held n 110 [c] = some x) : ∃ l, Sl rEdge w w.heap.size c l :=
  sl_of_trod (R := rEdge) (e := 109) (by kernel_rfl) (by kernel_rfl) (by decide) (fun _ cs _ hl hy => by
    match cs, hl with
    | [c0, c1], _ =>
      obtain ⟨_, _, h0⟩ := field_trod (i := 0) (ft := 9) hy (by kernel_rfl) rfl
      obtain ⟨_, _, h1⟩ := field_trod (i := 1) (ft := 107) hy (by kernel_rfl) rfl
      obtain ⟨s, rfl, hs⟩ := str_trod (by kernel_rfl) h0
      obtain ⟨l, hl⟩ := spots_trod h1
      exact ⟨(s, l), c1, rfl, hs, hl⟩) h
theorem piece_trod {n : Nat} {cs : List Value} {x : DataW H × List MemPlace} (hl : cs.length = 7) (h : DataW.trod enc Tryz.prog w base spare held n 113 cs = some x) : ∃ o, rPiece.rep w (fun b => b < w.heap.size) o cs := by
  match cs, hl with
  | [c0, c1, c2, c3, c4, c5, c6], _ =>
    obtain ⟨_, _, h0⟩ := field_trod (i := 0) (ft := 9) h (by kernel_rfl) rfl
    obtain ⟨_, _, h1⟩ := field_trod (i := 1) (ft := 110) h (by kernel_rfl) rfl
    obtain ⟨_, _, h2⟩ := field_trod (i := 2) (ft := 3) h (by kernel_rfl) rfl
    obtain ⟨_, _, h3⟩ := field_trod (i := 3) (ft := 111) h (by kernel_rfl) rfl
    obtain ⟨_, _, h4⟩ := field_trod (i := 4) (ft := 107) h (by kernel_rfl) rfl
    obtain ⟨_, _, h5⟩ := field_trod (i := 5) (ft := 23) h (by kernel_rfl) rfl
    obtain ⟨_, _, h6⟩ := field_trod (i := 6) (ft := 4) h (by kernel_rfl) rfl
    obtain ⟨s, rfl, hs⟩ := str_trod (by kernel_rfl) h0
    obtain ⟨le, he⟩ := edges_trod h1
    obtain ⟨i2, rfl, hi2⟩ := int_trod (by kernel_rfl) h2
    obtain ⟨ln, hn⟩ := notches_trod h3
    obtain ⟨lc, hc⟩ := spots_trod h4
    obtain ⟨lw, hw⟩ := ints23 h5
    obtain ⟨b6, rfl⟩ := bool_trod (by kernel_rfl) h6
    obtain ⟨Ae, ce, rfl, _⟩ := len_small he
    obtain ⟨An, cn, rfl, _⟩ := len_small hn
    obtain ⟨Ac, cc, rfl, _⟩ := len_small hc
    obtain ⟨Aw, cw, rfl, _⟩ := len_small hw
    exact ⟨⟨s, le, i2, ln, lc, lw, b6⟩, Ae, ce, An, cn, Ac, cc, Aw, cw, rfl, ⟨hs, hi2⟩, he, hn, hc, hw⟩
theorem use_trod {n : Nat} {cs : List Value} {x : DataW H × List MemPlace} (hl : cs.length = 3) (h : DataW.trod enc Tryz.prog w base spare held n 115 cs = some x) : ∃ o, rUse.rep w (fun b => b < w.heap.size) o cs := by
  match cs, hl with
  | [c0, c1, c2], _ =>
    obtain ⟨_, _, h0⟩ := field_trod (i := 0) (ft := 3) h (by kernel_rfl) rfl
    obtain ⟨_, _, h1⟩ := field_trod (i := 1) (ft := 3) h (by kernel_rfl) rfl
    obtain ⟨_, _, h2⟩ := field_trod (i := 2) (ft := 4) h (by kernel_rfl) rfl
    obtain ⟨i0, rfl, hi0⟩ := int_trod (by kernel_rfl) h0
    obtain ⟨i1, rfl, hi1⟩ := int_trod (by kernel_rfl) h1
    obtain ⟨b2, rfl⟩ := bool_trod (by kernel_rfl) h2
    exact ⟨(i0, i1, b2), rfl, hi0, hi1⟩
theorem seam_trod {n : Nat} {cs : List Value} {x : DataW H × List MemPlace} (hl : cs.length = 6) (h : DataW.trod enc Tryz.prog w base spare held n 163 cs = some x) : ∃ o, rSeam.rep w (fun b => b < w.heap.size) o cs := by
  match cs, hl with
  | [c0, c1, c2, c3, c4, c5], _ =>
    obtain ⟨_, _, h0⟩ := field_trod (i := 0) (ft := 3) h (by kernel_rfl) rfl
    obtain ⟨_, _, h1⟩ := field_trod (i := 1) (ft := 3) h (by kernel_rfl) rfl
    obtain ⟨_, _, h2⟩ := field_trod (i := 2) (ft := 3) h (by kernel_rfl) rfl
    obtain ⟨_, _, h3⟩ := field_trod (i := 3) (ft := 3) h (by kernel_rfl) rfl
    obtain ⟨_, _, h4⟩ := field_trod (i := 4) (ft := 4) h (by kernel_rfl) rfl
    obtain ⟨_, _, h5⟩ := field_trod (i := 5) (ft := 3) h (by kernel_rfl) rfl
    obtain ⟨i0, rfl, hi0⟩ := int_trod (by kernel_rfl) h0
    obtain ⟨i1, rfl, hi1⟩ := int_trod (by kernel_rfl) h1
    obtain ⟨i2, rfl, hi2⟩ := int_trod (by kernel_rfl) h2
    obtain ⟨i3, rfl, hi3⟩ := int_trod (by kernel_rfl) h3
    obtain ⟨b4, rfl⟩ := bool_trod (by kernel_rfl) h4
    obtain ⟨i5, rfl, hi5⟩ := int_trod (by kernel_rfl) h5
    exact ⟨(i0, i1, i2, i3, b4, i5), rfl⟩
theorem sty_trod {n : Nat} {cs : List Value} {x : DataW H × List MemPlace} (hl : cs.length = 7) (h : DataW.trod enc Tryz.prog w base spare held n 29 cs = some x) : ∃ s, StyV w w.heap.size (.agg cs.toArray) s := by
  match cs, hl with
  | [c0, c1, c2, c3, c4, c5, c6], _ =>
    obtain ⟨_, _, h0⟩ := field_trod (i := 0) (ft := 9) h (by kernel_rfl) rfl
    obtain ⟨_, _, h1⟩ := field_trod (i := 1) (ft := 22) h (by kernel_rfl) rfl
    obtain ⟨_, _, h2⟩ := field_trod (i := 2) (ft := 23) h (by kernel_rfl) rfl
    obtain ⟨_, _, h3⟩ := field_trod (i := 3) (ft := 24) h (by kernel_rfl) rfl
    obtain ⟨_, _, h4⟩ := field_trod (i := 4) (ft := 25) h (by kernel_rfl) rfl
    obtain ⟨_, _, h5⟩ := field_trod (i := 5) (ft := 26) h (by kernel_rfl) rfl
    obtain ⟨_, _, h6⟩ := field_trod (i := 6) (ft := 27) h (by kernel_rfl) rfl
    obtain ⟨s, rfl, hs⟩ := str_trod (by kernel_rfl) h0
    obtain ⟨l1, k1⟩ := strs_trod h1
    obtain ⟨l2, k2⟩ := ints23 h2
    obtain ⟨l3, k3⟩ := sl_of_trod (R := rPiece) (e := 113) (by kernel_rfl) (by kernel_rfl) (by decide) (fun _ _ _ hl hy => piece_trod hl hy) h3
    obtain ⟨l4, k4⟩ := sl_of_trod (R := rUse) (e := 115) (by kernel_rfl) (by kernel_rfl) (by decide) (fun _ _ _ hl hy => use_trod hl hy) h4
    obtain ⟨l5, k5⟩ := sl_of_trod (R := rSeam) (e := 163) (by kernel_rfl) (by kernel_rfl) (by decide) (fun _ _ _ hl hy => seam_trod hl hy) h5
    obtain ⟨l6, k6⟩ := ops_trod h6
    obtain ⟨A1, d1, rfl, _⟩ := len_small k1
    obtain ⟨A2, d2, rfl, _⟩ := len_small k2
    obtain ⟨A3, d3, rfl, _⟩ := len_small k3
    obtain ⟨A4, d4, rfl, _⟩ := len_small k4
    obtain ⟨A5, d5, rfl, _⟩ := len_small k5
    obtain ⟨A6, d6, rfl, _⟩ := len_small k6
    exact ⟨⟨s, l1, l2, l3, l4, l5, l6⟩, A1, d1, A2, d2, A3, d3, A4, d4, A5, d5, A6, d6, rfl, hs, k1, k2, k3, k4, k5, k6⟩
end
open Go.ChangeShapes Go.WideShapes Go.ChangeAt Go.RowKit
section
variable {H : Type} {enc : TypeId × Value → H} {w : World} {base : Nat} {spare : Nat → Bool} {held : Bool}
theorem bun_trod {n : Nat} {cs : List Value} {x : DataW H × List MemPlace} (hl : cs.length = 6) (h : DataW.trod enc Tryz.prog w base spare held n 44 cs = some x) : ∃ o, rBun.rep w (fun b => b < w.heap.size) o cs := by
  match cs, hl with
  | [c0, c1, c2, c3, c4, c5], _ =>
    obtain ⟨_, _, h0⟩ := field_trod (i := 0) (ft := 3) h (by kernel_rfl) rfl
    obtain ⟨_, _, h1⟩ := field_trod (i := 1) (ft := 3) h (by kernel_rfl) rfl
    obtain ⟨_, _, h2⟩ := field_trod (i := 2) (ft := 3) h (by kernel_rfl) rfl
    obtain ⟨_, _, h3⟩ := field_trod (i := 3) (ft := 3) h (by kernel_rfl) rfl
    obtain ⟨_, _, h4⟩ := field_trod (i := 4) (ft := 3) h (by kernel_rfl) rfl
    obtain ⟨_, _, h5⟩ := field_trod (i := 5) (ft := 3) h (by kernel_rfl) rfl
    obtain ⟨i0, rfl, hi0⟩ := int_trod (by kernel_rfl) h0
    obtain ⟨i1, rfl, hi1⟩ := int_trod (by kernel_rfl) h1
    obtain ⟨i2, rfl, hi2⟩ := int_trod (by kernel_rfl) h2
    obtain ⟨i3, rfl, hi3⟩ := int_trod (by kernel_rfl) h3
    obtain ⟨i4, rfl, hi4⟩ := int_trod (by kernel_rfl) h4
    obtain ⟨i5, rfl, hi5⟩ := int_trod (by kernel_rfl) h5
    exact ⟨⟨i0, i1, i2, i3, i4, i5⟩, rfl, hi0, hi4, hi5⟩
theorem wrk_trod {n : Nat} {cs : List Value} {x : DataW H × List MemPlace} (hl : cs.length = 2) (h : DataW.trod enc Tryz.prog w base spare held n 85 cs = some x) : ∃ o, rWrk.rep w (fun b => b < w.heap.size) o cs := by
  match cs, hl with
  | [c0, c1], _ =>
    obtain ⟨_, _, h0⟩ := field_trod (i := 0) (ft := 9) h (by kernel_rfl) rfl
    obtain ⟨_, _, h1⟩ := field_trod (i := 1) (ft := 23) h (by kernel_rfl) rfl
    obtain ⟨s, rfl, hs⟩ := str_trod (by kernel_rfl) h0
    obtain ⟨l1, k1⟩ := ints23 h1
    obtain ⟨A1, d1, rfl, _⟩ := len_small k1
    exact ⟨⟨s, l1⟩, A1, d1, rfl, hs, k1⟩
theorem scn_trod {n : Nat} {cs : List Value} {x : DataW H × List MemPlace} (hl : cs.length = 4) (h : DataW.trod enc Tryz.prog w base spare held n 51 cs = some x) : ∃ o, rScn.rep w (fun b => b < w.heap.size) o cs := by
  match cs, hl with
  | [c0, c1, c2, c3], _ =>
    obtain ⟨_, _, h0⟩ := field_trod (i := 0) (ft := 3) h (by kernel_rfl) rfl
    obtain ⟨_, _, h1⟩ := field_trod (i := 1) (ft := 3) h (by kernel_rfl) rfl
    obtain ⟨_, _, h2⟩ := field_trod (i := 2) (ft := 3) h (by kernel_rfl) rfl
    obtain ⟨_, _, h3⟩ := field_trod (i := 3) (ft := 3) h (by kernel_rfl) rfl
    obtain ⟨i0, rfl, hi0⟩ := int_trod (by kernel_rfl) h0
    obtain ⟨i1, rfl, hi1⟩ := int_trod (by kernel_rfl) h1
    obtain ⟨i2, rfl, hi2⟩ := int_trod (by kernel_rfl) h2
    obtain ⟨i3, rfl, hi3⟩ := int_trod (by kernel_rfl) h3
    exact ⟨⟨i0, i1, i2, i3⟩, rfl, hi0, hi1, hi2, hi3⟩
theorem case_trod {n : Nat} {cs : List Value} {x : DataW H × List MemPlace} (hl : cs.length = 10) (h : DataW.trod enc Tryz.prog w base spare held n 34 cs = some x) : ∃ c, CaseV w (.agg cs.toArray) c := by
  match cs, hl with
  | [c0, c1, c2, c3, c4, c5, c6, c7, c8, c9], _ =>
    obtain ⟨_, _, h0⟩ := fieldK_trod (i := 0) (o := 0) (k := 7) (ft := 29) h (by kernel_rfl) rfl
    obtain ⟨_, _, h1⟩ := fieldK_trod (i := 1) (o := 7) (k := 1) (ft := 30) h (by kernel_rfl) rfl
    obtain ⟨_, _, h2⟩ := fieldK_trod (i := 2) (o := 8) (k := 1) (ft := 31) h (by kernel_rfl) rfl
    obtain ⟨_, _, h3⟩ := fieldK_trod (i := 3) (o := 9) (k := 1) (ft := 32) h (by kernel_rfl) rfl
    obtain ⟨s, hs⟩ := sty_trod rfl h0
    obtain ⟨l1, k1⟩ := sl_of_trod (R := rBun) (e := 44) (by kernel_rfl) (by kernel_rfl) (by decide) (fun _ _ _ hl hy => bun_trod hl hy) h1
    obtain ⟨l2, k2⟩ := sl_of_trod (R := rWrk) (e := 85) (by kernel_rfl) (by kernel_rfl) (by decide) (fun _ _ _ hl hy => wrk_trod hl hy) h2
    obtain ⟨l3, k3⟩ := sl_of_trod (R := rScn) (e := 51) (by kernel_rfl) (by kernel_rfl) (by decide) (fun _ _ _ hl hy => scn_trod hl hy) h3
    exact ⟨⟨s, l1, l2, l3⟩, c0, c1, c2, c3, c4, c5, c6, c7, c8, c9, rfl, hs, k1, k2, k3⟩
theorem case_Trod {v : Value} {d : DataW H} {p : List MemPlace} {cs : Array Value} (hv : v = .agg cs) (hn : cs.size = 10) (h : DataW.Trod enc Tryz.prog w base spare held 34 v d p) : ∃ c, CaseV w v c := by
  subst hv
  obtain ⟨fuel, hf⟩ := h
  exact case_trod (cs := cs.toList) (by simpa using hn) hf
end
end Go.Proofs.YtckhibfbdnoigaaGreatDoor
