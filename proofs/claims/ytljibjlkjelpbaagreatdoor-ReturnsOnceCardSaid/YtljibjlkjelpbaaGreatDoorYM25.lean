/- The law ReturnsOnce: the walk. -/
import Derived.Test.YtljibjlkjelpbaaGreatDoorJW
namespace Go.Proofs.YtljibjlkjelpbaaGreatDoor
open Go.RowKit
set_option maxRecDepth 100000
set_option maxHeartbeats 4000000

section
variable {P : Program} {N : Nat} {w0 : World} {L : List Res} {e : Env} {o : Oper}
theorem stepG_callm {X : Type} {f : FuncId} [CCall P f] {ars : Array Operand} {ts : Array TypeId} {l : List Value} {V : X → Value} {R : X → List Res} {w : World} (hop : o.op = .call { callee := .value (.func f), args := ars, argTypes := ts }) (hl : ars.toList.map (ev N e) = l) (hC : OkM P f l.toArray w V R) (s : St w0 L w) :
    StepG P (ev N e) o w fun u w' => ∃ x, u = V x ∧ St w0 (R x ++ L) w' := by
  unfold StepG
  rw [run_call hop CCall.h hl]
  exact Ok.mono hC fun v w' hx ⟨x, hv, hm⟩ => ⟨x, hv, s.adds hx hm⟩
theorem stepG_bslice0 {t el sz : Nat} [CSlice P t el sz] {w : World} (hop : o.op = .buildSlice t 0 #[]) (hw : sz = sz) (s : St w0 L w) : StepG P (ev N e) o w fun u w' => ∃ b, u = .slice (some ⟨b, 0, none⟩) 0 0 ∧ St w0 (Own (some ⟨b, 0, none⟩) 0 0 el sz [] :: L) w' := by
  have _ := hw
  have ht := CSlice.h (P := P) (t := t) (el := el) (sz := sz)
  unfold sliceSz at ht
  split at ht
  · rename_i el' hu
    obtain ⟨i, hinfo, heq⟩ := Option.map_eq_some_iff.1 ht
    injection heq with e1 e2
    subst e1
    have hr := run_bslice0 (P := P) w t el' i hu hinfo
    unfold StepG execOp
    simp only [hop]
    have hrun : (do let v ← Instr.buildSlice t 0 #[]; pure (Next.value v) : Sem Next).run P w = .ok (.value (.slice (some ⟨w.heap.size, 0, none⟩) 0 0)) (w.alloc (.cells #[] el')) := by simp [hr]
    have hb := box_own (n := 0) (c := 0) (sz := sz) (xs := []) (L := L) (g := w.heap.size) (el := el') (cs := #[]) ⟨Nat.le_refl _, Nat.zero_le _, by simp⟩ (by simp) w0 _ (s.box el' #[])
    simpa [hr] using hb
  · cases ht
end
theorem okM_of {P : Program} {f : FuncId} {args : Array Value} {w : World} {v : Value} (h : Ok P f args w fun x _ => x = v) : OkM (X := Unit) P f args w (fun _ => v) (fun _ => []) := Ok.mono h fun _ _ _ hx => ⟨(), hx, trivial⟩
theorem encR_one {l : List Ret} : ∀ u ∈ l.flatMap encR, u.oneCell' = true := fun u hu => by
  obtain ⟨x, _, hx⟩ := List.mem_flatMap.1 hu
  unfold encR at hx
  simp only [List.mem_cons, List.not_mem_nil, or_false] at hx
  rcases hx with rfl | rfl | rfl <;> rfl
theorem flat_len' {α : Type} {enc : α → List Value} {sz : Nat} : ∀ {l : List α} (_ : ∀ x ∈ l, (enc x).length = sz), (l.flatMap enc).length = l.length * sz
  | [], _ => by simp
  | x :: l, h => by rw [List.flatMap_cons, List.length_append, h x List.mem_cons_self, flat_len' fun y hy => h y (List.mem_cons_of_mem _ hy), List.length_cons, Nat.succ_mul]; omega
theorem ret_cells {w : World} {B : Nat} {A : Option Addr} {n c : Nat} {l : List Ret} (h : Sl rRet w B (.slice A n c) l) (hl : 0 < l.length) : ∃ ad, A = some ad ∧ ad.block < B ∧ ∀ j u, (l.flatMap encR)[j]? = some u → w.cell? (ad.add j) = some u := by
  obtain ⟨ad, c', hv, _, _, hb, hcell⟩ := h.at' 3 rfl hl
  injection hv with e1 e2 e3
  refine ⟨ad, e1, hb, fun j u hu => ?_⟩
  have hj : j < (l.flatMap encR).length := (List.getElem?_eq_some_iff.1 hu).1
  rw [flat_len' (sz := 3) fun _ _ => rfl] at hj
  obtain ⟨cs, hc, hr, _⟩ := hcell (j / 3) (by omega)
  have hdm : j / 3 * 3 + j % 3 = j := by omega
  rw [← hdm, flat_get (sz := 3) l (fun _ _ => rfl) (j / 3) (by omega) (j % 3) (by omega)] at hu
  have := hc (j % 3) u (by rw [hr]; exact hu)
  rwa [hdm] at this
theorem retO_rep {w0 w : World} {B : Nat} {S : Nat → Prop} {v : Value} {l : List Ret} (h : Sl rRet w0 B v l) {q : Ret} (hq : q ∈ l ++ l) : rRet.rep w S q (encR q) := by
  have hq : q ∈ l := by rcases List.mem_append.1 hq with h | h <;> exact h
  obtain ⟨k, hk, rfl⟩ := List.getElem_of_mem hq
  obtain ⟨_, _, _, _, _, hcell⟩ := h.ret
  obtain ⟨_, _, _, _, h1⟩ := hcell k hk
  exact ⟨rfl, h1⟩
theorem lawReturnsOnce_ok (w : World) (hL : Lay w) (v : Value) (c : Shp) (vl : Value) (l : List Ret) (hc : ShopV w v c) (hl : Sl rRet w w.heap.size vl l) : Ok Tryz.prog 10 [v, vl].toArray w fun r _ => r = .bool true := by
  have hc' := hc
  have hl' := hl
  obtain ⟨v0, v1, v2, v3, v4, v5, v6, vb, vw, vx, rfl, hs, hb, hw, hx⟩ := hc
  obtain ⟨Al, cl, rfl, hlc, hlm, hlcell⟩ := hl.ret
  have hA : ∀ (L : List Res) (w' : World), St w L w' → Ok Tryz.prog 22 [].toArray w' fun r _ => r = .bool true := fun L w' s => alive_ok w' (hL.later s)
  have hF : ∀ (L : List Res) (w' : World), St w L w' → OkM Tryz.prog 26 [.agg #[v0, v1, v2, v3, v4, v5, v6, vb, vw, vx, .int .i64 c.r, .int .i64 c.le]].toArray w' (fun b : Bool => .bool b) (fun _ => []) := fun L w' s' => light58_ok w' _ c (hc'.later s')
  have hrl : (l.flatMap encR).length = l.length * 3 := flat_len' fun _ _ => rfl
  have hcells : ∀ w3 : World, Below w.heap.size w w3 → 0 < l.length → ∃ ad, Al = some ad ∧ ∀ j u, (l.flatMap encR)[j]? = some u → w3.cell? (ad.add j) = some u := fun w3 hb3 hpos => by
    obtain ⟨ad, e1, hbk, hcl⟩ := ret_cells hl' hpos
    exact ⟨ad, e1, fun j u hu => (cell_same (by rw [add_block]; exact hb3.block _ hbk)).trans (hcl j u hu)⟩
  have hll : (l ++ l).length = l.length + l.length := List.length_append
  refine ok_enter Tryz.func10 rfl Tryz.ntmps10 rfl ?_
  focus (refine gc_seq ?_; refine gc_region ?_; refine gw_boxd (v := .agg _) rfl rfl (fun _ => ?_); refine gM rfl rfl (by conv => (lhs; whnf)) ?_; refine gO ?_; refine gc_seq ?_; refine gc_seq ?_; refine gc_region ?_; apply gw_d; exact w_load_boxN rfl rfl rfl .here rfl)
  rename_i bS
  refine gw_callm rfl (hF _) rfl (fun b => ?_)
  focus (apply gw_d; exact det_not_ rfl rfl rfl; refine gM rfl rfl (by conv => (lhs; whnf)) ?_; refine gw_guard rfl rfl (fun _ => ?_) (fun _ => ?_); refine gU rfl ?_; refine gU rfl ?_; refine gU rfl ?_; apply gw_d; exact det_pick_t (v := .bool _) rfl rfl rfl rfl; refine gO ?_; refine gc_if_true rfl ?_; refine gc_seq ?_; refine gc_region ?_; apply gw_d; exact w_call rfl rfl (hA _) rfl; refine gM rfl rfl (by conv => (lhs; whnf)) ?_; refine gO ?_; refine gc_ret ?_; refine gx_then_ret ?_; rotate_left; refine gM rfl rfl (by conv => (lhs; whnf)) ?_; refine gL rfl rfl rfl ?_; refine gC rfl rfl rfl rfl rfl ?_; apply gw_d; exact det_pick_f (v := .bool _) rfl rfl rfl rfl; refine gO ?_; refine gc_if_dec rfl (fun _ => ?_) (fun _ => ?_); refine gc_seq ?_; refine gc_region ?_; apply gw_d; exact w_call rfl rfl (hA _) rfl; refine gM rfl rfl (by conv => (lhs; whnf)) ?_; refine gO ?_; refine gc_ret ?_; refine gx_then_ret ?_; rotate_left; refine gc_skip ?_; refine gx_next ?_; refine gc_seq ?_; refine gc_region ?_; apply gw_d; exact w_load_boxN rfl rfl rfl .here rfl; refine gM rfl rfl (by conv => (lhs; whnf)) ?_; rotate_left)
  all_goals first | (refine gx_ret1 (v := .bool _) rfl rfl (fun _ _ => ?_); rfl) | skip
  have h40 : l.length ≤ 40 := by omega
  have hsl : ∀ (L L' : List Res) (w' : World) (A : Option Addr) (ca : Nat), Pick L (Own A (0 + l.length + l.length) ca 76 3 (l.flatMap encR ++ l.flatMap encR)) L' → St w L w' → Sl rRet w' w'.heap.size (.slice A (0 + l.length + l.length) ca) (l ++ l) := fun L L' w' A ca hp s' => by
    rw [← List.flatMap_append] at hp
    exact Sl.own (R := rRet) (enc := encR) s' hp (by rw [hll]; omega) (fun q hq => retO_rep hl' hq)
  by_cases he : chgErr c.r c.le (opCheckE c.sty plE) c.bs c.ws c.xs.length l.length = 0
  · obtain ⟨_, hj, ht⟩ := chgErr_zero he
    obtain ⟨hOk, _⟩ := judge_zero hj
    have he2 : chgErr c.r c.le (opCheckE c.sty plE) c.bs c.ws c.xs.length (l ++ l).length = 0 := chgErr_mk (by omega) hj ht
    have hC1 := fun (L : List Res) (w' : World) (s' : St w L w') => charges_ok (r := c.r) (le := c.le) (hL.later s') (StyV.later s' hs) (hb.later s') (hw.later s') (hx.later s') (hl'.later s') he
    have hC2 := fun (L L' : List Res) (w' : World) (A : Option Addr) (ca : Nat) (hp : Pick L (Own A (0 + l.length + l.length) ca 76 3 (l.flatMap encR ++ l.flatMap encR)) L') (s' : St w L w') => charges_ok (r := c.r) (le := c.le) (hL.later s') (StyV.later s' hs) (hb.later s') (hw.later s') (hx.later s') (hsl L L' w' A ca hp s') he2
    have hch2 : chgL c.r c.le c.sty.ops c.bs (paidL c.sty.ops c.ws (ticks c.bs) c.xs) (l ++ l) = chgL c.r c.le c.sty.ops c.bs (paidL c.sty.ops c.ws (ticks c.bs) c.xs) l := by unfold chgL; rw [done_twice]
    have hos2 := outs_twice (ok := okR c.sty.ops.length c.bs (paidL c.sty.ops c.ws (ticks c.bs) c.xs)) l
    have hol := outsR_len (ok := okR c.sty.ops.length c.bs (paidL c.sty.ops c.ws (ticks c.bs) c.xs)) l []
    have hoa : ∀ i (hi : i < l.length), (okR c.sty.ops.length c.bs (paidL c.sty.ops c.ws (ticks c.bs) c.xs) l[i] = false ∧ (outsR (okR c.sty.ops.length c.bs (paidL c.sty.ops c.ws (ticks c.bs) c.xs)) [] l).getD i 0 = 3) ∨ (okR c.sty.ops.length c.bs (paidL c.sty.ops c.ws (ticks c.bs) c.xs) l[i] = true ∧ ¬ (outsR (okR c.sty.ops.length c.bs (paidL c.sty.ops c.ws (ticks c.bs) c.xs)) [] l).getD i 0 = 3) := fun i hi => by
      rw [outsR_at' hi]
      unfold outR
      cases hok : okR c.sty.ops.length c.bs (paidL c.sty.ops c.ws (ticks c.bs) c.xs) l[i] with
      | false => exact .inl ⟨rfl, by rw [if_pos rfl]⟩
      | true =>
        refine .inr ⟨rfl, ?_⟩
        rw [if_neg (by decide)]
        split <;> decide
    have hrep : ∀ (w' : World), ∀ q ∈ chgL c.r c.le c.sty.ops c.bs (paidL c.sty.ops c.ws (ticks c.bs) c.xs) l, rChg.rep w' (fun b => b < w'.heap.size) q (encC q) := fun w' => chg_rep hOk.bundles hx hl'
    rw [hch2] at hC2
    rw [hos2] at hC2
    have ho2l : (outsR (okR c.sty.ops.length c.bs (paidL c.sty.ops c.ws (ticks c.bs) c.xs)) [] l ++ l.map fun y => if okR c.sty.ops.length c.bs (paidL c.sty.ops c.ws (ticks c.bs) c.xs) y = false then (3 : Int) else 2).length = l.length + l.length := by rw [List.length_append, hol, List.length_map]
    have ho2a : ∀ i, i < l.length → (outsR (okR c.sty.ops.length c.bs (paidL c.sty.ops c.ws (ticks c.bs) c.xs)) [] l ++ l.map fun y => if okR c.sty.ops.length c.bs (paidL c.sty.ops c.ws (ticks c.bs) c.xs) y = false then (3 : Int) else 2).getD i 0 = (outsR (okR c.sty.ops.length c.bs (paidL c.sty.ops c.ws (ticks c.bs) c.xs)) [] l).getD i 0 := fun i hi => by
      rw [List.getD_eq_getElem?_getD, List.getD_eq_getElem?_getD, List.getElem?_append_left (by omega)]
    have ho2b : ∀ i (hi : i < l.length), (outsR (okR c.sty.ops.length c.bs (paidL c.sty.ops c.ws (ticks c.bs) c.xs)) [] l ++ l.map fun y => if okR c.sty.ops.length c.bs (paidL c.sty.ops c.ws (ticks c.bs) c.xs) y = false then (3 : Int) else 2).getD (l.length + i) 0 = if okR c.sty.ops.length c.bs (paidL c.sty.ops c.ws (ticks c.bs) c.xs) l[i] = false then 3 else 2 := fun i hi => by
      rw [List.getD_eq_getElem?_getD, List.getElem?_append_right (by omega), hol, show l.length + i - l.length = i by omega, List.getElem?_map, List.getElem?_eq_getElem hi]
      rfl
    generalize (outsR (okR c.sty.ops.length c.bs (paidL c.sty.ops c.ws (ticks c.bs) c.xs)) [] l ++ l.map fun y => if okR c.sty.ops.length c.bs (paidL c.sty.ops c.ws (ticks c.bs) c.xs) y = false then (3 : Int) else 2) = os2 at hC2 ho2l ho2a ho2b
    generalize outsR (okR c.sty.ops.length c.bs (paidL c.sty.ops c.ws (ticks c.bs) c.xs)) [] l = os at hC1 hol hoa ho2a
    generalize chgL c.r c.le c.sty.ops c.bs (paidL c.sty.ops c.ws (ticks c.bs) c.xs) l = ch at hC1 hC2 hrep
    focus (skip)
    refine gw_callm rfl (hC1 _) rfl (fun x => ?_)
    obtain ⟨⟨A1, c1⟩, o1⟩ := x
    focus (refine gM rfl rfl (by conv => (lhs; whnf)) ?_; apply gw_d; exact det_extract rfl rfl rfl (by conv => (lhs; whnf)); apply gw_d; exact det_extract rfl rfl rfl (by conv => (lhs; whnf)); apply gw_d; exact det_extract rfl rfl rfl (by conv => (lhs; whnf)); refine gM rfl rfl (by conv => (lhs; whnf)) ?_; refine gM rfl rfl (by conv => (lhs; whnf)) ?_; refine gM rfl rfl (by conv => (lhs; whnf)) ?_; refine gO ?_; refine gc_seq ?_)
    refine gc_ent (K := [Own A1 ch.length c1 74 5 (ch.flatMap encC), Box o1 3 (os.map (Value.int .i64)).toArray, Box bS 66 #[v0, v1, v2, v3, v4, v5, v6, vb, vw, vx, .int .i64 c.r, .int .i64 c.le]]) (Sub.ent (Sub.all _)) ?_
    generalize hLr : [Own A1 ch.length c1 74 5 (ch.flatMap encC), Box o1 3 (os.map (Value.int .i64)).toArray, Box bS 66 #[v0, v1, v2, v3, v4, v5, v6, vb, vw, vx, .int .i64 c.r, .int .i64 c.le]] = Lr
    obtain ⟨Ls, hpS⟩ : ∃ Ls, Pick Lr (Box bS 66 #[v0, v1, v2, v3, v4, v5, v6, vb, vw, vx, .int .i64 c.r, .int .i64 c.le]) Ls := by rw [← hLr]; exact ⟨_, .there (.there .here)⟩
    refine gc_blockJ (P := Tryz.prog) (Nat × Option Addr × Nat) 13 (fun i => ([[], [], [], [1, 2], [], [1, 2, 3, 4], [0, 1, 2, 3, 4, 5], [0, 1, 2, 3, 4, 5, 6], [0, 1, 2, 3, 4, 5, 6, 7], [0, 1, 2, 3, 4, 5, 6, 7], [0, 1, 2, 3, 4, 5, 6, 7], [0, 1, 2, 3, 4, 5, 6, 7, 8], [0, 1, 2, 3, 4, 5, 6, 7, 8, 9, 11]] : List (List Nat)).getD i []) (fun i γ => match i with
      | 0 => .agg #[v0, v1, v2, v3, v4, v5, v6, vb, vw, vx, .int .i64 c.r, .int .i64 c.le]
      | 1 => .slice (some ⟨(γ 1).1, 0, none⟩) 0 0
      | 2 => .slice Al l.length cl
      | 3 => .slice (γ 3).2.1 (0 + l.length) (γ 3).2.2
      | 4 => .slice Al l.length cl
      | 5 => .slice (γ 5).2.1 (0 + l.length + l.length) (γ 5).2.2
      | 6 => .tuple #[.slice (γ 6).2.1 ch.length (γ 6).2.2, .slice (some ⟨(γ 6).1, 0, none⟩) (l ++ l).length (l ++ l).length, .int .i64 0]
      | 7 => .tuple #[.slice (γ 6).2.1 ch.length (γ 6).2.2, .slice (some ⟨(γ 6).1, 0, none⟩) (l ++ l).length (l ++ l).length, .int .i64 0]
      | 8 => .slice (γ 6).2.1 ch.length (γ 6).2.2
      | 9 => .slice (some ⟨(γ 6).1, 0, none⟩) (l ++ l).length (l ++ l).length
      | 10 => .int .i64 0
      | 11 => .slice (γ 6).2.1 ch.length (γ 6).2.2
      | 12 => .slice (some ⟨(γ 6).1, 0, none⟩) (l ++ l).length (l ++ l).length
      | _ => undef) (fun ls β w' => (ls 3 = true → ls 1 = true) ∧ (ls 5 = true → ls 3 = true) ∧ (ls 6 = true → ls 5 = true) ∧ St w ((if ls 6 = true then [Own (β 6).2.1 ch.length (β 6).2.2 74 5 (ch.flatMap encC), Box (β 6).1 3 (os2.map (Value.int .i64)).toArray] else []) ++ ((if ls 5 = true then [Own (β 5).2.1 (0 + l.length + l.length) (β 5).2.2 76 3 (l.flatMap encR ++ l.flatMap encR)] else if ls 3 = true then [Own (β 3).2.1 (0 + l.length) (β 3).2.2 76 3 (l.flatMap encR)] else if ls 1 = true then [Own (some ⟨(β 1).1, 0, none⟩) 0 0 76 3 []] else []) ++ Lr)) w') rfl (by kernel_rfl) (fun w' s => ⟨fun h => (by cases h), fun h => (by cases h), fun h => (by cases h), s⟩) ?_ ?_
    · intro i o ls β w' hi hik hls hpl ⟨j1, j2, j3, hJ⟩
      have hS0 : St w Lr w' := hJ.sublist ((List.sublist_append_right _ _).trans (List.sublist_append_right _ _))
      have f3 : ls 1 = false → ls 3 = false := fun h => by cases hb : ls 3 with | false => rfl | true => (rw [j1 hb] at h; cases h)
      have f5 : ls 3 = false → ls 5 = false := fun h => by cases hb : ls 5 with | false => rfl | true => (rw [j2 hb] at h; cases h)
      have f6 : ls 5 = false → ls 6 = false := fun h => by cases hb : ls 6 with | false => rfl | true => (rw [j3 hb] at h; cases h)
      obtain rfl | rfl | rfl | rfl | rfl | rfl | rfl | rfl | rfl | rfl | rfl | rfl | rfl : i = 0 ∨ i = 1 ∨ i = 2 ∨ i = 3 ∨ i = 4 ∨ i = 5 ∨ i = 6 ∨ i = 7 ∨ i = 8 ∨ i = 9 ∨ i = 10 ∨ i = 11 ∨ i = 12 := by omega
      · cases hi
        exact detG (w_load_boxN rfl rfl rfl hpS rfl) rfl hS0 (fun w2 hx => ⟨default, rfl, j1, j2, j3, St.ext hJ hx⟩)
      · cases hi
        have g3 := f3 hls
        have g5 := f5 g3
        have g6 := f6 g5
        rw [hls, g3, g5, g6] at hJ
        refine ⟨rfl, (stepG_bslice0 rfl rfl hJ).mono fun u w2 hu => ?_⟩
        obtain ⟨b, hu, s2⟩ := hu
        refine ⟨(b, none, 0), hu, fun h => rfl, fun h => j2 h, fun h => j3 h, ?_⟩
        show St w ((if ls 6 = true then _ else []) ++ ((if ls 5 = true then _ else if ls 3 = true then _ else [Own (some ⟨b, 0, none⟩) 0 0 76 3 []]) ++ Lr)) w2
        rw [g3, g5, g6]
        exact s2
      · cases hi
        exact detG (det_m (v := .slice Al l.length cl) rfl rfl rfl) rfl hS0 (fun w2 hx => ⟨default, rfl, j1, j2, j3, St.ext hJ hx⟩)
      · cases hi
        have g1 : ls 1 = true := hpl 1 (by decide)
        have g5 := f5 hls
        have g6 := f6 g5
        rw [g1, hls, g5, g6] at hJ
        refine ⟨rfl, (stepG_append (sz := 3) (z := .agg #[.int .i64 0, .int .i64 0, .int .i64 0]) (n := 0) (m := l.length) (xs := []) (news := l.flatMap encR) rfl rfl .here hrl (fun w3 s3 hpos => hcells w3 s3.below hpos) encR_one (by unfold maxLen; omega) (by omega) (by decide) rfl hJ).mono fun u w2 hu => ?_⟩
        obtain ⟨A', c', hu, s2⟩ := hu
        refine ⟨(0, A', c'), hu, fun h => g1, fun h => rfl, fun h => j3 h, ?_⟩
        show St w ((if ls 6 = true then _ else []) ++ ((if ls 5 = true then _ else [Own A' (0 + l.length) c' 76 3 (l.flatMap encR)]) ++ Lr)) w2
        rw [g5, g6]
        exact s2
      · cases hi
        exact detG (det_m (v := .slice Al l.length cl) rfl rfl rfl) rfl hS0 (fun w2 hx => ⟨default, rfl, j1, j2, j3, St.ext hJ hx⟩)
      · cases hi
        have g3 : ls 3 = true := hpl 3 (by decide)
        have g1 := j1 g3
        have g6 := f6 hls
        rw [g3, hls, g6] at hJ
        refine ⟨rfl, (stepG_append (sz := 3) (z := .agg #[.int .i64 0, .int .i64 0, .int .i64 0]) (n := 0 + l.length) (m := l.length) (xs := l.flatMap encR) (news := l.flatMap encR) rfl rfl .here hrl (fun w3 s3 hpos => hcells w3 s3.below hpos) encR_one (by unfold maxLen; omega) (by omega) (by decide) rfl hJ).mono fun u w2 hu => ?_⟩
        obtain ⟨A', c', hu, s2⟩ := hu
        refine ⟨(0, A', c'), hu, fun h => g1, fun h => g3, fun h => rfl, ?_⟩
        show St w ((if ls 6 = true then _ else []) ++ ([Own A' (0 + l.length + l.length) c' 76 3 (l.flatMap encR ++ l.flatMap encR)] ++ Lr)) w2
        rw [g6]
        exact s2
      · cases hi
        have g5 : ls 5 = true := hpl 5 (by decide)
        rw [g5, hls] at hJ
        refine ⟨rfl, (stepG_callm (l := [.agg #[v0, v1, v2, v3, v4, v5, v6, vb, vw, vx, .int .i64 c.r, .int .i64 c.le], .slice (β 5).2.1 (0 + l.length + l.length) (β 5).2.2]) rfl rfl (hC2 _ _ w' (β 5).2.1 (β 5).2.2 .here hJ) hJ).mono fun u w2 hu => ?_⟩
        obtain ⟨⟨⟨A', c'⟩, bo⟩, hu, s2⟩ := hu
        refine ⟨(bo, A', c'), hu, fun h => j1 h, fun h => j2 h, fun h => g5, ?_⟩
        show St w ([Own A' ch.length c' 74 5 (ch.flatMap encC), Box bo 3 (os2.map (Value.int .i64)).toArray] ++ ((if ls 5 = true then _ else _) ++ Lr)) w2
        rw [g5]
        exact s2
      · cases hi
        exact detG (det_m (v := .tuple #[.slice (β 6).2.1 ch.length (β 6).2.2, .slice (some ⟨(β 6).1, 0, none⟩) (l ++ l).length (l ++ l).length, .int .i64 0]) rfl rfl rfl) rfl hS0 (fun w2 hx => ⟨default, rfl, j1, j2, j3, St.ext hJ hx⟩)
      · cases hi
        exact detG (det_extract rfl rfl rfl rfl) rfl hS0 (fun w2 hx => ⟨default, rfl, j1, j2, j3, St.ext hJ hx⟩)
      · cases hi
        exact detG (det_extract rfl rfl rfl rfl) rfl hS0 (fun w2 hx => ⟨default, rfl, j1, j2, j3, St.ext hJ hx⟩)
      · cases hi
        exact detG (det_extract rfl rfl rfl rfl) rfl hS0 (fun w2 hx => ⟨default, rfl, j1, j2, j3, St.ext hJ hx⟩)
      · cases hi
        exact detG (det_m (v := .slice (β 6).2.1 ch.length (β 6).2.2) rfl rfl rfl) rfl hS0 (fun w2 hx => ⟨default, rfl, j1, j2, j3, St.ext hJ hx⟩)
      · cases hi
        exact detG (det_m (v := .slice (some ⟨(β 6).1, 0, none⟩) (l ++ l).length (l ++ l).length) rfl rfl rfl) rfl hS0 (fun w2 hx => ⟨default, rfl, j1, j2, j3, St.ext hJ hx⟩)
    · intro ls β w' hall2 hJ
      have hJ1 := hJ.2.2.2
      rw [hall2 5 (by decide), hall2 6 (by decide)] at hJ1
      subst hLr
      have hJ2 : St w [Own (β 6).2.1 ch.length (β 6).2.2 74 5 (ch.flatMap encC), Box (β 6).1 3 (os2.map (Value.int .i64)).toArray, Own A1 ch.length c1 74 5 (ch.flatMap encC), Box o1 3 (os.map (Value.int .i64)).toArray] w' := St.sub (.cons .here (.cons .here (.cons (.there .here) (.cons (.there .here) .nil)))) hJ1
      refine GW.h (P := Tryz.prog) ?_ w' hJ2
      have hS1 : ∀ (L : List Res) (w' : World), St w (Own (β 6).2.1 ch.length (β 6).2.2 74 5 (ch.flatMap encC) :: Box (β 6).1 3 (os2.map (Value.int .i64)).toArray :: Own A1 ch.length c1 74 5 (ch.flatMap encC) :: L) w' → Ok Tryz.prog 31 [.slice A1 ch.length c1, .slice (β 6).2.1 ch.length (β 6).2.2].toArray w' fun r _ => r = .bool true := fun L w' s' => same_same s' (.there (.there .here)) .here rfl rfl rfl (hrep w')
      focus (refine gM rfl rfl (by conv => (lhs; whnf)) ?_; refine gO ?_; refine gc_seq ?_; refine gc_seq ?_; refine gc_region ?_; refine gM rfl rfl (by conv => (lhs; whnf)) ?_; refine gM rfl rfl (by conv => (lhs; whnf)) ?_; refine gC rfl rfl rfl rfl rfl ?_; refine gM rfl rfl (by conv => (lhs; whnf)) ?_; refine gM rfl rfl (by conv => (lhs; whnf)) ?_; refine gM rfl rfl (by conv => (lhs; whnf)) ?_; apply gw_d; exact w_call rfl rfl (hS1 _) rfl; apply gw_d; exact det_not_ rfl rfl rfl; apply gw_d; exact det_pick_f (v := .bool _) rfl rfl rfl rfl; refine gO ?_)
      refine gc_if_false rfl ?_
      focus (refine gc_skip ?_; refine gx_next ?_; refine gc_seq ?_; refine gc_seq ?_; refine gc_region ?_; refine gM rfl rfl (by conv => (lhs; whnf)) ?_; refine gC rfl rfl rfl rfl rfl ?_; refine gO ?_)
      refine gc_if_dec rfl (fun h => absurd rfl h) (fun _ => ?_)
      focus (refine gc_skip ?_; refine gx_next ?_; refine gc_seq ?_; refine gc_seq ?_; refine gc_region ?_; refine gM rfl rfl (by conv => (lhs; whnf)) ?_; refine gL rfl rfl rfl ?_; refine gM rfl rfl (by conv => (lhs; whnf)) ?_; refine gL rfl rfl rfl ?_; refine gC rfl rfl rfl rfl rfl ?_; refine gM rfl rfl (by conv => (lhs; whnf)) ?_; refine gw_guard_dec rfl rfl (fun _ => ?_) (fun _ => ?_); refine gU rfl ?_; refine gU rfl ?_; refine gU rfl ?_; refine gU rfl ?_; refine gU rfl ?_; refine gU rfl ?_; apply gw_d; exact det_pick_t (v := .bool _) rfl rfl rfl rfl; refine gO ?_; refine gc_if_true rfl ?_; refine gc_seq ?_; refine gc_region ?_; refine gM rfl rfl (by conv => (lhs; whnf)) ?_; refine gO ?_; refine gc_ret ?_; refine gx_then_ret ?_; rotate_left; refine gM rfl rfl (by conv => (lhs; whnf)) ?_; refine gL rfl rfl rfl ?_; refine gM rfl rfl (by conv => (lhs; whnf)) ?_; refine gL rfl rfl rfl ?_; apply gw_d; exact det_ar rfl rfl rfl rfl rfl (by omega); refine gC rfl rfl rfl rfl rfl ?_; apply gw_d; exact det_pick_f (v := .bool _) rfl rfl rfl rfl; refine gO ?_; refine gc_if_dec rfl (fun _ => ?_) (fun _ => ?_); refine gc_seq ?_; refine gc_region ?_; refine gM rfl rfl (by conv => (lhs; whnf)) ?_; refine gO ?_; refine gc_ret ?_; refine gx_then_ret ?_; rotate_left; refine gc_skip ?_; refine gx_next ?_; refine gc_seq ?_; refine gc_seq ?_; refine gc_region ?_; refine gM rfl rfl (by conv => (lhs; whnf)) ?_; refine gO ?_; refine gc_block ?_; rotate_left)
      all_goals first | (exfalso; omega) | (exfalso; rename_i hne; exact hne rfl) | skip
      refine gc_loopK (σ := Nat) [75, 76, 77, 78, 81, 82, 83, 84, 85, 86, 87, 88, 89, 90, 91, 92, 93, 94, 95, 96, 97, 98, 99, 100, 101, 102, 103, 104, 105, 106, 107, 108, 109, 110, 111, 112, 113, 114, 115, 116, 117, 118, 119, 120, 121, 122, 123, 4, 79, 80, 11] (fun i => [(11, .int .i64 i)]) (fun i => i ≤ l.length) (fun i => l.length - i) 0 (Nat.zero_le _) ⟨rfl, trivial⟩ ?_
      rintro i base2 hi
      focus (refine gc_seq ?_; refine gc_seq ?_; refine gc_region ?_; refine gM rfl rfl (by conv => (lhs; whnf)) ?_; refine gM rfl rfl (by conv => (lhs; whnf)) ?_; refine gL rfl rfl rfl ?_; refine gC rfl rfl rfl rfl rfl ?_; refine gO ?_)
      refine gc_if_dec rfl (fun h2 => ?_) (fun h2 => ?_)
      · have hil : i < l.length := by omega
        have hr1 : (os.map (Value.int .i64)).toArray[i * 1]? = some (.int .i64 (os.getD i 0)) := row_get (Value.int .i64) 0 (by omega)
        have hr2 : (os2.map (Value.int .i64)).toArray[i * 1]? = some (.int .i64 (os2.getD i 0)) := row_get (Value.int .i64) 0 (by omega)
        have hr3 : (os2.map (Value.int .i64)).toArray[(l.length + i) * 1]? = some (.int .i64 (os2.getD (l.length + i) 0)) := row_get (Value.int .i64) 0 (by omega)
        rw [ho2a i hil] at hr2
        rw [ho2b i hil] at hr3
        rcases hoa i hil with ⟨ok1, ov⟩ | ⟨ok1, ov⟩
        · rw [if_pos ok1] at hr3
          generalize os.getD i 0 = ov1 at hr1 hr2 ov
          focus (refine gc_skip ?_; refine gx_next ?_; refine gc_seq ?_; refine gc_block ?_; refine gc_seq ?_)
          refine gc_draw 43 (by kernel_rfl) (by kernel_rfl) ?_
          focus (apply gd_d; exact det_m rfl rfl (by conv => (lhs; whnf)); apply gd_d; exact det_m rfl rfl (by conv => (lhs; whnf)); apply gd_d; exact w_index (m := i) rfl rfl rfl rfl rfl (by omega); apply gd_d; exact w_load_row rfl rfl rfl (.there .here) hr2; apply gd_d; exact det_m rfl rfl (by conv => (lhs; whnf)); apply gd_d; exact det_m rfl rfl (by conv => (lhs; whnf)); apply gd_d; exact w_index (m := i) rfl rfl rfl rfl rfl (by omega); apply gd_d; exact w_load_row rfl rfl rfl (.there (.there (.there .here))) hr1; apply gd_d; exact det_cmp rfl rfl rfl rfl rfl; apply gd_d; exact det_m rfl rfl (by conv => (lhs; whnf)); refine gd_guard_dec rfl rfl (fun _ => ?_) (fun _ => ?_); apply gd_d; exact det_not rfl; apply gd_d; exact det_not rfl; apply gd_d; exact det_not rfl; apply gd_d; exact det_not rfl; apply gd_d; exact det_not rfl; apply gd_d; exact det_not rfl; apply gd_d; exact det_not rfl; apply gd_d; exact det_not rfl; apply gd_d; exact det_not rfl; apply gd_d; exact det_not rfl; apply gd_d; exact det_not rfl; apply gd_d; exact det_not rfl; apply gd_d; exact det_not rfl; apply gd_d; exact det_not rfl; apply gd_d; exact det_not rfl; apply gd_d; exact det_pick_t (v := .bool _) rfl rfl rfl rfl; apply gd_d; exact det_m rfl rfl (by conv => (lhs; whnf)); apply gd_d; exact det_not rfl; apply gd_d; exact det_not rfl; apply gd_d; exact det_not rfl; apply gd_d; exact det_not rfl; apply gd_d; exact det_not rfl; apply gd_d; exact det_not rfl; apply gd_d; exact det_not rfl; apply gd_d; exact det_not rfl; apply gd_d; exact det_not rfl; apply gd_d; exact det_not rfl; apply gd_d; exact det_not rfl; apply gd_d; exact det_not rfl; apply gd_d; exact det_not rfl; apply gd_d; exact det_not rfl; apply gd_d; exact det_not rfl; apply gd_d; exact det_pick_t (v := .bool _) rfl rfl rfl rfl; refine gd_nil ?_; refine gO ?_; refine gc_if_true rfl ?_; refine gc_seq ?_; refine gc_region ?_; refine gM rfl rfl (by conv => (lhs; whnf)) ?_; refine gO ?_; refine gc_ret ?_; refine gx_block_ret ?_; refine gx_then_ret ?_; refine gx_then_ret ?_; refine gx_block_ret ?_; refine gx_then_ret ?_; rotate_left; apply gd_d; exact det_m rfl rfl (by conv => (lhs; whnf)); apply gd_d; exact det_m rfl rfl (by conv => (lhs; whnf)); apply gd_d; exact w_index (m := i) rfl rfl rfl rfl rfl (by omega); apply gd_d; exact w_load_row rfl rfl rfl (.there (.there (.there .here))) hr1; apply gd_d; exact det_cmp rfl rfl rfl rfl rfl; apply gd_d; exact det_m rfl rfl (by conv => (lhs; whnf)); refine gd_guard_dec rfl rfl (fun _ => ?_) (fun _ => ?_); apply gd_d; exact det_m rfl rfl (by conv => (lhs; whnf)); apply gd_d; exact det_m rfl rfl (by conv => (lhs; whnf)); apply gd_d; exact w_len rfl rfl rfl; apply gd_d; exact det_m rfl rfl (by conv => (lhs; whnf)); apply gd_d; exact det_ar rfl rfl rfl rfl rfl (by omega); apply gd_d; exact w_index (m := l.length + i) rfl rfl rfl rfl (castC _ _) (by omega); apply gd_d; exact w_load_row rfl rfl rfl (.there .here) hr3; apply gd_d; exact det_cmp rfl rfl rfl rfl rfl; apply gd_d; exact det_pick_t (v := .bool _) rfl rfl rfl rfl; apply gd_d; exact det_pick_f (v := .bool _) rfl rfl rfl rfl; apply gd_d; exact det_m rfl rfl (by conv => (lhs; whnf)); apply gd_d; exact det_m rfl rfl (by conv => (lhs; whnf)); apply gd_d; exact det_m rfl rfl (by conv => (lhs; whnf)); apply gd_d; exact w_index (m := i) rfl rfl rfl rfl rfl (by omega); apply gd_d; exact w_load_row rfl rfl rfl (.there (.there (.there .here))) hr1; apply gd_d; exact det_cmp rfl rfl rfl rfl rfl; apply gd_d; exact det_m rfl rfl (by conv => (lhs; whnf)); refine gd_guard_dec rfl rfl (fun _ => ?_) (fun _ => ?_); apply gd_d; exact det_m rfl rfl (by conv => (lhs; whnf)); apply gd_d; exact det_m rfl rfl (by conv => (lhs; whnf)); apply gd_d; exact w_len rfl rfl rfl; apply gd_d; exact det_m rfl rfl (by conv => (lhs; whnf)); apply gd_d; exact det_ar rfl rfl rfl rfl rfl (by omega); apply gd_d; exact w_index (m := l.length + i) rfl rfl rfl rfl (castC _ _) (by omega); apply gd_d; exact w_load_row rfl rfl rfl (.there .here) hr3; apply gd_d; exact det_cmp rfl rfl rfl rfl rfl; apply gd_d; exact det_pick_t (v := .bool _) rfl rfl rfl rfl; apply gd_d; exact det_pick_f (v := .bool _) rfl rfl rfl rfl; refine gd_nil ?_; refine gO ?_; refine gc_if_dec rfl (fun _ => ?_) (fun _ => ?_); refine gc_seq ?_; refine gc_region ?_; refine gM rfl rfl (by conv => (lhs; whnf)) ?_; refine gO ?_; refine gc_ret ?_; refine gx_block_ret ?_; refine gx_then_ret ?_; refine gx_then_ret ?_; refine gx_block_ret ?_; refine gx_then_ret ?_; rotate_left; refine gc_skip ?_; refine gx_block ?_; refine gx_next ?_; refine gc_region ?_; refine gM rfl rfl (by conv => (lhs; whnf)) ?_; apply gw_d; exact det_ar rfl rfl rfl rfl rfl (by omega); refine gM rfl rfl (by conv => (lhs; whnf)) ?_; refine gw_nil ?_; rotate_left; apply gd_d; exact det_not rfl; apply gd_d; exact det_not rfl; apply gd_d; exact det_not rfl; apply gd_d; exact det_not rfl; apply gd_d; exact det_not rfl; apply gd_d; exact det_not rfl; apply gd_d; exact det_not rfl; apply gd_d; exact det_not rfl; apply gd_d; exact det_pick_f (v := .bool _) rfl rfl rfl rfl; apply gd_d; exact det_pick_f (v := .bool _) rfl rfl rfl rfl; refine gd_nil ?_; refine gO ?_; refine gc_if_false rfl ?_; refine gc_skip ?_; refine gx_block ?_; refine gx_next ?_; refine gc_region ?_; refine gM rfl rfl (by conv => (lhs; whnf)) ?_; apply gw_d; exact det_ar rfl rfl rfl rfl rfl (by omega); refine gM rfl rfl (by conv => (lhs; whnf)) ?_; refine gw_nil ?_; rotate_left; apply gd_d; exact det_not rfl; apply gd_d; exact det_not rfl; apply gd_d; exact det_not rfl; apply gd_d; exact det_not rfl; apply gd_d; exact det_not rfl; apply gd_d; exact det_not rfl; apply gd_d; exact det_not rfl; apply gd_d; exact det_not rfl; apply gd_d; exact det_pick_f (v := .bool _) rfl rfl rfl rfl; apply gd_d; exact det_pick_f (v := .bool _) rfl rfl rfl rfl; apply gd_d; exact det_m rfl rfl (by conv => (lhs; whnf)); apply gd_d; exact det_m rfl rfl (by conv => (lhs; whnf)); apply gd_d; exact det_m rfl rfl (by conv => (lhs; whnf)); apply gd_d; exact w_index (m := i) rfl rfl rfl rfl rfl (by omega); apply gd_d; exact w_load_row rfl rfl rfl (.there (.there (.there .here))) hr1; apply gd_d; exact det_cmp rfl rfl rfl rfl rfl; apply gd_d; exact det_m rfl rfl (by conv => (lhs; whnf)); refine gd_guard_dec rfl rfl (fun _ => ?_) (fun _ => ?_); apply gd_d; exact det_m rfl rfl (by conv => (lhs; whnf)); apply gd_d; exact det_m rfl rfl (by conv => (lhs; whnf)); apply gd_d; exact w_len rfl rfl rfl; apply gd_d; exact det_m rfl rfl (by conv => (lhs; whnf)); apply gd_d; exact det_ar rfl rfl rfl rfl rfl (by omega); apply gd_d; exact w_index (m := l.length + i) rfl rfl rfl rfl (castC _ _) (by omega); apply gd_d; exact w_load_row rfl rfl rfl (.there .here) hr3; apply gd_d; exact det_cmp rfl rfl rfl rfl rfl; apply gd_d; exact det_pick_t (v := .bool _) rfl rfl rfl rfl; apply gd_d; exact det_pick_f (v := .bool _) rfl rfl rfl rfl; refine gd_nil ?_; refine gO ?_; refine gc_if_dec rfl (fun _ => ?_) (fun _ => ?_); refine gc_seq ?_; refine gc_region ?_; refine gM rfl rfl (by conv => (lhs; whnf)) ?_; refine gO ?_; refine gc_ret ?_; refine gx_block_ret ?_; refine gx_then_ret ?_; refine gx_then_ret ?_; refine gx_block_ret ?_; refine gx_then_ret ?_; rotate_left; refine gc_skip ?_; refine gx_block ?_; refine gx_next ?_; refine gc_region ?_; refine gM rfl rfl (by conv => (lhs; whnf)) ?_; apply gw_d; exact det_ar rfl rfl rfl rfl rfl (by omega); refine gM rfl rfl (by conv => (lhs; whnf)) ?_; refine gw_nil ?_; rotate_left; apply gd_d; exact det_not rfl; apply gd_d; exact det_not rfl; apply gd_d; exact det_not rfl; apply gd_d; exact det_not rfl; apply gd_d; exact det_not rfl; apply gd_d; exact det_not rfl; apply gd_d; exact det_not rfl; apply gd_d; exact det_not rfl; apply gd_d; exact det_pick_f (v := .bool _) rfl rfl rfl rfl; apply gd_d; exact det_pick_f (v := .bool _) rfl rfl rfl rfl; refine gd_nil ?_; refine gO ?_; refine gc_if_false rfl ?_; refine gc_skip ?_; refine gx_block ?_; refine gx_next ?_; refine gc_region ?_; refine gM rfl rfl (by conv => (lhs; whnf)) ?_; apply gw_d; exact det_ar rfl rfl rfl rfl rfl (by omega); refine gM rfl rfl (by conv => (lhs; whnf)) ?_; refine gw_nil ?_; rotate_left)
          all_goals first | (exfalso; omega) | (exfalso; rename_i hne; exact hne rfl) | skip
          all_goals exact gx_round (i + 1) hil (by omega) (by repeat (first | exact Keeps.refl | refine Keeps.upd rfl ?_ | refine Keeps.sets rfl ?_ | refine Keeps.havoc rfl ?_)) ⟨rfl, trivial⟩ (Sub.all _)
        · rw [if_neg (by rw [ok1]; decide)] at hr3
          generalize os.getD i 0 = ov1 at hr1 hr2 ov
          focus (refine gc_skip ?_; refine gx_next ?_; refine gc_seq ?_; refine gc_block ?_; refine gc_seq ?_)
          refine gc_draw 43 (by kernel_rfl) (by kernel_rfl) ?_
          focus (apply gd_d; exact det_m rfl rfl (by conv => (lhs; whnf)); apply gd_d; exact det_m rfl rfl (by conv => (lhs; whnf)); apply gd_d; exact w_index (m := i) rfl rfl rfl rfl rfl (by omega); apply gd_d; exact w_load_row rfl rfl rfl (.there .here) hr2; apply gd_d; exact det_m rfl rfl (by conv => (lhs; whnf)); apply gd_d; exact det_m rfl rfl (by conv => (lhs; whnf)); apply gd_d; exact w_index (m := i) rfl rfl rfl rfl rfl (by omega); apply gd_d; exact w_load_row rfl rfl rfl (.there (.there (.there .here))) hr1; apply gd_d; exact det_cmp rfl rfl rfl rfl rfl; apply gd_d; exact det_m rfl rfl (by conv => (lhs; whnf)); refine gd_guard_dec rfl rfl (fun _ => ?_) (fun _ => ?_); apply gd_d; exact det_not rfl; apply gd_d; exact det_not rfl; apply gd_d; exact det_not rfl; apply gd_d; exact det_not rfl; apply gd_d; exact det_not rfl; apply gd_d; exact det_not rfl; apply gd_d; exact det_not rfl; apply gd_d; exact det_not rfl; apply gd_d; exact det_not rfl; apply gd_d; exact det_not rfl; apply gd_d; exact det_not rfl; apply gd_d; exact det_not rfl; apply gd_d; exact det_not rfl; apply gd_d; exact det_not rfl; apply gd_d; exact det_not rfl; apply gd_d; exact det_pick_t (v := .bool _) rfl rfl rfl rfl; apply gd_d; exact det_m rfl rfl (by conv => (lhs; whnf)); apply gd_d; exact det_not rfl; apply gd_d; exact det_not rfl; apply gd_d; exact det_not rfl; apply gd_d; exact det_not rfl; apply gd_d; exact det_not rfl; apply gd_d; exact det_not rfl; apply gd_d; exact det_not rfl; apply gd_d; exact det_not rfl; apply gd_d; exact det_not rfl; apply gd_d; exact det_not rfl; apply gd_d; exact det_not rfl; apply gd_d; exact det_not rfl; apply gd_d; exact det_not rfl; apply gd_d; exact det_not rfl; apply gd_d; exact det_not rfl; apply gd_d; exact det_pick_t (v := .bool _) rfl rfl rfl rfl; refine gd_nil ?_; refine gO ?_; refine gc_if_true rfl ?_; refine gc_seq ?_; refine gc_region ?_; refine gM rfl rfl (by conv => (lhs; whnf)) ?_; refine gO ?_; refine gc_ret ?_; refine gx_block_ret ?_; refine gx_then_ret ?_; refine gx_then_ret ?_; refine gx_block_ret ?_; refine gx_then_ret ?_; rotate_left; apply gd_d; exact det_m rfl rfl (by conv => (lhs; whnf)); apply gd_d; exact det_m rfl rfl (by conv => (lhs; whnf)); apply gd_d; exact w_index (m := i) rfl rfl rfl rfl rfl (by omega); apply gd_d; exact w_load_row rfl rfl rfl (.there (.there (.there .here))) hr1; apply gd_d; exact det_cmp rfl rfl rfl rfl rfl; apply gd_d; exact det_m rfl rfl (by conv => (lhs; whnf)); refine gd_guard_dec rfl rfl (fun _ => ?_) (fun _ => ?_); apply gd_d; exact det_m rfl rfl (by conv => (lhs; whnf)); apply gd_d; exact det_m rfl rfl (by conv => (lhs; whnf)); apply gd_d; exact w_len rfl rfl rfl; apply gd_d; exact det_m rfl rfl (by conv => (lhs; whnf)); apply gd_d; exact det_ar rfl rfl rfl rfl rfl (by omega); apply gd_d; exact w_index (m := l.length + i) rfl rfl rfl rfl (castC _ _) (by omega); apply gd_d; exact w_load_row rfl rfl rfl (.there .here) hr3; apply gd_d; exact det_cmp rfl rfl rfl rfl rfl; apply gd_d; exact det_pick_t (v := .bool _) rfl rfl rfl rfl; apply gd_d; exact det_pick_f (v := .bool _) rfl rfl rfl rfl; apply gd_d; exact det_m rfl rfl (by conv => (lhs; whnf)); apply gd_d; exact det_not rfl; apply gd_d; exact det_not rfl; apply gd_d; exact det_not rfl; apply gd_d; exact det_not rfl; apply gd_d; exact det_not rfl; apply gd_d; exact det_not rfl; apply gd_d; exact det_not rfl; apply gd_d; exact det_not rfl; apply gd_d; exact det_not rfl; apply gd_d; exact det_not rfl; apply gd_d; exact det_not rfl; apply gd_d; exact det_not rfl; apply gd_d; exact det_not rfl; apply gd_d; exact det_not rfl; apply gd_d; exact det_not rfl; apply gd_d; exact det_pick_t (v := .bool _) rfl rfl rfl rfl; refine gd_nil ?_; refine gO ?_; refine gc_if_true rfl ?_; refine gc_seq ?_; refine gc_region ?_; refine gM rfl rfl (by conv => (lhs; whnf)) ?_; refine gO ?_; refine gc_ret ?_; refine gx_block_ret ?_; refine gx_then_ret ?_; refine gx_then_ret ?_; refine gx_block_ret ?_; refine gx_then_ret ?_; rotate_left; apply gd_d; exact det_not rfl; apply gd_d; exact det_not rfl; apply gd_d; exact det_not rfl; apply gd_d; exact det_not rfl; apply gd_d; exact det_not rfl; apply gd_d; exact det_not rfl; apply gd_d; exact det_not rfl; apply gd_d; exact det_not rfl; apply gd_d; exact det_pick_f (v := .bool _) rfl rfl rfl rfl; apply gd_d; exact det_pick_f (v := .bool _) rfl rfl rfl rfl; apply gd_d; exact det_m rfl rfl (by conv => (lhs; whnf)); apply gd_d; exact det_m rfl rfl (by conv => (lhs; whnf)); apply gd_d; exact det_m rfl rfl (by conv => (lhs; whnf)); apply gd_d; exact w_index (m := i) rfl rfl rfl rfl rfl (by omega); apply gd_d; exact w_load_row rfl rfl rfl (.there (.there (.there .here))) hr1; apply gd_d; exact det_cmp rfl rfl rfl rfl rfl; apply gd_d; exact det_m rfl rfl (by conv => (lhs; whnf)); refine gd_guard_dec rfl rfl (fun _ => ?_) (fun _ => ?_); apply gd_d; exact det_m rfl rfl (by conv => (lhs; whnf)); apply gd_d; exact det_m rfl rfl (by conv => (lhs; whnf)); apply gd_d; exact w_len rfl rfl rfl; apply gd_d; exact det_m rfl rfl (by conv => (lhs; whnf)); apply gd_d; exact det_ar rfl rfl rfl rfl rfl (by omega); apply gd_d; exact w_index (m := l.length + i) rfl rfl rfl rfl (castC _ _) (by omega); apply gd_d; exact w_load_row rfl rfl rfl (.there .here) hr3; apply gd_d; exact det_cmp rfl rfl rfl rfl rfl; apply gd_d; exact det_pick_t (v := .bool _) rfl rfl rfl rfl; apply gd_d; exact det_pick_f (v := .bool _) rfl rfl rfl rfl; refine gd_nil ?_; refine gO ?_; refine gc_if_dec rfl (fun _ => ?_) (fun _ => ?_); refine gc_seq ?_; refine gc_region ?_; refine gM rfl rfl (by conv => (lhs; whnf)) ?_; refine gO ?_; refine gc_ret ?_; refine gx_block_ret ?_; refine gx_then_ret ?_; refine gx_then_ret ?_; refine gx_block_ret ?_; refine gx_then_ret ?_; rotate_left; refine gc_skip ?_; refine gx_block ?_; refine gx_next ?_; refine gc_region ?_; refine gM rfl rfl (by conv => (lhs; whnf)) ?_; apply gw_d; exact det_ar rfl rfl rfl rfl rfl (by omega); refine gM rfl rfl (by conv => (lhs; whnf)) ?_; refine gw_nil ?_; rotate_left; apply gd_d; exact det_not rfl; apply gd_d; exact det_not rfl; apply gd_d; exact det_not rfl; apply gd_d; exact det_not rfl; apply gd_d; exact det_not rfl; apply gd_d; exact det_not rfl; apply gd_d; exact det_not rfl; apply gd_d; exact det_not rfl; apply gd_d; exact det_pick_f (v := .bool _) rfl rfl rfl rfl; apply gd_d; exact det_pick_f (v := .bool _) rfl rfl rfl rfl; refine gd_nil ?_; refine gO ?_; refine gc_if_false rfl ?_; refine gc_skip ?_; refine gx_block ?_; refine gx_next ?_; refine gc_region ?_; refine gM rfl rfl (by conv => (lhs; whnf)) ?_; apply gw_d; exact det_ar rfl rfl rfl rfl rfl (by omega); refine gM rfl rfl (by conv => (lhs; whnf)) ?_; refine gw_nil ?_; rotate_left)
          all_goals first | (exfalso; omega) | (exfalso; rename_i hne; exact hne rfl) | skip
          all_goals exact gx_round (i + 1) hil (by omega) (by repeat (first | exact Keeps.refl | refine Keeps.upd rfl ?_ | refine Keeps.sets rfl ?_ | refine Keeps.havoc rfl ?_)) ⟨rfl, trivial⟩ (Sub.all _)
      · focus (refine gc_exit ?_; refine gx_then_exit ?_; refine gx_then_exit ?_; refine gx_block_exit ?_; refine gx_next ?_; refine gc_seq ?_; refine gc_region ?_; apply gw_d; exact w_call rfl rfl (hA _) rfl; refine gM rfl rfl (by conv => (lhs; whnf)) ?_; refine gO ?_; refine gc_ret ?_)
        refine gx_ret1 (v := .bool _) rfl rfl (fun _ _ => ?_)
        rfl
  · have he2 : chgErr c.r c.le (opCheckE c.sty plE) c.bs c.ws c.xs.length (l ++ l).length = chgErr c.r c.le (opCheckE c.sty plE) c.bs c.ws c.xs.length l.length := by
      have q1 : ¬ (l ++ l).length > 300 := by omega
      have q2 : ¬ l.length > 300 := by omega
      unfold chgErr
      rw [if_neg q1, if_neg q2]
    have hC1 := fun (L : List Res) (w' : World) (s' : St w L w') => charges_bad (r := c.r) (le := c.le) (hL.later s') (StyV.later s' hs) (hb.later s') (hw.later s') (hx.later s') (hl'.later s') he
    have hC2 := fun (L L' : List Res) (w' : World) (A : Option Addr) (ca : Nat) (hp : Pick L (Own A (0 + l.length + l.length) ca 76 3 (l.flatMap encR ++ l.flatMap encR)) L') (s' : St w L w') => okM_of (charges_bad (r := c.r) (le := c.le) (hL.later s') (StyV.later s' hs) (hb.later s') (hw.later s') (hx.later s') (hsl L L' w' A ca hp s') (by rw [he2]; exact he))
    rw [he2] at hC2
    generalize chgErr c.r c.le (opCheckE c.sty plE) c.bs c.ws c.xs.length l.length = er at he hC1 hC2
    focus (apply gw_d; exact w_call rfl rfl (hC1 _) rfl; refine gM rfl rfl (by conv => (lhs; whnf)) ?_; apply gw_d; exact det_extract rfl rfl rfl (by conv => (lhs; whnf)); apply gw_d; exact det_extract rfl rfl rfl (by conv => (lhs; whnf)); apply gw_d; exact det_extract rfl rfl rfl (by conv => (lhs; whnf)); refine gM rfl rfl (by conv => (lhs; whnf)) ?_; refine gM rfl rfl (by conv => (lhs; whnf)) ?_; refine gM rfl rfl (by conv => (lhs; whnf)) ?_; refine gO ?_; refine gc_seq ?_)
    refine gc_ent (K := [Box bS 66 #[v0, v1, v2, v3, v4, v5, v6, vb, vw, vx, .int .i64 c.r, .int .i64 c.le]]) (Sub.ent (Sub.all _)) ?_
    generalize hLr : [Box bS 66 #[v0, v1, v2, v3, v4, v5, v6, vb, vw, vx, .int .i64 c.r, .int .i64 c.le]] = Lr
    obtain ⟨Ls, hpS⟩ : ∃ Ls, Pick Lr (Box bS 66 #[v0, v1, v2, v3, v4, v5, v6, vb, vw, vx, .int .i64 c.r, .int .i64 c.le]) Ls := by rw [← hLr]; exact ⟨_, .here⟩
    refine gc_blockJ (P := Tryz.prog) (Nat × Option Addr × Nat) 13 (fun i => ([[], [], [], [1, 2], [], [1, 2, 3, 4], [0, 1, 2, 3, 4, 5], [0, 1, 2, 3, 4, 5, 6], [0, 1, 2, 3, 4, 5, 6, 7], [0, 1, 2, 3, 4, 5, 6, 7], [0, 1, 2, 3, 4, 5, 6, 7], [0, 1, 2, 3, 4, 5, 6, 7, 8], [0, 1, 2, 3, 4, 5, 6, 7, 8, 9, 11]] : List (List Nat)).getD i []) (fun i γ => match i with
      | 0 => .agg #[v0, v1, v2, v3, v4, v5, v6, vb, vw, vx, .int .i64 c.r, .int .i64 c.le]
      | 1 => .slice (some ⟨(γ 1).1, 0, none⟩) 0 0
      | 2 => .slice Al l.length cl
      | 3 => .slice (γ 3).2.1 (0 + l.length) (γ 3).2.2
      | 4 => .slice Al l.length cl
      | 5 => .slice (γ 5).2.1 (0 + l.length + l.length) (γ 5).2.2
      | 6 => .tuple #[.slice none 0 0, .slice none 0 0, .int .i64 er]
      | 7 => .tuple #[.slice none 0 0, .slice none 0 0, .int .i64 er]
      | 8 => .slice none 0 0
      | 9 => .slice none 0 0
      | 10 => .int .i64 er
      | 11 => .slice none 0 0
      | 12 => .slice none 0 0
      | _ => undef) (fun ls β w' => (ls 3 = true → ls 1 = true) ∧ (ls 5 = true → ls 3 = true) ∧ (ls 6 = true → ls 5 = true) ∧ St w ((if ls 6 = true then ([] : List Res) else []) ++ ((if ls 5 = true then [Own (β 5).2.1 (0 + l.length + l.length) (β 5).2.2 76 3 (l.flatMap encR ++ l.flatMap encR)] else if ls 3 = true then [Own (β 3).2.1 (0 + l.length) (β 3).2.2 76 3 (l.flatMap encR)] else if ls 1 = true then [Own (some ⟨(β 1).1, 0, none⟩) 0 0 76 3 []] else []) ++ Lr)) w') rfl (by kernel_rfl) (fun w' s => ⟨fun h => (by cases h), fun h => (by cases h), fun h => (by cases h), s⟩) ?_ ?_
    · intro i o ls β w' hi hik hls hpl ⟨j1, j2, j3, hJ⟩
      have hS0 : St w Lr w' := hJ.sublist ((List.sublist_append_right _ _).trans (List.sublist_append_right _ _))
      have f3 : ls 1 = false → ls 3 = false := fun h => by cases hb : ls 3 with | false => rfl | true => (rw [j1 hb] at h; cases h)
      have f5 : ls 3 = false → ls 5 = false := fun h => by cases hb : ls 5 with | false => rfl | true => (rw [j2 hb] at h; cases h)
      have f6 : ls 5 = false → ls 6 = false := fun h => by cases hb : ls 6 with | false => rfl | true => (rw [j3 hb] at h; cases h)
      obtain rfl | rfl | rfl | rfl | rfl | rfl | rfl | rfl | rfl | rfl | rfl | rfl | rfl : i = 0 ∨ i = 1 ∨ i = 2 ∨ i = 3 ∨ i = 4 ∨ i = 5 ∨ i = 6 ∨ i = 7 ∨ i = 8 ∨ i = 9 ∨ i = 10 ∨ i = 11 ∨ i = 12 := by omega
      · cases hi
        exact detG (w_load_boxN rfl rfl rfl hpS rfl) rfl hS0 (fun w2 hx => ⟨default, rfl, j1, j2, j3, St.ext hJ hx⟩)
      · cases hi
        have g3 := f3 hls
        have g5 := f5 g3
        have g6 := f6 g5
        rw [hls, g3, g5, g6] at hJ
        refine ⟨rfl, (stepG_bslice0 rfl rfl hJ).mono fun u w2 hu => ?_⟩
        obtain ⟨b, hu, s2⟩ := hu
        refine ⟨(b, none, 0), hu, fun h => rfl, fun h => j2 h, fun h => j3 h, ?_⟩
        show St w ((if ls 6 = true then _ else []) ++ ((if ls 5 = true then _ else if ls 3 = true then _ else [Own (some ⟨b, 0, none⟩) 0 0 76 3 []]) ++ Lr)) w2
        rw [g3, g5, g6]
        exact s2
      · cases hi
        exact detG (det_m (v := .slice Al l.length cl) rfl rfl rfl) rfl hS0 (fun w2 hx => ⟨default, rfl, j1, j2, j3, St.ext hJ hx⟩)
      · cases hi
        have g1 : ls 1 = true := hpl 1 (by decide)
        have g5 := f5 hls
        have g6 := f6 g5
        rw [g1, hls, g5, g6] at hJ
        refine ⟨rfl, (stepG_append (sz := 3) (z := .agg #[.int .i64 0, .int .i64 0, .int .i64 0]) (n := 0) (m := l.length) (xs := []) (news := l.flatMap encR) rfl rfl .here hrl (fun w3 s3 hpos => hcells w3 s3.below hpos) encR_one (by unfold maxLen; omega) (by omega) (by decide) rfl hJ).mono fun u w2 hu => ?_⟩
        obtain ⟨A', c', hu, s2⟩ := hu
        refine ⟨(0, A', c'), hu, fun h => g1, fun h => rfl, fun h => j3 h, ?_⟩
        show St w ((if ls 6 = true then _ else []) ++ ((if ls 5 = true then _ else [Own A' (0 + l.length) c' 76 3 (l.flatMap encR)]) ++ Lr)) w2
        rw [g5, g6]
        exact s2
      · cases hi
        exact detG (det_m (v := .slice Al l.length cl) rfl rfl rfl) rfl hS0 (fun w2 hx => ⟨default, rfl, j1, j2, j3, St.ext hJ hx⟩)
      · cases hi
        have g3 : ls 3 = true := hpl 3 (by decide)
        have g1 := j1 g3
        have g6 := f6 hls
        rw [g3, hls, g6] at hJ
        refine ⟨rfl, (stepG_append (sz := 3) (z := .agg #[.int .i64 0, .int .i64 0, .int .i64 0]) (n := 0 + l.length) (m := l.length) (xs := l.flatMap encR) (news := l.flatMap encR) rfl rfl .here hrl (fun w3 s3 hpos => hcells w3 s3.below hpos) encR_one (by unfold maxLen; omega) (by omega) (by decide) rfl hJ).mono fun u w2 hu => ?_⟩
        obtain ⟨A', c', hu, s2⟩ := hu
        refine ⟨(0, A', c'), hu, fun h => g1, fun h => g3, fun h => rfl, ?_⟩
        show St w ((if ls 6 = true then _ else []) ++ ([Own A' (0 + l.length + l.length) c' 76 3 (l.flatMap encR ++ l.flatMap encR)] ++ Lr)) w2
        rw [g6]
        exact s2
      · cases hi
        have g5 : ls 5 = true := hpl 5 (by decide)
        rw [g5, hls] at hJ
        refine ⟨rfl, (stepG_callm (X := Unit) (l := [.agg #[v0, v1, v2, v3, v4, v5, v6, vb, vw, vx, .int .i64 c.r, .int .i64 c.le], .slice (β 5).2.1 (0 + l.length + l.length) (β 5).2.2]) rfl rfl (hC2 _ _ w' (β 5).2.1 (β 5).2.2 .here hJ) hJ).mono fun u w2 hu => ?_⟩
        obtain ⟨_, hu, s2⟩ := hu
        refine ⟨(0, none, 0), hu, fun h => j1 h, fun h => j2 h, fun h => g5, ?_⟩
        show St w ([] ++ ((if ls 5 = true then _ else _) ++ Lr)) w2
        rw [g5]
        exact s2
      · cases hi
        exact detG (det_m (v := .tuple #[.slice none 0 0, .slice none 0 0, .int .i64 er]) rfl rfl rfl) rfl hS0 (fun w2 hx => ⟨default, rfl, j1, j2, j3, St.ext hJ hx⟩)
      · cases hi
        exact detG (det_extract rfl rfl rfl rfl) rfl hS0 (fun w2 hx => ⟨default, rfl, j1, j2, j3, St.ext hJ hx⟩)
      · cases hi
        exact detG (det_extract rfl rfl rfl rfl) rfl hS0 (fun w2 hx => ⟨default, rfl, j1, j2, j3, St.ext hJ hx⟩)
      · cases hi
        exact detG (det_extract rfl rfl rfl rfl) rfl hS0 (fun w2 hx => ⟨default, rfl, j1, j2, j3, St.ext hJ hx⟩)
      · cases hi
        exact detG (det_m (v := .slice none 0 0) rfl rfl rfl) rfl hS0 (fun w2 hx => ⟨default, rfl, j1, j2, j3, St.ext hJ hx⟩)
      · cases hi
        exact detG (det_m (v := .slice none 0 0) rfl rfl rfl) rfl hS0 (fun w2 hx => ⟨default, rfl, j1, j2, j3, St.ext hJ hx⟩)
    · intro ls β w' hall2 hJ
      have hJ1 := hJ.2.2.2
      rw [hall2 5 (by decide), hall2 6 (by decide)] at hJ1
      subst hLr
      have hJ2 : St w [] w' := ⟨hJ1.below, trivial⟩
      refine GW.h (P := Tryz.prog) ?_ w' hJ2
      focus (refine gM rfl rfl (by conv => (lhs; whnf)) ?_; refine gO ?_; refine gc_seq ?_; refine gc_seq ?_; refine gc_region ?_; refine gM rfl rfl (by conv => (lhs; whnf)) ?_; refine gM rfl rfl (by conv => (lhs; whnf)) ?_; refine gC rfl rfl rfl rfl rfl ?_; refine gM rfl rfl (by conv => (lhs; whnf)) ?_; refine gw_guard_dec rfl rfl (fun _ => ?_) (fun _ => ?_); refine gU rfl ?_; refine gU rfl ?_; refine gU rfl ?_; refine gU rfl ?_; apply gw_d; exact det_pick_t (v := .bool _) rfl rfl rfl rfl; refine gO ?_; refine gc_if_true rfl ?_; refine gc_seq ?_; refine gc_region ?_; refine gM rfl rfl (by conv => (lhs; whnf)) ?_; refine gO ?_; refine gc_ret ?_; refine gx_then_ret ?_; rotate_left; refine gM rfl rfl (by conv => (lhs; whnf)) ?_; refine gM rfl rfl (by conv => (lhs; whnf)) ?_; apply gw_d; exact w_call rfl rfl (fun w' s => same_nil w') rfl; apply gw_d; exact det_not_ rfl rfl rfl; apply gw_d; exact det_pick_f (v := .bool _) rfl rfl rfl rfl; refine gO ?_; refine gc_if_false rfl ?_; refine gc_skip ?_; refine gx_next ?_; refine gc_seq ?_; refine gc_seq ?_; refine gc_region ?_; refine gM rfl rfl (by conv => (lhs; whnf)) ?_; refine gC rfl rfl rfl rfl rfl ?_; refine gO ?_; refine gc_if_dec rfl (fun _ => ?_) (fun _ => ?_); refine gc_seq ?_; refine gc_region ?_; refine gM rfl rfl (by conv => (lhs; whnf)) ?_; refine gL rfl rfl rfl ?_; refine gM rfl rfl (by conv => (lhs; whnf)) ?_; refine gL rfl rfl rfl ?_; apply gw_d; exact det_ar rfl rfl rfl rfl rfl (by omega); refine gM rfl rfl (by conv => (lhs; whnf)) ?_; refine gL rfl rfl rfl ?_; apply gw_d; exact det_ar rfl rfl rfl rfl rfl (by omega); refine gC rfl rfl rfl rfl rfl ?_; refine gM rfl rfl (by conv => (lhs; whnf)) ?_; apply gw_d; exact w_call rfl rfl (hA _) rfl; apply gw_d; exact det_pick_t (v := .bool _) rfl rfl rfl rfl; refine gM rfl rfl (by conv => (lhs; whnf)) ?_; refine gO ?_; refine gc_ret ?_; refine gx_then_ret ?_; rotate_left; refine gc_skip ?_; refine gx_next ?_; refine gc_seq ?_; refine gc_seq ?_; refine gc_region ?_; refine gM rfl rfl (by conv => (lhs; whnf)) ?_; refine gL rfl rfl rfl ?_; refine gM rfl rfl (by conv => (lhs; whnf)) ?_; refine gL rfl rfl rfl ?_; refine gC rfl rfl rfl rfl rfl ?_; refine gM rfl rfl (by conv => (lhs; whnf)) ?_; refine gw_guard_dec rfl rfl (fun _ => ?_) (fun _ => ?_); refine gU rfl ?_; refine gU rfl ?_; refine gU rfl ?_; refine gU rfl ?_; refine gU rfl ?_; refine gU rfl ?_; apply gw_d; exact det_pick_t (v := .bool _) rfl rfl rfl rfl; refine gO ?_; refine gc_if_true rfl ?_; refine gc_seq ?_; refine gc_region ?_; refine gM rfl rfl (by conv => (lhs; whnf)) ?_; refine gO ?_; refine gc_ret ?_; refine gx_then_ret ?_; rotate_left; refine gM rfl rfl (by conv => (lhs; whnf)) ?_; refine gL rfl rfl rfl ?_; refine gM rfl rfl (by conv => (lhs; whnf)) ?_; refine gL rfl rfl rfl ?_; apply gw_d; exact det_ar rfl rfl rfl rfl rfl (by omega); refine gC rfl rfl rfl rfl rfl ?_; apply gw_d; exact det_pick_f (v := .bool _) rfl rfl rfl rfl; refine gO ?_; refine gc_if_dec rfl (fun _ => ?_) (fun _ => ?_); refine gc_seq ?_; refine gc_region ?_; refine gM rfl rfl (by conv => (lhs; whnf)) ?_; refine gO ?_; refine gc_ret ?_; refine gx_then_ret ?_; rotate_left; refine gc_skip ?_; refine gx_next ?_; refine gc_seq ?_; refine gc_seq ?_; refine gc_region ?_; refine gM rfl rfl (by conv => (lhs; whnf)) ?_; refine gO ?_; refine gc_block ?_; rotate_left)
      all_goals first | (exfalso; rename_i hne; exact hne rfl) | (exfalso; omega) | skip
      all_goals (refine gx_ret1 (v := .bool _) rfl rfl (fun _ _ => ?_); rfl)
end Go.Proofs.YtljibjlkjelpbaaGreatDoor
