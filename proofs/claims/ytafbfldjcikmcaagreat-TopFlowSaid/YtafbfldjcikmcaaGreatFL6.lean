/- Texts in one file: QF QJ TO2 TZ QG QH TZS TZT Open Open2 TOP. -/
import Derived.Test.YtafbfldjcikmcaaGreatFL5
import Derived.Test.YtafbfldjcikmcaaGreatFL4
import Derived.Test.YtafbfldjcikmcaaGreatFL2
import Derived.Test.YtafbfldjcikmcaaGreatFL3
set_option maxRecDepth 100000
set_option maxHeartbeats 8000000
namespace Go.Proofs.YtafbfldjcikmcaaGreat
open Go.RowKit
structure GoodT (l : List Opn) (T : List Int) (bs : List Bun) (ds : List Dwn) (ts : List Tsk) (t : Tsk) : Prop where
 tk : ∃ b, ∃ hb : b < bs.length, ∃ o : Nat, o < l.length ∧ bs[b].tick = t.tick ∧ t.op = (o : Int) ∧ t.sta = T.getD o 0 ∧ t.fin = finF ds (l.getD o opZ) bs[b] t.start ∧ (0 ≤ t.start ∧ t.start ≤ 1073741824) ∧ (0 ≤ t.fin ∧ t.fin ≤ 1073741824)
 le : t.start ≤ t.fin
 one : ∀ u ∈ ts, ¬ (u.tick = t.tick ∧ u.op = t.op)
 aft : ∀ a ∈ (l.getD (t.op).toNat opZ).after, ∃ u ∈ ts, u.tick = t.tick ∧ u.op = a ∧ u.fin ≤ t.start
 lap : ∀ u ∈ ts, u.sta = t.sta → u.fin ≤ t.start
def AllGood (l : List Opn) (T : List Int) (bs : List Bun) (ds : List Dwn) (ts : List Tsk) : Prop := ∀ i (hi : i < ts.length), GoodT l T bs ds (ts.take i) ts[i]
section
variable {l : List Opn} {T : List Int} {bs : List Bun} {ds : List Dwn} {ts : List Tsk}
theorem AllGood.snoc {t : Tsk} (h : AllGood l T bs ds ts) (ht : GoodT l T bs ds ts t) : AllGood l T bs ds (ts ++ [t]) := fun i hi => by
 rw [List.length_append] at hi
 simp only [List.length_cons, List.length_nil] at hi
 by_cases hlt : i < ts.length
 ·rw [List.getElem_append_left hlt, List.take_append_of_le_length (by omega)]
  exact h i hlt
 ·have hie : i = ts.length := by omega
  subst hie
  rw [List.getElem_append_right (Nat.le_refl _), List.take_left]
  simpa using ht
theorem AllGood.valid (h : AllGood l T bs ds ts) (hl : ts.length = bs.length * l.length) : Valid l T bs ds ts := by
 refine ⟨hl, fun i hi => (h i hi).tk, fun i j hi hj hji => ?_, fun i hi a ha => ?_, fun i j hi hj hji hs => ?_⟩
 ·exact (h i hi).one _ (List.mem_take_iff_getElem.2 ⟨j, by omega, rfl⟩)
 ·obtain ⟨u, hu, h1, h2, h3⟩ := (h i hi).aft a ha
  obtain ⟨j, hj, rfl⟩ := List.mem_take_iff_getElem.1 hu
  exact ⟨j, by omega, by omega, h1, h2, h3⟩
 ·exact (h i hi).lap _ (List.mem_take_iff_getElem.2 ⟨j, by omega, rfl⟩) hs
theorem AllGood.mem (h : AllGood l T bs ds ts) {t : Tsk} (ht : t ∈ ts) : ∃ ps, GoodT l T bs ds ps t := by
 obtain ⟨i, hi, rfl⟩ := List.getElem_of_mem ht
 exact ⟨_, h i hi⟩
theorem AllGood.perm {R : List Bun} (hR : ∀ x ∈ R, x ∈ bs) (h : AllGood l T R ds ts) : AllGood l T bs ds ts := fun i hi => by
 have hg := h i hi
 obtain ⟨b, hb, o, h1, h2, h3, h4, h5, h6⟩ := hg.tk
 obtain ⟨b', hb', he⟩ := List.getElem_of_mem (hR _ (List.getElem_mem hb))
 exact ⟨⟨b', hb', o, h1, by rw [he]; exact h2, h3, h4, by rw [he]; exact h5, h6⟩, hg.le, hg.one, hg.aft, hg.lap⟩
theorem endF_neg (h : ∀ u ∈ ts, 0 ≤ u.fin) {t o : Int} (he : endF ts t o = -1) : ∀ u ∈ ts, ¬ (u.tick = t ∧ u.op = o) := fun u hu hc => by
 unfold endF at he
 cases hf : ts.find? (sameB t o) with
 | none =>
  have := List.find?_eq_none.1 hf u hu
  unfold sameB at this
  rw [decide_eq_true hc.1, decide_eq_true hc.2] at this
  exact this rfl
 | some y =>
  rw [hf] at he
  have h1 : y.fin = -1 := he
  have := h y (List.mem_of_find?_eq_some hf)
  omega
theorem endF_pos {t o : Int} (he : ¬ endF ts t o = -1) : ∃ u ∈ ts, u.tick = t ∧ u.op = o ∧ u.fin = endF ts t o := by
 unfold endF at he ⊢
 cases hf : ts.find? (sameB t o) with
 | none => rw [hf] at he; exact absurd rfl he
 | some y =>
  have h1 := List.find?_some hf
  unfold sameB at h1
  rw [Bool.and_eq_true, decide_eq_true_eq, decide_eq_true_eq] at h1
  exact ⟨y, List.mem_of_find?_eq_some hf, h1.1, h1.2, rfl⟩
end
/-- What holds of a state on the way. -/
structure SimInv (l : List Opn) (T : List Int) (m : Nat) (R : List Bun) (ds : List Dwn) (S : SimS) : Prop where
 ok : SimOk l m R S
 good : AllGood l T R ds S.2.2
 ends : ∀ b (hb : b < R.length), ∀ o : Nat, o < l.length → (S.1.getD b []).getD o 0 = endF S.2.2 R[b].tick (o : Int)
 busy : ∀ u ∈ S.2.2, u.fin ≤ S.2.1.getD u.sta.toNat 0
 cnt : S.2.2.length + cntE S.1 = R.length * l.length
theorem sim_put {l : List Opn} {T : List Int} {m : Nat} {R : List Bun} {ds : List Dwn} {S : SimS} {b o : Nat} {s : Int} (hop : ∀ i (hi : i < l.length), 1 ≤ l[i].minutes ∧ l[i].minutes ≤ 10000 ∧ 0 ≤ l[i].machine ∧ l[i].machine < 8 ∧ areIx l[i].after l.length = true) (hbr : ∀ b ∈ R, 1 ≤ b.upto - b.fr ∧ b.upto - b.fr ≤ 40) (hTl : T.length = l.length) (hTr : ∀ x ∈ T, 0 ≤ x ∧ x < (m : Int)) (hTix : Tix (ticks R))
  (h : SimInv l T m R ds S) (hb : b < R.length) (ho : o < l.length) (he : earlF l T S.2.1 S.1 b o = (s, true)) (hM : ¬ finF ds (l.getD o opZ) (R.getD b bunZ) s > 1073741824) : SimInv l T m R ds (simPut l T R ds S b o s) := by
 have hRb : R.getD b bunZ = R[b] := by rw [List.getD_eq_getElem?_getD, List.getElem?_eq_getElem hb]; rfl
 have hlo : l.getD o opZ = l[o] := by rw [List.getD_eq_getElem?_getD, List.getElem?_eq_getElem ho]; rfl
 have hoi := hop o ho
 have hbi := hbr _ (List.getElem_mem hb)
 have hs := h.ok.start he
 have hge : s ≤ finF ds (l.getD o opZ) (R.getD b bunZ) s := by
  rw [hlo, hRb]
  exact finF_ge (mul_range ⟨hoi.1, hoi.2.1⟩ hbi).1
 obtain ⟨hneg, hgo⟩ := earl_true he
 obtain ⟨hbs, haf⟩ := earlGo_some _ _ _ hgo
 have hfin0 : ∀ u ∈ S.2.2, 0 ≤ u.fin := fun u hu => by
  obtain ⟨_, hg⟩ := h.good.mem hu
  obtain ⟨_, _, _, _, _, _, _, _, _, h1⟩ := hg.tk
  exact h1.1
 have hbe : b < S.1.length := by rw [h.ok.elen]; exact hb
 have hrl := h.ok.rows b hbe
 have hone : ∀ u ∈ S.2.2, ¬ (u.tick = R[b].tick ∧ u.op = (o : Int)) := endF_neg hfin0 (by rw [← h.ends b hb o ho]; exact hneg)
 have hTo : T.getD o 0 ∈ T := by
  rw [List.getD_eq_getElem?_getD, List.getElem?_eq_getElem (by omega)]
  exact List.getElem_mem _
 have hTq := hTr _ hTo
 have hok2 := SimOk.put (T := T) (ds := ds) h.ok hb (by omega : 0 ≤ finF ds (l.getD o opZ) (R.getD b bunZ) s ∧ finF ds (l.getD o opZ) (R.getD b bunZ) s ≤ 1073741824)
 have hcn := cnt_put (T := T) (ds := ds) h.ok hb ho he (by omega)
 have hcnt := h.cnt
 refine ⟨hok2, ?_, ?_, ?_, ?_⟩
 ·unfold simPut
  refine h.good.snoc ⟨⟨b, hb, o, ho, by rw [hRb], rfl, rfl, by rw [hRb], hs, by dsimp only; omega⟩, hge, by rw [hRb]; exact hone, fun a ha => ?_, fun u hu hu2 => ?_⟩
  ·dsimp only at ha ⊢
   rw [Int.toNat_natCast] at ha
   have h1 := haf a ha
   rw [hlo] at ha
   have hax := areIx_at hoi.2.2.2.2 a ha
   have h2 := h.ends b hb a.toNat (by omega)
   rw [Int.toNat_of_nonneg hax.1] at h2
   rw [h2] at h1
   obtain ⟨u, hu, e1, e2, e3⟩ := endF_pos h1.1
   exact ⟨u, hu, by rw [hRb]; exact e1, e2, by rw [e3]; exact h1.2⟩
  ·dsimp only at hu2 ⊢
   have := h.busy u hu
   rw [hu2] at this
   omega
 ·unfold simPut
  rw [hRb]
  generalize finF ds (l.getD o opZ) R[b] s = e
  intro b' hb' o' ho'
  dsimp only
  rw [endF_snoc, getD_set']
  have hold := h.ends b' hb' o' ho'
  by_cases hbb : b = b'
  ·subst hbb
   rw [if_pos ⟨rfl, hbe⟩, getD_set']
   by_cases hoo : o = o'
   ·subst hoo
    have hnone := endF_none hone
    have hsb : sameB R[b].tick (o : Int) ⟨R[b].tick, (o : Int), T.getD o 0, s, e⟩ = true := by
     unfold sameB
     simp
    rw [if_pos ⟨rfl, by omega⟩, hnone, if_neg (by simp), if_pos hsb]
   ·have hsb : ¬ sameB R[b].tick (o' : Int) ⟨R[b].tick, (o : Int), T.getD o 0, s, e⟩ = true := fun hc => by
     unfold sameB at hc
     rw [Bool.and_eq_true, decide_eq_true_eq, decide_eq_true_eq] at hc
     have : (o : Int) = (o' : Int) := hc.2
     omega
    rw [if_neg (fun hc => hoo hc.1), hold, if_neg hsb]
    unfold endF
    cases S.2.2.find? (sameB R[b].tick (o' : Int)) <;> simp
  ·have hsb : ¬ sameB R[b'].tick (o' : Int) ⟨R[b].tick, (o : Int), T.getD o 0, s, e⟩ = true := fun hc => by
    unfold sameB at hc
    rw [Bool.and_eq_true, decide_eq_true_eq, decide_eq_true_eq] at hc
    have h1 : R[b].tick = R[b'].tick := hc.1
    have h2 : (ticks R).length = R.length := by unfold ticks; rw [List.length_map]
    exact hbb (hTix.inj (i := b) (j := b') (by omega) (by omega) (by rw [ticks_at hb, ticks_at hb', h1]))
   rw [if_neg (fun hc => hbb hc.1), hold, if_neg hsb]
   unfold endF
   cases S.2.2.find? (sameB R[b'].tick (o' : Int)) <;> simp
 ·unfold simPut
  rw [hRb]
  rw [hRb] at hge
  generalize finF ds (l.getD o opZ) R[b] s = e at hge
  intro u hu
  dsimp only at hu ⊢
  rw [getD_set']
  rcases List.mem_append.1 hu with h1 | h1
  ·have h2 := h.busy u h1
   split
   ·rename_i hc
    rw [hc.1] at hbs
    omega
   ·exact h2
  ·rw [List.mem_singleton] at h1
   subst h1
   rw [if_pos ⟨rfl, by rw [h.ok.blen]; omega⟩]
   exact Int.le_refl _
 ·unfold simPut at hcn ⊢
  dsimp only at hcn ⊢
  rw [List.length_append]
  simp only [List.length_cons, List.length_nil]
  omega
theorem cnt_zero {n : Nat} : ∀ (E : List (List Int)), (∀ k, k < E.length → (E.getD k []).length = n) → (∀ k, k < E.length → ∀ o, o < n → ¬ (E.getD k []).getD o 0 = -1) → cntE E = 0
 | [], _, _ => rfl
 | r :: E, h1, h2 => by
  have ih := cnt_zero E (fun k hk => h1 (k + 1) (by simp; omega)) (fun k hk => h2 (k + 1) (by simp; omega))
  show r.count (-1) + cntE E = 0
  have hr : r.length = n := h1 0 (by simp)
  have hz : r.count (-1) = 0 := List.count_eq_zero.2 fun hm => by
   obtain ⟨o, ho, he⟩ := List.getElem_of_mem hm
   refine h2 0 (by simp) o (by omega) ?_
   show r.getD o 0 = -1
   rw [List.getD_eq_getElem?_getD, List.getElem?_eq_getElem ho]
   exact he
  omega
theorem sim_all {l : List Opn} {T : List Int} {m : Nat} {R : List Bun} {ds : List Dwn} {so : List Nat} (hso : Topo l so) (hop : ∀ i (hi : i < l.length), 1 ≤ l[i].minutes ∧ l[i].minutes ≤ 10000 ∧ 0 ≤ l[i].machine ∧ l[i].machine < 8 ∧ areIx l[i].after l.length = true) (hbr : ∀ b ∈ R, 1 ≤ b.upto - b.fr ∧ b.upto - b.fr ≤ 40) (hTl : T.length = l.length) (hTr : ∀ x ∈ T, 0 ≤ x ∧ x < (m : Int)) (hTix : Tix (ticks R)) {ts : List Tsk} :
  ∀ (f : Nat) (S : SimS), SimInv l T m R ds S → cntE S.1 < f → simGo l T R ds f S = some ts → AllGood l T R ds ts ∧ ts.length = R.length * l.length ∧ ∀ b (hb : b < R.length), ∀ o : Nat, o < l.length → ∃ u ∈ ts, u.tick = R[b].tick ∧ u.op = (o : Int)
 | 0, S, _, hc, _ => by omega
 | f + 1, S, h, hc, hs => by
  unfold simGo at hs
  generalize hnx : nextF (earlF l T S.2.1 S.1) S.1.length l.length = r at hs
  obtain ⟨b, o, s, ok⟩ := r
  cases ok with
  | false =>
   have hs : some S.2.2 = some ts := hs
   injection hs with hs
   subst hs
   have hf := next_false hnx
   have hel := h.ok.elen
   have hall : ∀ b, b < S.1.length → ∀ j (hj : j < so.length), ¬ (S.1.getD b []).getD so[j] 0 = -1 := fun b hb j => by
    induction j using Nat.strongRecOn with
    | ind j ih =>
     intro hj hneg
     have hol : so[j] < l.length := (hso.mem _).1 (List.getElem_mem hj)
     rcases earl_false (hf b hb so[j] hol) with h1 | ⟨a, ha, h1⟩
     ·exact h1 hneg
     ·have hm := hso.after j hj a ha
      obtain ⟨i, hi, hie⟩ := List.mem_take_iff_getElem.1 hm
      have := ih i (by omega) (by omega)
      rw [hie] at this
      exact this h1
   have hall2 : ∀ b, b < S.1.length → ∀ o, o < l.length → ¬ (S.1.getD b []).getD o 0 = -1 := fun b hb o ho => by
    obtain ⟨j, hj, he⟩ := List.getElem_of_mem ((hso.mem o).2 ho)
    rw [← he]
    exact hall b hb j hj
   have hz := cnt_zero S.1 h.ok.rows hall2
   have hcnt := h.cnt
   refine ⟨h.good, by omega, fun b hb o ho => ?_⟩
   have h1 := hall2 b (by omega) o ho
   rw [h.ends b hb o ho] at h1
   obtain ⟨u, hu, e1, e2, _⟩ := endF_pos h1
   exact ⟨u, hu, e1, e2⟩
  | true =>
   obtain ⟨hbE, hol, hearl⟩ := next_true hnx
   have hbR : b < R.length := by rw [← h.ok.elen]; exact hbE
   have hs : (if finF ds (l.getD o opZ) (R.getD b bunZ) s > 1073741824 then none else simGo l T R ds f (simPut l T R ds S b o s)) = some ts := hs
   by_cases hM : finF ds (l.getD o opZ) (R.getD b bunZ) s > 1073741824
   ·rw [if_pos hM] at hs
    cases hs
   ·rw [if_neg hM] at hs
    have hi := sim_put hop hbr hTl hTr hTix h hbR hol hearl hM
    have hcn := hi.cnt
    have hcn0 := h.cnt
    have hlen : (simPut l T R ds S b o s).2.2.length = S.2.2.length + 1 := by unfold simPut; simp
    exact sim_all hso hop hbr hTl hTr hTix f _ hi (by omega) hs
section
variable {l : List Opn} {ws : List Wrk} {tk : List Int}
def Fine (l : List Opn) (ws : List Wrk) (tk : List Int) (y : Scn) : Prop := hasB tk y.tick = true ∧ knownB l ws y = true ∧ canAt ws y.who (machAt l y.op) = true
theorem Fine.known {y : Scn} (h : Fine l ws tk y) : (0 ≤ y.op ∧ y.op < l.length) ∧ (0 ≤ y.who ∧ y.who < ws.length) ∧ (0 ≤ y.time ∧ y.time ≤ 1073741824) := by
 have := of_decide_eq_true h.2.1
 omega
theorem paidB_mem {ps : List Scn} {y : Scn} (h : y ∈ ps) : paidB ps y.tick y.op = true := by
 unfold paidB
 rw [List.any_eq_true]
 exact ⟨y, h, by simp⟩
theorem out_again {ps : List Scn} {y : Scn} (hf : Fine l ws tk y) (h : y ∈ ps) : outE l ws tk ps y = 2 := by
 unfold outE
 rw [if_neg (by rw [hf.1]; decide)]
 unfold judgeE
 rw [if_neg (by rw [hf.2.1]; decide), if_neg (by rw [hf.2.2]; decide), if_pos (paidB_mem h)]
end
theorem judgeAllR_ok (w : World) (v0 v1 v2 v3 v4 v5 v6 vb vw vx : Value) (e : Int) (l : List Opn) (bs : List Bun) (ws : List Wrk) (xs : List Scn) (hO : ∀ (L : List Res) (w' : World), St w L w' → Ok Tryz.prog 27 [.agg #[v0, v1, v2, v3, v4, v5, v6]].toArray w' fun x _ => x = .int .i64 e)
  (hl : Sl rOp w w.heap.size v6 l) (hb : Sl rBun w w.heap.size vb bs) (hw : Sl rWrk w w.heap.size vw ws) (hx : Sl rScn w w.heap.size vx xs) (hS : Small l) (he : scanE e bs ws = 0) (h300 : ¬ xs.length > 300) :
  OkM Tryz.prog 30 [.agg #[v0, v1, v2, v3, v4, v5, v6], vb, vw, vx].toArray w (fun x : Nat × Nat × (Nat → Nat) => .tuple #[.slice (some ⟨x.1, 0, none⟩) xs.length xs.length, .map (some x.2.1), .int .i64 0]) (fun x => [Box x.1 3 ((outs l ws (ticks bs) [] xs).map (Value.int .i64)).toArray, Coll (ticks bs).length (recF (ticks bs) x.2.2 112 (paidL l ws (ticks bs) xs)), MapR x.2.1 kInt (mapK (ticks bs) x.2.2 (ticks bs).length)]) := by
 have hC : ∀ (L : List Res) (w' : World), St w L w' → Ok Tryz.prog 8 [.agg #[v0, v1, v2, v3, v4, v5, v6], vb, vw].toArray w' fun x _ => x = .int .i64 0 := fun L w' s => by
  have := scanCheck_ok w' v0 v1 v2 v3 v4 v5 v6 vb vw e bs ws (fun L' w2 s2 => hO [] w2 ⟨s.below.trans (Below.mono s2.below s.below.size), trivial⟩) (hb.later s) (hw.later s)
  rw [he] at this
  exact this
 have hOk := scan_good he
 have htl : (ticks bs).length = bs.length := by simp [ticks]
 obtain ⟨Al, cl, rfl, hlc, hlm⟩ := len_small hl
 obtain ⟨Ab, cb, rfl, hbc, hbm, hbcell⟩ := hb.bun
 obtain ⟨Aw, cw, rfl, hwc, hwm, _⟩ := hw.wrk
 obtain ⟨Ax, cx, rfl, hxc, hxm, hxcell⟩ := hx.scn
 unfold OkM
 refine ok_enter Tryz.func30 rfl Tryz.ntmps30 rfl ?_
 (refine gV ?_; refine gw_boxd (v := .agg _) rfl rfl (fun _ => ?_); (iterate 3 refine gM ?_); refine gO ?_; refine gQ ?_; refine gV ?_; apply gw_d; exact w_load_boxN rfl rfl rfl .here rfl; (iterate 2 refine gM ?_); apply gw_d; exact w_call rfl rfl (hC _) rfl; refine gM ?_; refine gN ?_; refine gM ?_; refine gC ?_; refine gO ?_)
 rename_i bv
 refine gc_if_dec rfl (fun h => absurd rfl h) (fun _ => ?_)
 (refine gK ?_; refine gX ?_; refine gQ ?_; refine gV ?_; refine gM ?_; refine gL ?_; refine gC ?_; refine gO ?_)
 refine gc_if_dec rfl (fun h => by omega) (fun _ => ?_)
 (refine gK ?_; refine gX ?_; refine gV ?_)
 refine gw_makeMap kInt rfl (fun bm => ?_)
 (refine gM ?_; refine gO ?_; refine gQ ?_; refine gV ?_; refine gM ?_; refine gL ?_; refine gM ?_; refine gO ?_; refine gB ?_)
 refine gc_ent (coll_nil (F := recF (ticks bs) (fun _ => 0) 112 [])) ?_
 refine gc_loop (σ := Nat × (Nat → Nat)) [33, 34, 35, 14, 36, 37, 38, 39, 40, 41, 32] (fun s => [(32, .int .i64 s.1)]) (fun s => [Coll s.1 (recF (ticks bs) s.2 112 []), MapR bm kInt (mapK (ticks bs) s.2 s.1), Box bv 29 #[v0, v1, v2, v3, v4, v5, .slice Al l.length cl]]) (fun s => s.1 ≤ bs.length) (fun s => bs.length - s.1) (0, fun _ => 0) (Nat.zero_le _) ⟨rfl, trivial⟩ (.cons .here (.cons .here (.cons .here .nil))) ?_
 rintro ⟨k, β⟩ base hk
 dsimp only at hk ⊢
 (refine gV ?_; refine gC ?_; refine gO ?_; refine gQ ?_)
 refine gc_if_dec rfl (fun h => ?_) (fun h => ?_)
 ·have hlt : k < bs.length := by omega
  obtain ⟨ad, rfl, hbk, hce, h1, h2, h3⟩ := hbcell k hlt
  (refine gK ?_; refine gX ?_; refine gQ ?_; refine gB ?_; refine gV ?_; apply gw_d; exact w_index rfl rfl rfl rfl (by with_reducible exact rfl) (by omega); apply gw_d; exact w_load_elem rfl rfl rfl (by assumption) (by assumption) (by rfl); refine w_alloc rfl (fun _ => ?_); refine w_store_all rfl rfl rfl rfl rfl .here rfl ?_; refine gO ?_; refine gG ?_; refine gM ?_; refine gF ?_; refine gW .here ?_; apply gw_d; exact w_buildP [] (cells := recC [] 0) (by rfl) rfl rfl rfl; refine gw_boxd (v := .agg _) rfl rfl (fun _ => ?_))
  rename_i b1 b2
  refine gw_mapSet (k := bs[k].tick) (v := .pointer (some ⟨b2, 0, none⟩)) intLawC rfl rfl rfl rfl (.there (.there (.there .here))) ?_
  have hmap : aset (mapK (ticks bs) β k) bs[k].tick (.pointer (some ⟨b2, 0, none⟩)) = mapK (ticks bs) (fun i => if i = k then b2 else β i) (k + 1) := by
   show _ = aset (mapK (ticks bs) (fun i => if i = k then b2 else β i) k) (tkAt (ticks bs) k) (ptrAt (fun i => if i = k then b2 else β i) k)
   rw [mapK_congr (β := β) (β' := fun i => if i = k then b2 else β i) k (fun i hi => by rw [if_neg (by omega)]), ticks_at hlt]
   simp [ptrAt]
  rw [hmap]
  (refine gw_nil ?_; refine gH ?_; refine gX ?_; refine gG ?_; refine gA ?_; refine gM ?_; refine gw_nil ?_)
  refine gx_roundE (k + 1, fun i => if i = k then b2 else β i) hlt (by dsimp only; omega) kK ⟨rfl, trivial⟩ ?_
  refine Ent.trans (Sub.ent (K := [Box b2 112 (recC [] (tkAt (ticks bs) k)), Coll k (recF (ticks bs) β 112 []), MapR bm kInt (mapK (ticks bs) (fun i => if i = k then b2 else β i) (k + 1)), Box bv 29 #[v0, v1, v2, v3, v4, v5, .slice Al l.length cl]]) (.cons (.there .here) (.cons (.there (.there .here)) (.cons .here (.cons (.there .here) .nil))))) rec_push
 obtain rfl : k = bs.length := by omega
 (refine gI ?_; (iterate 2 refine gZ ?_); refine gJ ?_; refine gX ?_; refine gV ?_; refine gM ?_; refine gL ?_)
 refine gw_make1 (n := xs.length) rfl rfl rfl rfl rfl (by omega) (by omega) rfl (fun g => ?_)
 rw [show Array.replicate xs.length ((Value.int .i64 0).cells.getD 0 undef) = ((outRow (outs l ws (ticks bs) [] (xs.take 0)) xs.length).map (Value.int .i64)).toArray from by rw [List.take_zero]; show _ = ((outRow [] xs.length).map (Value.int .i64)).toArray; rw [outRow_nil]; exact row_make (Value.int .i64) xs.length 0]
 (refine gM ?_; refine gO ?_; refine gQ ?_; refine gV ?_; refine gM ?_; refine gL ?_; refine gM ?_; refine gO ?_; refine gB ?_)
 refine gc_loop (σ := Nat) [48, 49, 50, 51, 17, 16, 52, 53, 54, 55, 18, 56, 57, 58, 59, 60, 61, 62, 63, 64, 65, 66, 67, 68, 69, 70, 71, 72, 73, 74, 75, 76, 77, 78, 79, 80, 81, 47] (fun i => [(47, .int .i64 i)]) (fun i => [Box g 3 ((outRow (outs l ws (ticks bs) [] (xs.take i)) xs.length).map (Value.int .i64)).toArray, Coll (ticks bs).length (recF (ticks bs) β 112 (paidL l ws (ticks bs) (xs.take i))), MapR bm kInt (mapK (ticks bs) β (ticks bs).length), Box bv 29 #[v0, v1, v2, v3, v4, v5, .slice Al l.length cl]]) (fun i => i ≤ xs.length) (fun i => xs.length - i) 0 (Nat.zero_le _) ⟨rfl, trivial⟩ (by rw [htl]; exact (.cons .here (.cons .here (.cons .here (.cons .here .nil))))) ?_
 rintro i base2 hi
 (refine gV ?_; refine gC ?_; refine gO ?_; refine gQ ?_)
 refine gc_if_dec rfl (fun h2 => ?_) (fun h2 => ?_)
 ·have hil : i < xs.length := by omega
  obtain ⟨ad2, rfl, hxk, hcx, x1, x2, x3, x4⟩ := hxcell i hil
  have hol := outs_len l ws (ticks bs) (xs.take i) []
  rw [List.length_take, Nat.min_eq_left (by omega)] at hol
  have hosn := outs_snoc l ws (ticks bs) xs[i] (xs.take i) []
  have hpsn := paidL_snoc l ws (ticks bs) (xs.take i) xs[i]
  rw [← List.take_succ_eq_append_getElem hil] at hosn hpsn
  change _ = _ ++ [outE l ws (ticks bs) (paidL l ws (ticks bs) (xs.take i)) xs[i]] at hosn
  generalize paidL l ws (ticks bs) (xs.take i) = ps at *
  generalize outs l ws (ticks bs) [] (xs.take i) = os at *
  have hrl := outRow_len (l := os) (n := xs.length) (by omega)
  generalize xs[i] = x at *
  (refine gK ?_; refine gX ?_; refine gQ ?_; refine gB ?_; refine gV ?_; refine gM ?_; apply gw_d; exact w_index rfl rfl rfl rfl (by with_reducible exact rfl) (by omega); apply gw_d; exact w_load_elem rfl rfl rfl (by assumption) (by assumption) (by rfl); refine w_alloc rfl (fun _ => ?_); refine gM ?_; refine w_store_all rfl rfl rfl rfl rfl .here rfl ?_; refine gN ?_; refine gM ?_; refine gF ?_; refine gW .here ?_)
  rename_i bx
  have hset : ∀ v : Int, (outRow os xs.length).set i v = outRow (os ++ [v]) xs.length := fun v => by
   have := outRow_set (l := os) (n := xs.length) (by omega) v
   rw [hol] at this
   exact this
  have hgot : ∀ v : Int, (((outRow (os ++ [v]) xs.length).map (Value.int .i64)).toArray)[i * 1]? = some (.int .i64 v) := fun v => by
   rw [← hset v, row_get (Value.int .i64) 0 (by rw [List.length_set]; omega)]
   simp [hrl, hil]
  cases hT : hasB (ticks bs) x.tick with
  | false =>
   have hget := mapK_none (β := β) (ticks bs).length (tk_not hT)
   have hE : outE l ws (ticks bs) ps x = 3 := by unfold outE; rw [if_pos hT]
   have hN : nextP l ws (ticks bs) ps x = ps := by unfold nextP; rw [hE]; rfl
   rw [hE] at hosn
   rw [hN] at hpsn
   (apply gw_d; exact det_eq (c' := .pointer none) (w_lookup (k := x.tick) intLawC rfl rfl rfl rfl (.there (.there (.there .here)))) (by rw [hget]; rfl); refine gM ?_; refine gN ?_; (iterate 2 refine gM ?_); refine gF ?_; refine gW (.there (.there (.there (.there .here)))) ?_; (iterate 2 refine gM ?_); apply gw_d; exact w_load_boxN rfl rfl rfl .here rfl; apply gw_d; exact w_call rfl rfl (fun w' _ => judge_nil w' _ _ x) rfl; apply gw_d; exact w_index rfl rfl rfl rfl (by with_reducible exact rfl) (by omega))
   refine w_store_row (n := 1) (v := .int .i64 3) rfl rfl rfl rfl rfl (.there .here) (by simp; omega) (row_set (Value.int .i64) (by omega) _) ?_
   rw [hset 3]
   (refine gN ?_; (iterate 2 refine gM ?_); apply gw_d; exact w_index rfl rfl rfl rfl (by with_reducible exact rfl) (by omega); apply gw_d; exact w_load_row rfl rfl rfl .here (hgot 3); refine gC ?_; refine gO ?_)
   refine gc_if_dec rfl (fun h => absurd h (by decide)) (fun _ => ?_)
   (refine gK ?_; refine gH ?_; refine gX ?_; refine gG ?_; refine gA ?_; refine gM ?_; refine gw_nil ?_)
   refine gx_round (i + 1) hil (by omega) kK ⟨rfl, trivial⟩ ?_
   rw [hosn, hpsn]
   exact .cons .here (.cons (.there .here) (.cons (.there .here) (.cons (.there .here) .nil)))
  | true =>
   obtain ⟨j, hj, hjt⟩ := tk_has hT
   have hget := mapK_old (β := β) hOk.tix (ticks bs).length (Nat.le_refl _) j hj
   rw [hjt] at hget
   have hE : outE l ws (ticks bs) ps x = judgeE l ws ps x := by unfold outE; rw [if_neg (by rw [hT]; decide)]
   (apply gw_d; exact det_eq (c' := .pointer (some ⟨β j, 0, none⟩)) (w_lookup (k := x.tick) intLawC rfl rfl rfl rfl (.there (.there (.there .here)))) (by rw [hget]; rfl); refine gM ?_; refine gN ?_; (iterate 2 refine gM ?_); refine gF ?_; refine gW (.there (.there (.there (.there .here)))) ?_; (iterate 2 refine gM ?_); apply gw_d; exact w_load_boxN rfl rfl rfl .here rfl; apply gw_d; exact w_call rfl rfl (fun w' s => judge_ok w' (.slice Al l.length cl) (.slice Aw ws.length cw) (β j) 112 l ws ps x (hl.later s) (hw.later s) hS (by have h9 := (s.pick (.there (.there .here))).head.1 j hj; unfold recF at h9; rw [hjt] at h9; exact h9)) rfl; apply gw_d; exact w_index rfl rfl rfl rfl (by with_reducible exact rfl) (by omega))
   refine w_store_row (n := 1) (v := .int .i64 (judgeE l ws ps x)) rfl rfl rfl rfl rfl (.there .here) (by simp; omega) (row_set (Value.int .i64) (by omega) _) ?_
   rw [hset]
   rw [hE] at hosn
   (refine gN ?_; (iterate 2 refine gM ?_); apply gw_d; exact w_index rfl rfl rfl rfl (by with_reducible exact rfl) (by omega); apply gw_d; exact w_load_row rfl rfl rfl .here (hgot _); refine gC ?_; refine gO ?_)
   refine gc_if_dec rfl (fun h1 => ?_) (fun h1 => ?_)
   ·have hN : nextP l ws (ticks bs) ps x = ps ++ [x] := by unfold nextP; rw [hE, if_pos h1]
    rw [hN] at hpsn
    have hkn : 0 ≤ x.op ∧ x.op < l.length := by
     unfold judgeE at h1
     split at h1
     ·cases h1
     ·rename_i h9
      have : knownB l ws x = true := by simpa using h9
      unfold knownB at this
      have := of_decide_eq_true this
      exact ⟨this.1, this.2.1⟩
    obtain ⟨o, ho⟩ : ∃ o : Nat, x.op = (o : Int) := ⟨x.op.toNat, by omega⟩
    have ho16 : o < 16 := by have := hS.1; omega
    have hrs := recC_size ps x.tick
    refine gc_ent (Ent.trans (Sub.ent (K := [Coll (ticks bs).length (recF (ticks bs) β 112 ps), Box g 3 ((outRow (os ++ [judgeE l ws ps x]) xs.length).map (Value.int .i64)).toArray, Box bx 52 #[.int .i64 x.tick, .int .i64 x.op, .int .i64 x.who, .int .i64 x.time], MapR bm kInt (mapK (ticks bs) β (ticks bs).length), Box bv 29 #[v0, v1, v2, v3, v4, v5, .slice Al l.length cl]]) (.cons (.there (.there .here)) (.cons .here (.cons .here (.cons .here (.cons .here .nil)))))) (rec_take hj)) ?_
    rw [hjt]
    refine gc_seq ?_
    refine gc_block_draw Nat 5 (fun i => ([[], [], [1], [0], [0, 3]] : List (List Nat)).getD i []) rfl (by kernel_rfl) ?_
    (apply gb_d; (intro γ; exact det_m rfl rfl (by conv => (lhs; whnf))); (intros; rfl); (intros; rfl); apply gb_d; (intro γ; exact w_field rfl rfl rfl); (intros; rfl); (intros; rfl); apply gb_d; (intro γ; exact w_load_box rfl rfl rfl (.there (.there (.there .here))) rfl); (intros; rfl); (intros; rfl); apply gb_d; (intro γ; exact w_nilcheck rfl rfl rfl); (intros; rfl); (intros; rfl); apply gb_d; (intro γ; exact w_field rfl rfl rfl); (intros; rfl); (intros; rfl))
    refine GB.nil (fun _ => ?_)
    (apply gw_d; exact w_index_arr (m := o) rfl rfl rfl rfl ho ho16)
    refine w_store_row (b := β j) (bt := 112) (cs := recC ps x.tick) (n := 1) (v := .bool true) (i := 0 + o * 1) (cs' := ((recC ps x.tick).toList.set o (.bool true)).toArray) rfl (congrArg (fun x => Value.pointer (some x)) (add_add ⟨β j, 0, none⟩ 0 (o * 1))) rfl rfl rfl .here (by omega) (by rw [Nat.zero_add, Nat.mul_one]; exact set_row (by omega) rfl) ?_
    (refine gO ?_; refine gG ?_; refine gM ?_; refine gF ?_; refine gW (.there (.there (.there .here))) ?_; apply gw_d; exact w_nilcheck rfl rfl rfl; refine gF ?_)
    refine w_store_row (b := β j) (bt := 112) (cs := ((recC ps x.tick).toList.set o (.bool true)).toArray) (n := 1) (v := .int .i64 x.time) (i := 16) (cs' := recC (ps ++ [x]) x.tick) rfl rfl rfl rfl rfl .here (by simp; omega) (by rw [set_row (by simp; omega) rfl]; show (((recC ps x.tick).toList.set o (.bool true)).set 16 (.int .i64 x.time)).toArray = _; rw [recC_pay ps x ho ho16]) ?_
    (refine gw_nil ?_; refine gH ?_; refine gX ?_; refine gG ?_; refine gA ?_; refine gM ?_; refine gw_nil ?_)
    refine gx_roundE (i + 1) hil (by omega) kK ⟨rfl, trivial⟩ ?_
    rw [hosn, hpsn]
    exact Ent.trans (rec_put hOk.tix hj hjt) (Sub.ent (.cons (.there .here) (.cons .here (.cons (.there .here) (.cons (.there .here) .nil)))))
   ·have hN : nextP l ws (ticks bs) ps x = ps := by unfold nextP; rw [hE, if_neg h1]
    rw [hN] at hpsn
    (refine gK ?_; refine gH ?_; refine gX ?_; refine gG ?_; refine gA ?_; refine gM ?_; refine gw_nil ?_)
    refine gx_round (i + 1) hil (by omega) kK ⟨rfl, trivial⟩ ?_
    rw [hosn, hpsn]
    exact .cons .here (.cons (.there .here) (.cons (.there .here) (.cons (.there .here) .nil)))
 ·obtain rfl : i = xs.length := by omega
  rw [List.take_length]
  have hol := outs_len l ws (ticks bs) xs []
  have hrow : outRow (outs l ws (ticks bs) [] xs) xs.length = outs l ws (ticks bs) [] xs := by
   have := outRow_full (l := outs l ws (ticks bs) [] xs)
   rw [hol] at this
   exact this
  rw [hrow]
  (refine gI ?_; (iterate 2 refine gZ ?_); refine gJ ?_; refine gX ?_; refine gV ?_; (iterate 5 refine gM ?_); refine gO ?_; refine gR ?_)
  exact gx_ret3 (u := .slice _ _ _) (v := .map _) (x := .int _ _) rfl rfl rfl rfl (fun w' s => ⟨(g, bm, β), rfl, (St.sub (K := [Box g 3 ((outs l ws (ticks bs) [] xs).map (Value.int .i64)).toArray, Coll (ticks bs).length (recF (ticks bs) β 112 (paidL l ws (ticks bs) xs)), MapR bm kInt (mapK (ticks bs) β (ticks bs).length)]) (.cons .here (.cons .here (.cons .here .nil))) s).sep⟩)
theorem Open_ok (w : World) (v0 v1 v2 v3 v4 v5 v6 vb vw vx : Value) (e : Int) (l : List Opn) (bs : List Bun) (ws : List Wrk) (xs : List Scn) (b : Nat) (hO : ∀ (L : List Res) (w' : World), St w L w' → Ok Tryz.prog 27 [.agg #[v0, v1, v2, v3, v4, v5, v6]].toArray w' fun x _ => x = .int .i64 e)
  (hl : Sl rOp w w.heap.size v6 l) (hb : Sl rBun w w.heap.size vb bs) (hw : Sl rWrk w w.heap.size vw ws) (hx : Sl rScn w w.heap.size vx xs) (hS : Small l) (he : scanE e bs ws = 0) (h300 : ¬ xs.length > 300) (hbl : b < bs.length) (hall : ∀ o : Nat, o < l.length → paidB (paidL l ws (ticks bs) xs) bs[b].tick (o : Int) = true) :
  Ok Tryz.prog 13 [.agg #[v0, v1, v2, v3, v4, v5, v6], vb, vw, vx, .int .i64 bs[b].tick].toArray w fun r _ => r = .tuple #[.slice none 0 0, .int .i64 0] := by
 have hJ := fun (L : List Res) (w' : World) (s : St w L w') => judgeAllR_ok w' v0 v1 v2 v3 v4 v5 v6 vb vw vx e l bs ws xs (hO_later hO s) (hl.later s) (hb.later s) (hw.later s) (hx.later s) hS he h300
 have hTix := (scan_good he).tix
 have htl : (ticks bs).length = bs.length := by simp [ticks]
 have hta := ticks_at hbl
 obtain ⟨Al, cl, rfl, hlc, hlm⟩ := len_small hl
 have h16 := hS.1
 generalize paidL l ws (ticks bs) xs = ps at hall hJ
 refine ok_enter Tryz.func13 rfl Tryz.ntmps13 rfl ?_
 (refine gV ?_; refine gw_boxd (v := .agg _) rfl rfl (fun _ => ?_); (iterate 2 refine gM ?_); refine gN ?_; apply gw_d; exact w_load_boxN rfl rfl rfl .here rfl; (iterate 3 refine gM ?_))
 refine gw_callm rfl (hJ _) rfl (fun x => ?_)
 obtain ⟨g, bm, β⟩ := x
 dsimp only
 have hget := mapK_old (β := β) hTix (ticks bs).length (Nat.le_refl _) b (by omega)
 rw [hta] at hget
 (refine gM ?_; apply gw_d; exact det_extract rfl rfl rfl (by conv => (lhs; whnf)); apply gw_d; exact det_extract rfl rfl rfl (by conv => (lhs; whnf)); apply gw_d; exact det_extract rfl rfl rfl (by conv => (lhs; whnf)); (iterate 3 refine gM ?_); refine gO ?_; refine gQ ?_; refine gV ?_; refine gM ?_; refine gC ?_; refine gO ?_)
 refine gc_if_dec rfl (fun h => absurd rfl h) (fun _ => ?_)
 (refine gK ?_; refine gX ?_; refine gV ?_; (iterate 2 refine gM ?_); apply gw_d; exact det_eq (c' := .tuple #[.pointer (some ⟨β b, 0, none⟩), .bool true]) (w_lookup_ok (k := bs[b].tick) intLawC rfl rfl rfl rfl (.there (.there .here))) (by rw [hget]; rfl); refine gM ?_; apply gw_d; exact det_extract rfl rfl rfl (by conv => (lhs; whnf)); apply gw_d; exact det_extract rfl rfl rfl (by conv => (lhs; whnf)); (iterate 2 refine gM ?_); refine gO ?_; refine gQ ?_; refine gV ?_; refine gM ?_; apply gw_d; exact det_not_ rfl rfl rfl; refine gO ?_)
 refine gc_if_false rfl ?_
 (refine gK ?_; refine gX ?_; refine gV ?_; refine gM ?_; refine gO ?_; refine gQ ?_; refine gV ?_; refine gF ?_; refine gW (.there (.there (.there .here))) ?_; refine gL ?_; refine gM ?_; refine gO ?_; refine gB ?_)
 refine gc_ent (Ent.trans (Sub.ent (K := Coll (ticks bs).length (recF (ticks bs) β 112 ps) :: []) (by repeat (first | exact Sub.nil | (apply Sub.cons; first | exact .here | exact .there .here | exact .there (.there .here) | exact .there (.there (.there .here)) | exact .there (.there (.there (.there .here))) | exact .there (.there (.there (.there (.there .here)))) | exact .there (.there (.there (.there (.there (.there .here))))) | exact .there (.there (.there (.there (.there (.there (.there .here)))))) | exact .there (.there (.there (.there (.there (.there (.there (.there .here))))))) | exact .there (.there (.there (.there (.there (.there (.there (.there (.there .here)))))))))))) (rec_take (by omega : b < (ticks bs).length))) ?_
 rw [hta]
 refine gc_loopK (σ := Nat) [43, 44, 18, 45, 46, 47, 48, 49, 50, 51, 52, 53, 54, 55, 17, 56, 42] (fun k => [(42, .int .i64 k), (17, .slice none 0 0)]) (fun k => k ≤ l.length) (fun k => l.length - k) 0 (Nat.zero_le _) ⟨rfl, rfl, trivial⟩ ?_
 rintro k base hk
 (refine gV ?_; refine gC ?_; refine gO ?_; refine gQ ?_)
 refine gc_if_dec rfl (fun h => ?_) (fun h => ?_)
 ·have hkl : k < l.length := by omega
  have hk16 : k < 16 := by omega
  have hpd : (recC ps bs[b].tick)[0 + k * 1]? = some (.bool true) := by rw [Nat.zero_add, Nat.mul_one, recC_paid _ _ hk16, hall k hkl]
  (refine gK ?_; refine gX ?_; refine gQ ?_; refine gB ?_; refine gV ?_; (iterate 2 refine gM ?_); refine gN ?_; (iterate 2 refine gM ?_); apply gw_d; exact w_nilcheck rfl rfl rfl; refine gF ?_; apply gw_d; exact w_index_arr (m := k) rfl rfl rfl rfl rfl hk16)
  refine gw_d (w_load_row (i := 0 + k * 1) (cs := recC ps bs[b].tick) rfl rfl (congrArg (fun x => Value.pointer (some x)) (add_add ⟨β b, 0, none⟩ 0 (k * 1))) .here hpd) ?_
  (apply gw_d; exact det_not_ rfl rfl rfl; refine gO ?_)
  refine gc_if_false rfl ?_
  (refine gK ?_; refine gH ?_; refine gX ?_; refine gG ?_; refine gA ?_; refine gM ?_; refine gw_nil ?_)
  exact gx_round (k + 1) (by omega) (by omega) kK ⟨rfl, rfl, trivial⟩ (Sub.all _)
 ·(refine gI ?_; (iterate 2 refine gZ ?_); refine gJ ?_; refine gX ?_; refine gV ?_; (iterate 3 refine gM ?_); refine gO ?_; refine gR ?_)
  exact gx_ret2 (u := .slice _ _ _) (v := .int _ _) rfl rfl rfl (fun w' s => rfl)
def encX (x : Scn) : List Value := [.int .i64 x.tick, .int .i64 x.op, .int .i64 x.who, .int .i64 x.time]
theorem encX_len (x : Scn) : (encX x).length = 4 := rfl
theorem encX_one {l : List Scn} : ∀ u ∈ l.flatMap encX, u.oneCell' = true := fun u hu => by
 obtain ⟨x, _, hx⟩ := List.mem_flatMap.1 hu
 unfold encX at hx
 simp only [List.mem_cons, List.not_mem_nil, or_false] at hx
 rcases hx with rfl | rfl | rfl | rfl <;> rfl
def scnZ : Scn := ⟨0, 0, 0, 0⟩
def scnT (t : Tsk) : Scn := ⟨t.tick, t.op, 0, t.fin⟩
def posF (S : List Scn) (e : Int) : Nat → Nat
 | 0 => 0
 | k + 1 => if (S.getD k scnZ).time > e then posF S e k else k + 1
def insT (S : List Scn) (t : Tsk) : List Scn := S.take (posF S t.fin S.length) ++ scnT t :: S.drop (posF S t.fin S.length)
def endedF (ts : List Tsk) : List Scn := ts.foldl insT []
theorem posF_le (S : List Scn) (e : Int) : ∀ k, posF S e k ≤ k
 | 0 => Nat.le_refl _
 | k + 1 => by
  unfold posF
  split
  ·have := posF_le S e k; omega
  ·exact Nat.le_refl _
theorem insT_len (S : List Scn) (t : Tsk) : (insT S t).length = S.length + 1 := by
 unfold insT
 have := posF_le S t.fin S.length
 rw [List.length_append, List.length_cons, List.length_take, List.length_drop]
 omega
theorem ins_len : ∀ (ts : List Tsk) (S : List Scn), (ts.foldl insT S).length = S.length + ts.length
 | [], S => rfl
 | t :: ts, S => by
  rw [List.foldl_cons, ins_len ts, insT_len, List.length_cons]
  omega
theorem ended_len (ts : List Tsk) : (endedF ts).length = ts.length := by
 have := ins_len ts []
 unfold endedF
 simpa using this
theorem gap_set {α : Type} {S : List α} {k : Nat} (hk : k ≤ S.length) (y x : α) : (S.take k ++ y :: S.drop k).set k x = S.take k ++ x :: S.drop k := by
 have h : (S.take k).length = k := by rw [List.length_take]; omega
 rw [List.set_append_right _ _ (by omega), h, Nat.sub_self, List.set_cons_zero]
theorem gap_down {α : Type} {S : List α} {j : Nat} (hj : j < S.length) : S.take (j + 1) ++ S[j] :: S.drop (j + 1) = S.take j ++ S[j] :: S.drop j := by
 rw [List.take_succ_eq_append_getElem hj, List.append_assoc, List.drop_eq_getElem_cons hj]
 rfl
theorem gap_len {α : Type} {S : List α} {k : Nat} (hk : k ≤ S.length) (y : α) : (S.take k ++ y :: S.drop k).length = S.length + 1 := by
 rw [List.length_append, List.length_cons, List.length_take, List.length_drop]
 omega
theorem gap_get {α : Type} {S : List α} {j : Nat} (hj : j < S.length) (y : α) (h : j < (S.take (j + 1) ++ y :: S.drop (j + 1)).length) : (S.take (j + 1) ++ y :: S.drop (j + 1))[j] = S[j] := by
 rw [List.getElem_append_left (by rw [List.length_take]; omega), List.getElem_take]
theorem ended_ok (w : World) (vt : Value) (ts : List Tsk) (ht : Sl rTsk w w.heap.size vt ts) (h192 : ts.length ≤ 192) :
  OkM Tryz.prog 11 [vt].toArray w (fun x : Option Addr × Nat => .slice x.1 (endedF ts).length x.2) (fun x => [Own x.1 (endedF ts).length x.2 52 4 ((endedF ts).flatMap encX)]) := by
 obtain ⟨At, ct, rfl, htc, htm, htcell⟩ := ht.tsk
 unfold OkM
 refine ok_enter Tryz.func11 rfl Tryz.ntmps11 rfl ?_
 (refine gV ?_; refine gM ?_; refine gN ?_; refine gM ?_; refine gO ?_; refine gQ ?_; refine gV ?_; refine gM ?_; refine gO ?_; refine gB ?_)
 refine gc_own0 52 4 ?_
 refine gc_loop (σ := Nat × Option Addr × Nat) [7, 8, 9, 10, 13, 14, 15, 16, 5, 17, 18, 6, 19, 20, 21, 22, 3, 23, 24, 25, 26, 27, 28, 29, 30, 31, 32, 33, 34, 35, 36, 37, 38, 39, 40, 41, 42, 43, 44, 45, 46, 47, 48, 49, 50, 51, 52, 53, 54, 55, 11, 12, 4] (fun s => [(4, .int .i64 s.1), (3, .slice s.2.1 (endedF (ts.take s.1)).length s.2.2)]) (fun s => [Own s.2.1 (endedF (ts.take s.1)).length s.2.2 52 4 ((endedF (ts.take s.1)).flatMap encX)]) (fun s => s.1 ≤ ts.length) (fun s => ts.length - s.1) (0, none, 0) (Nat.zero_le _) ⟨rfl, rfl, trivial⟩ (Sub.all _) ?_
 rintro ⟨i, A, c⟩ base hi
 dsimp only at hi ⊢
 (refine gQ ?_; refine gV ?_; (iterate 2 refine gM ?_); refine gL ?_; refine gC ?_; refine gO ?_)
 refine gc_if_dec rfl (fun h => ?_) (fun h => ?_)
 ·have hil : i < ts.length := by omega
  obtain ⟨ad, rfl, hbk, hce⟩ := htcell i hil
  have hsn : endedF (ts.take (i + 1)) = insT (endedF (ts.take i)) ts[i] := by
   rw [List.take_succ_eq_append_getElem hil]
   unfold endedF
   rw [List.foldl_append, List.foldl_cons, List.foldl_nil]
  have hel := ended_len (ts.take i)
  rw [List.length_take] at hel
  have hin : insT (endedF (ts.take i)) ts[i] = (endedF (ts.take i)).take (posF (endedF (ts.take i)) ts[i].fin (endedF (ts.take i)).length) ++ scnT ts[i] :: (endedF (ts.take i)).drop (posF (endedF (ts.take i)) ts[i].fin (endedF (ts.take i)).length) := rfl
  have hil2 := insT_len (endedF (ts.take i)) ts[i]
  generalize endedF (ts.take i) = S at hsn hel hin hil2 ⊢
  generalize ts[i] = t at *
  (refine gK ?_; refine gX ?_; refine gQ ?_; refine gB ?_; refine gV ?_; (iterate 2 refine gM ?_); apply gw_d; exact w_index (m := i) rfl rfl rfl rfl rfl hil; apply gw_d; exact w_load_elem rfl rfl rfl (by assumption) (by assumption) (by rfl); refine w_alloc rfl (fun _ => ?_); refine w_store_all rfl rfl rfl rfl rfl .here rfl ?_; refine gN ?_; refine gM ?_; refine gL ?_; refine gM ?_; refine gN ?_; refine gM ?_; apply gw_d; exact w_buildP [] (cells := #[.int .i64 0, .int .i64 0, .int .i64 0, .int .i64 0]) (by rfl) rfl rfl rfl)
  refine gw_bslice1 (v := .agg #[.int .i64 0, .int .i64 0, .int .i64 0, .int .i64 0]) rfl rfl rfl rfl rfl (fun bb => ?_)
  refine gw_append (news := encX scnZ) rfl rfl rfl (.there (.there .here)) rfl (fun w' s _ => ?_) (fun u hu => ?_) (by unfold maxLen; omega) (by omega) (by decide) rfl (fun A3 c3 => ?_)
  ·refine ⟨⟨bb, 0, none⟩, rfl, fun i u hu => ?_⟩
   rw [add_zero]
   refine (Box.cell s.head i).trans ?_
   change (#[Value.int .i64 0, .int .i64 0, .int .i64 0, .int .i64 0] : Array Value)[i]? = some u
   rw [List.getElem?_toArray]
   exact hu
  ·unfold encX at hu
   simp only [List.mem_cons, List.not_mem_nil, or_false] at hu
   rcases hu with rfl | rfl | rfl | rfl <;> rfl
  (refine gM ?_; refine gO ?_; refine gQ ?_; refine gB ?_)
  rename_i bt
  refine gc_ent (Sub.ent (K := [Own A3 (S.length + 1) c3 52 4 (S.flatMap encX ++ encX scnZ), Box bt 71 #[.int .i64 t.tick, .int .i64 t.op, .int .i64 t.sta, .int .i64 t.start, .int .i64 t.fin]]) (by repeat (first | exact Sub.nil | (apply Sub.cons; first | exact .here | exact .there .here | exact .there (.there .here) | exact .there (.there (.there .here)) | exact .there (.there (.there (.there .here))) | exact .there (.there (.there (.there (.there .here)))) | exact .there (.there (.there (.there (.there (.there .here))))) | exact .there (.there (.there (.there (.there (.there (.there .here)))))) | exact .there (.there (.there (.there (.there (.there (.there (.there .here))))))) | exact .there (.there (.there (.there (.there (.there (.there (.there (.there .here)))))))))))) ?_
  refine gc_ownbox (by omega) .here (fun g cs hA hcc hct => ?_)
  subst hA
  have hfl : S.flatMap encX ++ encX scnZ = (S.take S.length ++ scnZ :: S.drop S.length).flatMap encX := by
   rw [List.take_length, List.drop_length, List.flatMap_append]
   rfl
  rw [hfl] at hct
  have hbk2 := blk_of hct
  generalize cs.toList.drop ((S.length + 1) * 4) = tail at hbk2
  subst hbk2
  refine gc_loop (σ := Nat × Scn) [23, 24, 25, 26, 27, 28, 29, 30, 31, 32, 33, 34, 35, 36, 37, 38, 39, 40, 41, 42, 43, 44, 45, 6] (fun s => [(6, .int .i64 s.1)]) (fun s => [Box g 52 (blkC encX tail (S.take s.1 ++ s.2 :: S.drop s.1)), Box bt 71 #[.int .i64 t.tick, .int .i64 t.op, .int .i64 t.sta, .int .i64 t.start, .int .i64 t.fin]]) (fun s => s.1 ≤ S.length ∧ posF S t.fin s.1 = posF S t.fin S.length) (fun s => s.1) (S.length, scnZ) ⟨Nat.le_refl _, rfl⟩ ⟨rfl, trivial⟩ (Sub.all _) ?_
  rintro ⟨k, y⟩ base2 ⟨hk, hp⟩
  dsimp only at hk hp ⊢
  have hz0 := hcc.2.2
  rw [blk_size encX_len, gap_len (Nat.le_refl _)] at hz0
  have hfin : ∀ x, (blkC encX tail (S.take k ++ x :: S.drop k)).size = c3 * 4 := fun x => by rw [blk_size encX_len, gap_len hk]; exact hz0
  (refine gQ ?_; refine gQ ?_)
  cases k with
  | zero =>
   refine gc_draw 13 (by kernel_rfl) (by kernel_rfl) ?_
   (refine dM ?_; apply gd_d; exact det_eq (c' := .bool false) (det_cmp rfl rfl rfl rfl rfl) (by rfl); refine dM ?_; (iterate 9 refine dU ?_); apply gd_d; exact det_pick_f (v := .bool _) rfl rfl rfl rfl; refine gd_nil ?_; refine gO ?_)
   refine gc_if_false rfl ?_
   have hpk : posF S t.fin 0 = 0 := rfl
   have hins : insT S t = S.take 0 ++ scnT t :: S.drop 0 := by rw [hin, ← hp, hpk]
   have hst := blk_store (tail := tail) encX_len (l := S.take 0 ++ y :: S.drop 0) (k := 0) (by rw [gap_len hk]; omega) (scnT t)
   rw [gap_set hk] at hst
   have hsz := hfin y
   rw [blk_size encX_len, gap_len hk] at hsz
   have htk := blk_take (tail := tail) (l := S.take 0 ++ scnT t :: S.drop 0) encX_len
   have hgl := gap_len hk (scnT t)
   (refine gI ?_; (iterate 2 refine gZ ?_); refine gJ ?_; refine gX ?_; refine gG ?_; (iterate 2 refine gM ?_); refine gF ?_; refine gW (.there .here) ?_; refine gF ?_; refine gW (.there .here) ?_; refine gF ?_; refine gW (.there .here) ?_; apply gw_d; exact w_buildP [(0, .int .i64 t.tick), (1, .int .i64 t.op), (3, .int .i64 t.fin)] (cells := #[.int .i64 t.tick, .int .i64 t.op, .int .i64 0, .int .i64 t.fin]) (by rfl) rfl rfl rfl; apply gw_d; exact w_index (m := 0) rfl rfl rfl rfl rfl (by omega))
   refine w_store_row (n := 4) (v := .agg (encX (scnT t)).toArray) (cs' := blkC encX tail (S.take 0 ++ scnT t :: S.drop 0)) rfl rfl rfl rfl rfl .here (by rw [blk_size encX_len, gap_len hk]; omega) hst ?_
   (refine gw_nil ?_; refine gH ?_; refine gX ?_; refine gG ?_; refine gM ?_; refine gA ?_; refine gM ?_; refine gw_nil ?_)
   refine gx_roundE (i + 1, some ⟨g, 0, none⟩, c3) hil (by dsimp only; omega) kK ⟨rfl, by rw [hsn, hil2]; rfl, trivial⟩ ?_
   dsimp only
   rw [hsn, hins]
   exact Ent.trans (box_own (c := c3) (sz := 4) ⟨by rw [hgl]; exact hcc.1, hcc.2.1, hfin _⟩ htk) (Sub.ent (.cons .here .nil))
  | succ j =>
   have hjS : j < S.length := by omega
   have hjn : j < S.length + 1 := by omega
   have hj1n : j + 1 < S.length + 1 := by omega
   have hgt : S.getD j scnZ = S[j] := by rw [List.getD_eq_getElem?_getD, List.getElem?_eq_getElem hjS]; rfl
   have hpj : posF S t.fin (j + 1) = if S[j].time > t.fin then posF S t.fin j else j + 1 := by
    show (if (S.getD j scnZ).time > t.fin then posF S t.fin j else j + 1) = _
    rw [hgt]
   have hgl := gap_len hk y
   have hjC : j < (S.take (j + 1) ++ y :: S.drop (j + 1)).length := by omega
   have hgj := gap_get hjS y hjC
   have hx := blk_load (tail := tail) encX_len hjC
   rw [hgj] at hx
   have hct2 := blk_take (tail := tail) (l := S.take (j + 1) ++ y :: S.drop (j + 1)) encX_len
   have htime : (blkC encX tail (S.take (j + 1) ++ y :: S.drop (j + 1)))[j * 4 + 3]? = some (.int .i64 S[j].time) := by
    rw [cells_at hct2 (fun x _ => encX_len x) rfl hjC 3 (by decide), hgj]
    rfl
   refine gc_draw 13 (by kernel_rfl) (by kernel_rfl) ?_
   focus (refine dM ?_; apply gd_d; exact det_cmp rfl rfl rfl rfl rfl; refine dM ?_; refine gd_guard_dec rfl rfl (fun _ => ?_) (fun _ => ?_); (iterate 2 refine dM ?_); apply gd_d; exact det_ar rfl rfl rfl rfl rfl (by omega); apply gd_d; exact w_index (m := j) rfl rfl rfl rfl (by omega) hjn; apply gd_d; exact w_field rfl rfl rfl; apply gd_d; exact w_load_rowF rfl rfl rfl .here htime; apply gd_d; exact w_field rfl rfl rfl; apply gd_d; exact w_load_box rfl rfl rfl (.there .here) rfl; apply gd_d; exact det_cmp rfl rfl rfl rfl rfl; apply gd_d; exact det_pick_t (v := .bool _) rfl rfl rfl rfl; refine gd_nil ?_; refine gO ?_; rotate_left; (iterate 9 refine dU ?_); apply gd_d; exact det_pick_f (v := .bool _) rfl rfl rfl rfl; refine gd_nil ?_; refine gO ?_; rotate_left)
   all_goals first | (exfalso; omega) | skip
   refine gc_if_dec rfl (fun h9 => ?_) (fun h9 => ?_)
   ·rw [if_pos h9] at hpj
    have hst := blk_store (tail := tail) encX_len (l := S.take (j + 1) ++ y :: S.drop (j + 1)) (k := j + 1) (by omega) S[j]
    rw [gap_set hk, gap_down hjS] at hst
    (refine gK ?_; refine gX ?_; refine gB ?_; refine gV ?_; (iterate 4 refine gM ?_); refine gA ?_; apply gw_d; exact w_index (m := j) rfl rfl rfl rfl (by omega) hjn; apply gw_d; exact w_load_rowN rfl rfl rfl .here hx rfl; apply gw_d; exact w_index (m := j + 1) rfl rfl rfl rfl rfl hj1n)
    refine w_store_row (n := 4) (v := .agg (encX S[j]).toArray) (cs' := blkC encX tail (S.take j ++ S[j] :: S.drop j)) rfl rfl rfl rfl rfl .here (by rw [blk_size encX_len]; omega) hst ?_
    (refine gO ?_; refine gG ?_; refine gM ?_; refine gA ?_; refine gM ?_; refine gw_nil ?_; refine gH ?_)
    refine gx_round (j, S[j]) ⟨by dsimp only; omega, by rw [← hp, hpj]⟩ (by dsimp only; omega) kK ⟨?_, trivial⟩ (Sub.all _)
    show Value.int .i64 (((j + 1 : Nat) : Int) - 1) = Value.int .i64 (j : Int)
    rw [show (((j + 1 : Nat) : Int) - 1) = (j : Int) by omega]
   ·rw [if_neg h9] at hpj
    have hpk := hpj
    clear hgl
    have hins : insT S t = S.take (j + 1) ++ scnT t :: S.drop (j + 1) := by rw [hin, ← hp, hpk]
    have hst := blk_store (tail := tail) encX_len (l := S.take (j + 1) ++ y :: S.drop (j + 1)) (k := (j + 1)) (by rw [gap_len hk]; omega) (scnT t)
    rw [gap_set hk] at hst
    have hsz := hfin y
    rw [blk_size encX_len, gap_len hk] at hsz
    have htk := blk_take (tail := tail) (l := S.take (j + 1) ++ scnT t :: S.drop (j + 1)) encX_len
    have hgl := gap_len hk (scnT t)
    (refine gI ?_; (iterate 2 refine gZ ?_); refine gJ ?_; refine gX ?_; refine gG ?_; (iterate 2 refine gM ?_); refine gF ?_; refine gW (.there .here) ?_; refine gF ?_; refine gW (.there .here) ?_; refine gF ?_; refine gW (.there .here) ?_; apply gw_d; exact w_buildP [(0, .int .i64 t.tick), (1, .int .i64 t.op), (3, .int .i64 t.fin)] (cells := #[.int .i64 t.tick, .int .i64 t.op, .int .i64 0, .int .i64 t.fin]) (by rfl) rfl rfl rfl; apply gw_d; exact w_index (m := (j + 1)) rfl rfl rfl rfl rfl (by omega))
    refine w_store_row (n := 4) (v := .agg (encX (scnT t)).toArray) (cs' := blkC encX tail (S.take (j + 1) ++ scnT t :: S.drop (j + 1))) rfl rfl rfl rfl rfl .here (by rw [blk_size encX_len, gap_len hk]; omega) hst ?_
    (refine gw_nil ?_; refine gH ?_; refine gX ?_; refine gG ?_; refine gM ?_; refine gA ?_; refine gM ?_; refine gw_nil ?_)
    refine gx_roundE (i + 1, some ⟨g, 0, none⟩, c3) hil (by dsimp only; omega) kK ⟨rfl, by rw [hsn, hil2]; rfl, trivial⟩ ?_
    dsimp only
    rw [hsn, hins]
    exact Ent.trans (box_own (c := c3) (sz := 4) ⟨by rw [hgl]; exact hcc.1, hcc.2.1, hfin _⟩ htk) (Sub.ent (.cons .here .nil))
 ·obtain rfl : i = ts.length := by omega
  rw [List.take_length]
  (refine gI ?_; (iterate 2 refine gZ ?_); refine gJ ?_; refine gX ?_; refine gV ?_; (iterate 2 refine gM ?_); refine gO ?_; refine gR ?_)
  exact gx_ret1 (v := .slice _ _ _) rfl rfl (fun w' s => ⟨(A, c), rfl, s.sep⟩)
theorem tix_nodup {tk : List Int} : Tix tk ↔ tk.Nodup := by
 rw [List.nodup_iff_pairwise_ne, List.pairwise_iff_getElem]
 have hg : ∀ i (hi : i < tk.length), tkAt tk i = tk[i] := fun i hi => by
  unfold tkAt
  rw [List.getD_eq_getElem?_getD, List.getElem?_eq_getElem hi]
  rfl
 constructor
 ·intro h i j hi hj hij
  rw [← hg i hi, ← hg j hj]
  exact h i j hij hj
 ·intro h i j hij hj
  rw [hg i (by omega), hg j hj]
  exact h i j (by omega) hj hij
theorem sim_valid {l : List Opn} {sts : List (List Int)} {bs : List Bun} {ds : List Dwn} {ts : List Tsk} (he : comE l sts bs ds = 0) (hTix : Tix (ticks bs)) (hs : simF l sts bs ds = some ts) :
  AllGood l (placesF l.length sts) bs ds ts ∧ ts.length = bs.length * l.length ∧ ∀ b (hb : b < bs.length), ∀ o : Nat, o < l.length → ∃ u ∈ ts, u.tick = bs[b].tick ∧ u.op = (o : Int) := by
 obtain ⟨hlist, hstn, hsome, hbun, hmch⟩ := com_ok he
 obtain ⟨h16, hop⟩ := list_minutes hlist
 obtain ⟨so, hso⟩ := topo hlist
 have hperm := isort_perm (lt := ltB) bs
 have hRl := hperm.length_eq
 have hTixR : Tix (ticks (isort ltB bs)) := by
  rw [tix_nodup] at hTix ⊢
  unfold ticks at hTix ⊢
  exact (hperm.map (·.tick)).nodup_iff.2 hTix
 have hbr : ∀ b ∈ isort ltB bs, 1 ≤ b.upto - b.fr ∧ b.upto - b.fr ≤ 40 := fun b hb => bun_rng hbun b (hperm.mem_iff.1 hb)
 have hTl := placesF_len (n := l.length) (sts := sts)
 have hTr : ∀ x ∈ placesF l.length sts, 0 ≤ x ∧ x < (sts.length : Int) := fun x hx => by
  have h1 := placesF_rng x hx
  have h2 : 0 < l.length := by
   obtain ⟨i, hi, _⟩ := List.getElem_of_mem hx
   omega
  have := hsome h2
  omega
 have h0 : SimInv l (placesF l.length sts) sts.length (isort ltB bs) ds (simS0 l sts.length (isort ltB bs)) := by
  refine ⟨simS0_ok, fun i hi => absurd hi (by simp [simS0]), fun b hb o ho => ?_, (fun u hu => by cases hu), ?_⟩
  ·show ((List.replicate (isort ltB bs).length (List.replicate l.length (-1 : Int))).getD b []).getD o 0 = -1
   rw [List.getD_eq_getElem?_getD (l := List.replicate (isort ltB bs).length _), List.getElem?_replicate, if_pos hb]
   show (List.replicate l.length (-1 : Int)).getD o 0 = -1
   exact st_free ho
  ·show 0 + cntE (List.replicate (isort ltB bs).length (List.replicate l.length (-1))) = _
   rw [cnt_rep]
   omega
 unfold simF at hs
 have hc : cntE (simS0 l sts.length (isort ltB bs)).1 = (isort ltB bs).length * l.length := cnt_rep _ _
 obtain ⟨h1, h2, h3⟩ := sim_all hso hop hbr hTl hTr hTixR _ _ h0 (by rw [hc, hRl]; omega) hs
 refine ⟨h1.perm fun x hx => hperm.mem_iff.1 hx, by rw [h2, hRl], fun b hb o ho => ?_⟩
 obtain ⟨b', hb', he⟩ := List.getElem_of_mem (hperm.mem_iff.2 (List.getElem_mem hb))
 have := h3 b' hb' o ho
 rw [he] at this
 exact this

def Apart (a b : Scn) : Prop := ¬ (a.tick = b.tick ∧ a.op = b.op)
theorem gap_gets {α : Type} {S : List α} {k i : Nat} {x : α} (hk : k ≤ S.length) : (S.take k ++ x :: S.drop k)[i]? = if i < k then S[i]? else if i = k then some x else S[i - 1]? := by
 have hl : (S.take k).length = k := by rw [List.length_take]; omega
 by_cases h1 : i < k
 ·rw [if_pos h1, List.getElem?_append_left (by omega), List.getElem?_take, if_pos h1]
 ·rw [if_neg h1, List.getElem?_append_right (by omega), hl]
  by_cases h2 : i = k
  ·rw [if_pos h2, h2, Nat.sub_self]
   rfl
  ·rw [if_neg h2]
   obtain ⟨d, hd⟩ : ∃ d, i - k = d + 1 := ⟨i - k - 1, by omega⟩
   rw [hd, List.getElem?_cons_succ, List.getElem?_drop]
   congr 1
   omega
theorem pos_drop {S : List Scn} {e : Int} : ∀ K, K ≤ S.length → ∀ j, posF S e K ≤ j → j < K → (S.getD j scnZ).time > e
 | 0, _, j, _, hj => by omega
 | K + 1, hK, j, h1, hj => by
  unfold posF at h1
  split at h1
  ·rename_i hc
   by_cases hjK : j = K
   ·rw [hjK]; exact hc
   ·exact pos_drop K (by omega) j h1 (by omega)
  ·omega
theorem pos_take {S : List Scn} {e : Int} : ∀ K, K ≤ S.length → posF S e K = 0 ∨ (S.getD (posF S e K - 1) scnZ).time ≤ e
 | 0, _ => .inl rfl
 | K + 1, hK => by
  unfold posF
  split
  ·exact pos_take K (by omega)
  ·rename_i hc
   refine .inr ?_
   rw [Nat.add_sub_cancel]
   omega
structure SrtI (l : List Opn) (ts : List Tsk) (S : List Scn) : Prop where
 sorted : S.Pairwise fun a b => a.time ≤ b.time
 mem : ∀ x ∈ S, ∃ t ∈ ts, x = scnT t
 mem2 : ∀ t ∈ ts, scnT t ∈ S
 closed : ∀ i (hi : i < S.length), ∀ a ∈ (l.getD (S[i].op).toNat opZ).after, ∃ j, ∃ hj : j < S.length, j < i ∧ S[j].tick = S[i].tick ∧ S[j].op = a
 apart : S.Pairwise Apart
theorem srt_ins {l : List Opn} {T : List Int} {bs : List Bun} {ds : List Dwn} {ts : List Tsk} {S : List Scn} {t : Tsk} (h : SrtI l ts S) (ht : GoodT l T bs ds ts t) : SrtI l (ts ++ [t]) (insT S t) := by
 have hk := posF_le S t.fin S.length
 have hlo : ∀ x ∈ S.take (posF S t.fin S.length), x.time ≤ t.fin := fun x hx => by
  obtain ⟨i, hi, rfl⟩ := List.mem_take_iff_getElem.1 hx
  rcases pos_take (S := S) (e := t.fin) S.length (Nat.le_refl _) with h1 | h1
  ·omega
  ·have hg : S.getD (posF S t.fin S.length - 1) scnZ = S[posF S t.fin S.length - 1]'(by omega) := by
    rw [List.getD_eq_getElem?_getD, List.getElem?_eq_getElem (by omega)]
    rfl
   rw [hg] at h1
   by_cases hie : i = posF S t.fin S.length - 1
   ·subst hie; exact h1
   ·have := List.pairwise_iff_getElem.1 h.sorted i (posF S t.fin S.length - 1) (by omega) (by omega) (by omega)
    omega
 have hhi : ∀ x ∈ S.drop (posF S t.fin S.length), t.fin < x.time := fun x hx => by
  obtain ⟨i, hi, rfl⟩ := List.getElem_of_mem hx
  rw [List.length_drop] at hi
  rw [List.getElem_drop]
  have := pos_drop (S := S) (e := t.fin) S.length (Nat.le_refl _) (posF S t.fin S.length + i) (by omega) (by omega)
  rw [List.getD_eq_getElem?_getD, List.getElem?_eq_getElem (by omega)] at this
  exact this
 have hnew : ∀ x ∈ S, Apart x (scnT t) := fun x hx hc => by
  obtain ⟨u, hu, rfl⟩ := h.mem x hx
  exact ht.one u hu hc
 have hsplit := List.take_append_drop (posF S t.fin S.length) S
 have hT1 : ∀ x ∈ S.take (posF S t.fin S.length), x ∈ S := fun x hx => List.mem_of_mem_take hx
 have hD1 : ∀ x ∈ S.drop (posF S t.fin S.length), x ∈ S := fun x hx => List.mem_of_mem_drop hx
 have hso := h.sorted
 have hap := h.apart
 rw [← hsplit] at hso hap
 rw [List.pairwise_append] at hso hap
 have hget := fun (i : Nat) => gap_gets (S := S) (i := i) (x := scnT t) hk
 have hcl := h.closed
 have hlen := insT_len S t
 unfold insT at hlen ⊢
 generalize posF S t.fin S.length = k at *
 refine ⟨?_, fun x hx => ?_, fun u hu => ?_, fun i hi a ha => ?_, ?_⟩
 ·rw [List.pairwise_append, List.pairwise_cons]
  refine ⟨hso.1, ⟨fun y hy => ?_, hso.2.1⟩, fun x hx y hy => ?_⟩
  ·have := hhi y hy
   show t.fin ≤ y.time
   omega
  ·rcases List.mem_cons.1 hy with rfl | hy
   ·exact hlo x hx
   ·exact hso.2.2 x hx y hy
 ·rcases List.mem_append.1 hx with h1 | h1
  ·obtain ⟨u, hu, he⟩ := h.mem x (hT1 x h1)
   exact ⟨u, List.mem_append_left _ hu, he⟩
  ·rcases List.mem_cons.1 h1 with rfl | h1
   ·exact ⟨t, by simp, rfl⟩
   ·obtain ⟨u, hu, he⟩ := h.mem x (hD1 x h1)
    exact ⟨u, List.mem_append_left _ hu, he⟩
 ·rcases List.mem_append.1 hu with h1 | h1
  ·have h2 := h.mem2 u h1
   rw [← hsplit] at h2
   rcases List.mem_append.1 h2 with h3 | h3
   ·exact List.mem_append_left _ h3
   ·exact List.mem_append_right _ (List.mem_cons_of_mem _ h3)
  ·rw [List.mem_singleton] at h1
   rw [h1]
   simp
 ·have hin := hget i
  rw [List.getElem?_eq_getElem hi] at hin
  generalize (S.take k ++ scnT t :: S.drop k)[i] = x at hin ha
  have fin : ∀ j (hj : j < S.length), (j < k → j < i) → (¬ j < k → j + 1 < i) → ∃ j', ∃ hj' : j' < (S.take k ++ scnT t :: S.drop k).length, j' < i ∧ (S.take k ++ scnT t :: S.drop k)[j'] = S[j] := fun j hj h1 h2 => by
   by_cases hjk : j < k
   ·refine ⟨j, by omega, h1 hjk, ?_⟩
    have := hget j
    rw [if_pos hjk, List.getElem?_eq_getElem hj, List.getElem?_eq_getElem (by omega)] at this
    injection this
   ·refine ⟨j + 1, by omega, h2 hjk, ?_⟩
    have := hget (j + 1)
    rw [if_neg (by omega), if_neg (by omega), Nat.add_sub_cancel, List.getElem?_eq_getElem hj, List.getElem?_eq_getElem (by omega)] at this
    injection this
  by_cases hik : i < k
  ·rw [if_pos hik, List.getElem?_eq_getElem (by omega)] at hin
   injection hin with hin
   subst hin
   obtain ⟨j, hj, hji, e1, e2⟩ := hcl i (by omega) a ha
   obtain ⟨j', hj', h1, h2⟩ := fin j hj (fun _ => hji) (fun hc => by omega)
   exact ⟨j', hj', h1, by rw [h2]; exact e1, by rw [h2]; exact e2⟩
  ·rw [if_neg hik] at hin
   by_cases hie : i = k
   ·rw [if_pos hie] at hin
    injection hin with hin
    subst hin
    obtain ⟨u, hu, e1, e2, e3⟩ := ht.aft a ha
    have hm := h.mem2 u hu
    rw [← hsplit] at hm
    rcases List.mem_append.1 hm with h3 | h3
    ·obtain ⟨j, hj, he⟩ := List.mem_take_iff_getElem.1 h3
     obtain ⟨j', hj', h1, h2⟩ := fin j (by omega) (fun _ => by omega) (fun hc => by omega)
     exact ⟨j', hj', h1, by rw [h2, he]; exact e1, by rw [h2, he]; exact e2⟩
    ·have h4 : t.fin < u.fin := hhi _ h3
     have h5 := ht.le
     omega
   ·rw [if_neg hie, List.getElem?_eq_getElem (by omega)] at hin
    injection hin with hin
    subst hin
    obtain ⟨j, hj, hji, e1, e2⟩ := hcl (i - 1) (by omega) a ha
    obtain ⟨j', hj', h1, h2⟩ := fin j hj (fun _ => by omega) (fun _ => by omega)
    exact ⟨j', hj', h1, by rw [h2]; exact e1, by rw [h2]; exact e2⟩
 ·rw [List.pairwise_append, List.pairwise_cons]
  refine ⟨hap.1, ⟨fun y hy => ?_, hap.2.1⟩, fun x hx y hy => ?_⟩
  ·exact fun hc => hnew y (hD1 y hy) ⟨hc.1.symm, hc.2.symm⟩
  ·rcases List.mem_cons.1 hy with rfl | hy
   ·exact hnew x (hT1 x hx)
   ·exact hap.2.2 x hx y hy
theorem srt_all {l : List Opn} {T : List Int} {bs : List Bun} {ds : List Dwn} {ts : List Tsk} (h : AllGood l T bs ds ts) : ∀ k, k ≤ ts.length → SrtI l (ts.take k) (endedF (ts.take k))
 | 0, _ => by
  rw [List.take_zero]
  exact ⟨.nil, (fun x hx => by cases hx), (fun x hx => by cases hx), fun i hi => absurd hi (by simp [endedF]), .nil⟩
 | k + 1, hk => by
  have ih := srt_all h k (by omega)
  have h1 := srt_ins ih (h k (by omega))
  have h2 : endedF (ts.take (k + 1)) = insT (endedF (ts.take k)) ts[k] := by
   rw [List.take_succ_eq_append_getElem (by omega)]
   unfold endedF
   rw [List.foldl_append, List.foldl_cons, List.foldl_nil]
  rw [h2, List.take_succ_eq_append_getElem (by omega)]
  exact h1
def sAll : ByteArray := ⟨#[97, 108, 108]⟩
def eights : List Int := [0, 1, 2, 3, 4, 5, 6, 7]
def wAll : List Wrk := [⟨sAll, eights⟩]
theorem can_all {m : Int} (h : 0 ≤ m ∧ m < 8) : canAt wAll 0 m = true := by
 have h1 : canAt wAll 0 m = hasB eights m := rfl
 rw [h1, hasB_iff]
 unfold eights
 simp only [List.mem_cons, List.not_mem_nil, or_false]
 omega
theorem lastT_le {t M : Int} (hM : 0 ≤ M) : ∀ (ps : List Scn) (a : Int), a ≤ M → (∀ y ∈ ps, y.time ≤ M) → ps.foldl (fun a y => if y.tick = t then y.time else a) a ≤ M
 | [], a, ha, _ => ha
 | y :: ps, a, ha, h => by
  rw [List.foldl_cons]
  refine lastT_le hM ps _ ?_ fun z hz => h z (List.mem_cons_of_mem _ hz)
  split
  ·exact h y List.mem_cons_self
  ·exact ha
section
variable {l : List Opn} {ws : List Wrk} {tk : List Int}
theorem outs_append : ∀ (a ps b : List Scn), outs l ws tk ps (a ++ b) = outs l ws tk ps a ++ outs l ws tk (a.foldl (nextP l ws tk) ps) b
 | [], _, _ => rfl
 | x :: a, ps, b => by
  show _ :: outs l ws tk _ (a ++ b) = _
  rw [outs_append a]
  rfl
theorem outs_again {ps : List Scn} (hf : ∀ y ∈ ps, Fine l ws tk y) : ∀ (ys : List Scn), (∀ y ∈ ys, y ∈ ps) → outs l ws tk ps ys = List.replicate ys.length 2
 | [], _ => rfl
 | y :: ys, h => by
  have h2 := out_again (hf y (h y List.mem_cons_self)) (h y List.mem_cons_self)
  have e : nextP l ws tk ps y = ps := by
   unfold nextP
   rw [h2]
   exact if_neg (by decide)
  show outE l ws tk ps y :: outs l ws tk (nextP l ws tk ps y) ys = _
  rw [h2, e, outs_again hf ys fun z hz => h z (List.mem_cons_of_mem _ hz)]
  rfl
theorem outs_run {S : List Scn} (hf : ∀ x ∈ S, Fine l ws tk x) (hso : S.Pairwise fun a b => a.time ≤ b.time) (hap : S.Pairwise Apart) (hcl : ∀ i (hi : i < S.length), ∀ a ∈ (l.getD (S[i].op).toNat opZ).after, ∃ j, ∃ hj : j < S.length, j < i ∧ S[j].tick = S[i].tick ∧ S[j].op = a) :
  ∀ (q p : List Scn), S = p ++ q → outs l ws tk p q = List.replicate q.length 1 ∧ q.foldl (nextP l ws tk) p = S
 | [], p, h => ⟨rfl, by rw [h, List.append_nil]; rfl⟩
 | x :: q, p, h => by
  have hx : x ∈ S := by rw [h]; simp
  have hpx : ∀ y ∈ p, y.time ≤ x.time ∧ Apart y x := fun y hy => by
   rw [h] at hso hap
   exact ⟨(List.pairwise_append.1 hso).2.2 y hy x List.mem_cons_self, (List.pairwise_append.1 hap).2.2 y hy x List.mem_cons_self⟩
  have hfx := hf x hx
  have hk := hfx.known
  have hnp : paidB p x.tick x.op = false := by
   rw [← Bool.not_eq_true]
   intro hc
   unfold paidB at hc
   obtain ⟨y, hy, h1⟩ := List.any_eq_true.1 hc
   rw [Bool.and_eq_true, decide_eq_true_eq, decide_eq_true_eq] at h1
   exact (hpx y hy).2 h1
  have hpi : p.length < S.length := by rw [h, List.length_append, List.length_cons]; omega
  have hSi : S[p.length] = x := by
   have : S[p.length]? = some x := by
    rw [h, List.getElem?_append_right (Nat.le_refl _), Nat.sub_self]
    rfl
   rw [List.getElem?_eq_getElem hpi] at this
   injection this
  have haf : (afterAt l x.op).all (fun a => paidB p x.tick a) = true := by
   rw [List.all_eq_true]
   intro a ha
   have hgd : afterAt l x.op = (l.getD x.op.toNat opZ).after := by
    unfold afterAt
    rw [List.getD_eq_getElem?_getD]
    cases l[x.op.toNat]? <;> rfl
   rw [hgd] at ha
   obtain ⟨j, hj, hjp, e1, e2⟩ := hcl p.length hpi a (by rw [hSi]; exact ha)
   rw [hSi] at e1
   have hjm : S[j] ∈ p := by
    have h2 : S[j]? = p[j]? := by rw [h, List.getElem?_append_left hjp]
    rw [List.getElem?_eq_getElem hj, List.getElem?_eq_getElem hjp] at h2
    injection h2 with h2
    rw [h2]
    exact List.getElem_mem hjp
   have := paidB_mem hjm
   rw [e1, e2] at this
   exact this
  have hlast : ¬ x.time < lastT p x.tick := by
   have := lastT_le (t := x.tick) (M := x.time) hk.2.2.1 p 0 hk.2.2.1 fun y hy => (hpx y hy).1
   unfold lastT
   omega
  have hout : outE l ws tk p x = 1 := by
   unfold outE
   rw [if_neg (by rw [hfx.1]; decide)]
   unfold judgeE
   rw [if_neg (by rw [hfx.2.1]; decide), if_neg (by rw [hfx.2.2]; decide), if_neg (by rw [hnp]; decide), if_neg (by rw [haf]; decide), if_neg hlast]
  have hn : nextP l ws tk p x = p ++ [x] := by
   unfold nextP
   rw [if_pos hout]
  have ih := outs_run hf hso hap hcl q (p ++ [x]) (by rw [h, List.append_assoc]; rfl)
  refine ⟨?_, ?_⟩
  ·show outE l ws tk p x :: outs l ws tk (nextP l ws tk p x) q = _
   rw [hout, hn, ih.1]
   rfl
  ·rw [List.foldl_cons, hn]
   exact ih.2
end
/-- All that the law asks of the scans. -/
structure FlowOk (l : List Opn) (bs : List Bun) (ts : List Tsk) : Prop where
 twice : outs l wAll (ticks bs) [] (endedF ts ++ endedF ts) = List.replicate ts.length 1 ++ List.replicate ts.length 2
 full : ∀ b (hb : b < bs.length), ∀ o : Nat, o < l.length → paidB (paidL l wAll (ticks bs) (endedF ts)) bs[b].tick (o : Int) = true
 time : ∀ x ∈ endedF ts, 0 ≤ x.time ∧ x.time ≤ 1073741824
 rng : ∀ x ∈ endedF ts, inI64 x.tick ∧ inI64 x.op ∧ inI64 x.who ∧ inI64 x.time
theorem flow_ok {l : List Opn} {T : List Int} {bs : List Bun} {ds : List Dwn} {ts : List Tsk} (hl : listE l (-1) = 0) (hbi : ∀ b ∈ bs, inI64 b.tick) (h : AllGood l T bs ds ts) (hfull : ∀ b (hb : b < bs.length), ∀ o : Nat, o < l.length → ∃ u ∈ ts, u.tick = bs[b].tick ∧ u.op = (o : Int)) : FlowOk l bs ts := by
 obtain ⟨h16, hop⟩ := list_minutes hl
 have hS := srt_all h ts.length (Nat.le_refl _)
 rw [List.take_length] at hS
 have hfine : ∀ x ∈ endedF ts, Fine l wAll (ticks bs) x := fun x hx => by
  obtain ⟨t, ht, rfl⟩ := hS.mem x hx
  obtain ⟨_, hg⟩ := h.mem ht
  obtain ⟨b, hb, o, ho, e1, e2, e3, e4, e5, e6⟩ := hg.tk
  refine ⟨?_, ?_, ?_⟩
  ·rw [hasB_iff]
   exact List.mem_map.2 ⟨bs[b], List.getElem_mem hb, e1⟩
  ·unfold knownB
   refine decide_eq_true ⟨?_, ?_, Int.le_refl _, (show (0 : Int) < ((1 : Nat) : Int) by decide), e6.1, e6.2⟩
   ·show 0 ≤ t.op
    omega
   ·show t.op < l.length
    omega
  ·refine can_all ?_
   show 0 ≤ machAt l t.op ∧ machAt l t.op < 8
   have hm : machAt l t.op = l[o].machine := by
    unfold machAt
    rw [e2, Int.toNat_natCast, List.getElem?_eq_getElem ho]
    rfl
   rw [hm]
   exact ⟨(hop o ho).2.2.1, (hop o ho).2.2.2.1⟩
 obtain ⟨h1, h2⟩ := outs_run hfine hS.sorted hS.apart hS.closed (endedF ts) [] rfl
 have hel := ended_len ts
 refine ⟨?_, fun b hb o ho => ?_, fun x hx => (hfine x hx).known.2.2, fun x hx => ?_⟩
 ·rw [outs_append, h1, h2, outs_again hfine _ fun y hy => hy, hel]
 ·have hp : paidL l wAll (ticks bs) (endedF ts) = endedF ts := h2
  rw [hp]
  obtain ⟨u, hu, e1, e2⟩ := hfull b hb o ho
  have := paidB_mem (hS.mem2 u hu)
  have h3 : (scnT u).tick = bs[b].tick := e1
  have h4 : (scnT u).op = (o : Int) := e2
  rw [h3, h4] at this
  exact this
 ·obtain ⟨t, ht, rfl⟩ := hS.mem x hx
  obtain ⟨_, hg⟩ := h.mem ht
  obtain ⟨b, hb, o, ho, e1, e2, e3, e4, e5, e6⟩ := hg.tk
  have hb2 := hbi _ (List.getElem_mem hb)
  rw [e1] at hb2
  refine ⟨hb2, ?_, ?_, ?_⟩
  ·show inI64 t.op
   unfold inI64
   omega
  ·show inI64 0
   unfold inI64
   omega
  ·show inI64 t.fin
   unfold inI64
   omega
abbrev SmallX (n b d : Nat) := { z : Bool // z = true → n ≤ 6 ∧ b ≤ 6 ∧ d ≤ 10 }
theorem small_ok (w : World) (v0 v1 v2 v3 v4 v5 v6 vb vd : Value) (cy : Int) (s : Sty) (bs : List Bun) (ds : List Dwn) (hs : StyV w w.heap.size (.agg #[v0, v1, v2, v3, v4, v5, v6]) s) (hb : Sl rBun w w.heap.size vb bs) (hd : Sl rDwn w w.heap.size vd ds) :
  OkM Tryz.prog 4 [.agg #[v0, v1, v2, v3, v4, v5, v6, .int .i64 cy, vb, vd]].toArray w (fun z : SmallX s.ops.length bs.length ds.length => .bool z.1) (fun _ => []) := by
 obtain ⟨As, cs, Am, cm, Ap, cp, Au, cu, Ae, ce, Ao, co, he, hnm, h1, h2, h3, h4, h5, h6⟩ := hs
 obtain ⟨rfl, rfl, rfl, rfl, rfl, rfl, rfl⟩ : v0 = _ ∧ v1 = _ ∧ v2 = _ ∧ v3 = _ ∧ v4 = _ ∧ v5 = _ ∧ v6 = _ := by simpa using he
 clear he
 obtain ⟨Ab, cb, rfl, hbc, hbm, _⟩ := hb.bun
 obtain ⟨Ad, cd, rfl, hdc, hdm, _⟩ := hd.dwn
 obtain ⟨_, _, hv, hpc, hpm⟩ := len_small h3
 injection hv with e1 e2 e3
 subst e1 e3
 obtain ⟨_, _, hv, hoc, hom⟩ := len_small h6
 injection hv with e1 e2 e3
 subst e1 e3
 unfold OkM
 refine ok_enter Tryz.func4 rfl Tryz.ntmps4 rfl ?_
 focus (refine gV ?_; refine gw_boxd (v := .agg _) rfl rfl (fun _ => ?_); refine gM ?_; refine gO ?_; refine gQ ?_; refine gV ?_; (iterate 2 refine gF ?_); refine gW .here ?_; refine gL ?_; refine gC ?_; refine gM ?_; refine gD (fun _ => ?_) (fun _ => ?_); (iterate 4 refine gU ?_); refine gPp ?_; refine gM ?_; (iterate 4 refine gU ?_); refine gPp ?_; refine gM ?_; (iterate 5 refine gU ?_); refine gPp ?_; refine gM ?_; (iterate 5 refine gU ?_); refine gPp ?_; refine gM ?_; (iterate 5 refine gU ?_); refine gPp ?_; refine gM ?_; (iterate 5 refine gU ?_); refine gPp ?_; refine gO ?_; refine gc_if_true rfl ?_; refine gV ?_; refine gM ?_; refine gO ?_; refine gR ?_; refine gT ?_; rotate_left; refine gF ?_; refine gW .here ?_; refine gL ?_; refine gC ?_; refine gPq ?_; refine gM ?_; refine gD (fun _ => ?_) (fun _ => ?_); (iterate 4 refine gU ?_); refine gPp ?_; refine gM ?_; (iterate 5 refine gU ?_); refine gPp ?_; refine gM ?_; (iterate 5 refine gU ?_); refine gPp ?_; refine gM ?_; (iterate 5 refine gU ?_); refine gPp ?_; refine gM ?_; (iterate 5 refine gU ?_); refine gPp ?_; refine gO ?_; refine gc_if_true rfl ?_; refine gV ?_; refine gM ?_; refine gO ?_; refine gR ?_; refine gT ?_; rotate_left; refine gF ?_; refine gW .here ?_; refine gL ?_; refine gC ?_; refine gPq ?_; refine gM ?_; refine gD (fun _ => ?_) (fun _ => ?_); (iterate 5 refine gU ?_); refine gPp ?_; refine gM ?_; (iterate 5 refine gU ?_); refine gPp ?_; refine gM ?_; (iterate 5 refine gU ?_); refine gPp ?_; refine gM ?_; (iterate 5 refine gU ?_); refine gPp ?_; refine gO ?_; refine gc_if_true rfl ?_; refine gV ?_; refine gM ?_; refine gO ?_; refine gR ?_; refine gT ?_; rotate_left; (iterate 2 refine gF ?_); refine gW .here ?_; refine gL ?_; refine gC ?_; refine gPq ?_; refine gM ?_; refine gD (fun _ => ?_) (fun _ => ?_); (iterate 5 refine gU ?_); refine gPp ?_; refine gM ?_; (iterate 5 refine gU ?_); refine gPp ?_; refine gM ?_; (iterate 5 refine gU ?_); refine gPp ?_; refine gO ?_; refine gc_if_true rfl ?_; refine gV ?_; refine gM ?_; refine gO ?_; refine gR ?_; refine gT ?_; rotate_left; (iterate 2 refine gF ?_); refine gW .here ?_; refine gL ?_; refine gC ?_; refine gPq ?_; refine gM ?_; refine gD (fun _ => ?_) (fun _ => ?_); (iterate 5 refine gU ?_); refine gPp ?_; refine gM ?_; (iterate 5 refine gU ?_); refine gPp ?_; refine gO ?_; refine gc_if_true rfl ?_; refine gV ?_; refine gM ?_; refine gO ?_; refine gR ?_; refine gT ?_; rotate_left; (iterate 2 refine gF ?_); refine gW .here ?_; refine gL ?_; refine gC ?_; refine gPq ?_; refine gM ?_; refine gD (fun _ => ?_) (fun _ => ?_); (iterate 5 refine gU ?_); refine gPp ?_; refine gO ?_; refine gc_if_true rfl ?_; refine gV ?_; refine gM ?_; refine gO ?_; refine gR ?_; refine gT ?_; rotate_left; (iterate 2 refine gF ?_); refine gW .here ?_; refine gL ?_; refine gC ?_; refine gPq ?_; refine gO ?_; refine gc_if_dec rfl (fun _ => ?_) (fun _ => ?_); refine gV ?_; refine gM ?_; refine gO ?_; refine gR ?_; refine gT ?_; rotate_left; refine gK ?_; refine gX ?_; refine gQ ?_; refine gV ?_; refine gM ?_; refine gO ?_; refine gB ?_; rotate_left)
 all_goals first | (exact gx_ret1 (v := .bool _) rfl rfl (fun w' s => ⟨⟨false, fun h => Bool.noConfusion h⟩, rfl, trivial⟩)) | skip
 have hsm : s.ops.length ≤ 6 ∧ bs.length ≤ 6 ∧ ds.length ≤ 10 := by omega
 refine gc_loopK (σ := Nat) [50, 51, 52, 53, 54, 55, 58, 59, 60, 61, 62, 63, 64, 65, 66, 67, 68, 69, 70, 71, 72, 73, 74, 75, 76, 77, 2, 56, 57, 3] (fun k => [(3, .int .i64 k)]) (fun k => k ≤ s.ops.length) (fun k => s.ops.length - k) 0 (Nat.zero_le _) ⟨rfl, trivial⟩ ?_
 rintro k base hk
 (refine gQ ?_; refine gV ?_; refine gM ?_; (iterate 2 refine gF ?_); refine gW .here ?_; refine gL ?_; refine gC ?_; refine gO ?_)
 refine gc_if_dec rfl (fun h => ?_) (fun h => ?_)
 ·have hkl : k < s.ops.length := by omega
  obtain ⟨ad6, _, hv6, _, _, hb6, hcell6⟩ := h6.at' 5 rfl (by omega)
  injection hv6 with f1 f2 f3
  subst f1 f3
  obtain ⟨cs6, hce6, Aa, ca2, Ax, cx, rfl, _, q1, q2⟩ := hcell6 k hkl
  have hce7 := hce6 3 _ rfl
  have hce8 := hce6 4 _ rfl
  obtain ⟨_, _, hv, hac, ham⟩ := len_small (show Sl rInt w w.heap.size (.slice Aa s.ops[k].after.length ca2) s.ops[k].after from q1)
  obtain ⟨_, _, hv2, hxc, hxm⟩ := len_small (show Sl rInt w w.heap.size (.slice Ax s.ops[k].uses.length cx) s.ops[k].uses from q2)
  focus (refine gK ?_; refine gX ?_; refine gQ ?_; refine gB ?_; refine gV ?_; (iterate 2 refine gF ?_); refine gW .here ?_; refine gM ?_; apply gw_d; exact w_index (m := k) rfl rfl rfl rfl rfl hkl; refine gF ?_; apply gw_d; exact w_load_fld rfl rfl rfl (by assumption) (by assumption); refine gL ?_; refine gC ?_; refine gM ?_; refine gD (fun _ => ?_) (fun _ => ?_); (iterate 9 refine gU ?_); refine gPp ?_; refine gO ?_; refine gc_if_true rfl ?_; refine gV ?_; refine gM ?_; refine gO ?_; refine gR ?_; refine gY ?_; (iterate 2 refine gT ?_); refine gY ?_; refine gT ?_; rotate_left; (iterate 2 refine gF ?_); refine gW .here ?_; refine gM ?_; apply gw_d; exact w_index (m := k) rfl rfl rfl rfl rfl hkl; refine gF ?_; apply gw_d; exact w_load_fld rfl rfl rfl (by assumption) (by assumption); refine gL ?_; refine gC ?_; refine gPq ?_; refine gO ?_; refine gc_if_dec rfl (fun _ => ?_) (fun _ => ?_); refine gV ?_; refine gM ?_; refine gO ?_; refine gR ?_; refine gY ?_; (iterate 2 refine gT ?_); refine gY ?_; refine gT ?_; rotate_left; refine gK ?_; refine gH ?_; refine gX ?_; refine gG ?_; refine gM ?_; refine gA ?_; refine gM ?_; refine gw_nil ?_; rotate_left)
  all_goals first | (exact gx_ret1 (v := .bool _) rfl rfl (fun w' s => ⟨⟨false, fun h => Bool.noConfusion h⟩, rfl, trivial⟩)) | skip
  exact gx_round (k + 1) (by omega) (by omega) kK ⟨rfl, trivial⟩ (Sub.all _)
 ·obtain rfl : k = s.ops.length := by omega
  (refine gI ?_; (iterate 2 refine gZ ?_); refine gJ ?_; refine gX ?_; refine gQ ?_; refine gV ?_; refine gM ?_; refine gO ?_; refine gB ?_)
  refine gc_loopK (σ := Nat) [78, 79, 80, 81, 82, 83, 86, 87, 88, 89, 90, 91, 92, 93, 94, 2, 84, 85, 4] (fun k => [(4, .int .i64 k)]) (fun k => k ≤ s.pieces.length) (fun k => s.pieces.length - k) 0 (Nat.zero_le _) ⟨rfl, trivial⟩ ?_
  rintro k base2 hk2
  (refine gQ ?_; refine gV ?_; refine gM ?_; (iterate 2 refine gF ?_); refine gW .here ?_; refine gL ?_; refine gC ?_; refine gO ?_)
  refine gc_if_dec rfl (fun h2 => ?_) (fun h2 => ?_)
  ·have hkl : k < s.pieces.length := by omega
   obtain ⟨ad6, _, hv6, _, _, hb6, hcell6⟩ := h3.at' 7 rfl (by omega)
   injection hv6 with f1 f2 f3
   subst f1 f3
   obtain ⟨cs6, hce6, Ax, cx, An, cn, Ac, cc, Aw, cw, rfl, _, q1, q2, q3, q4⟩ := hcell6 k hkl
   have hce7 := hce6 1 _ rfl
   (refine gK ?_; refine gX ?_; refine gQ ?_; refine gB ?_; refine gV ?_; (iterate 2 refine gF ?_); refine gW .here ?_; refine gM ?_; apply gw_d; exact w_index (m := k) rfl rfl rfl rfl rfl hkl; refine gF ?_; apply gw_d; exact w_load_fld rfl rfl rfl (by assumption) (by assumption); refine gL ?_; refine gC ?_; refine gO ?_)
   refine gc_if_dec rfl (fun h9 => ?_) (fun h9 => ?_)
   ·(refine gV ?_; refine gM ?_; refine gO ?_; refine gR ?_; refine gY ?_; (iterate 2 refine gT ?_); refine gY ?_; refine gT ?_)
    exact gx_ret1 (v := .bool _) rfl rfl (fun w' s => ⟨⟨false, fun h => Bool.noConfusion h⟩, rfl, trivial⟩)
   ·(refine gK ?_; refine gH ?_; refine gX ?_; refine gG ?_; refine gM ?_; refine gA ?_; refine gM ?_; refine gw_nil ?_)
    exact gx_round (k + 1) (by omega) (by omega) kK ⟨rfl, trivial⟩ (Sub.all _)
  ·(refine gI ?_; (iterate 2 refine gZ ?_); refine gJ ?_; refine gX ?_; refine gV ?_; refine gM ?_; refine gO ?_; refine gR ?_)
   exact gx_ret1 (v := .bool _) rfl rfl (fun w' s => ⟨⟨true, fun _ => hsm⟩, rfl, trivial⟩)
abbrev SimX (l : List Opn) (sts : List (List Int)) (bs : List Bun) (ds : List Dwn) := { x : Int × List Tsk × Option Addr × Nat // x.1 = 0 → comE l sts bs ds = 0 ∧ simF l sts bs ds = some x.2.1 }
theorem made_nil (w w' : World) (el sz : Nat) : Made w [Own none 0 0 el sz []] w' :=
 ⟨World.ownsRow_nil w' 0 el sz, fun b hb => by simp [Own, Value.ownBlock] at hb, fun b hb => by simp [Own, Value.ownBlock] at hb, trivial⟩
theorem Sim_any (w : World) (v vs vb vd : Value) (l : List Opn) (sts : List (List Int)) (bs : List Bun) (ds : List Dwn) (hl : Sl rOp w w.heap.size v l) (hs : Sl rSta w w.heap.size vs sts) (hlen : ∀ s ∈ sts, s.length ≤ 16) (hb : Sl rBun w w.heap.size vb bs) (hd : Sl rDwn w w.heap.size vd ds)
  (hm : sts.length ≤ 16) (hb12 : bs.length ≤ 12) (hd10 : ds.length ≤ 10) :
  OkM Tryz.prog 7 [v, vs, vb, vd].toArray w (fun x : SimX l sts bs ds => .tuple #[.slice x.1.2.2.1 x.1.2.1.length x.1.2.2.2, .int .i64 x.1.1]) (fun x => [Own x.1.2.2.1 x.1.2.1.length x.1.2.2.2 71 5 (x.1.2.1.flatMap encT)]) := by
 unfold OkM
 by_cases he : comE l sts bs ds = 0
 ·have h := Sim_good w v vs vb vd l sts bs ds hl hs hlen hb hd hm hb12 hd10 he
  refine h.mono fun r w' _ hp => ?_
  obtain ⟨o, hsim⟩ : ∃ o, simF l sts bs ds = o := ⟨_, rfl⟩
  rw [hsim] at hp
  cases o with
  | none =>
   have hp : r = .tuple #[.slice none 0 0, .int .i64 3] := hp
   exact ⟨⟨(3, [], none, 0), fun h => absurd h (by decide)⟩, hp, made_nil w w' _ _⟩
  | some ts =>
   obtain ⟨x, hr, hmd⟩ := hp
   exact ⟨⟨(0, ts, x.1, x.2), fun _ => ⟨he, hsim⟩⟩, hr, hmd⟩
 ·refine (Sim_bad w v vs vb vd l sts bs ds hl hs hlen hb hd he).mono fun r w' _ hp => ?_
  exact ⟨⟨(comE l sts bs ds, [], none, 0), fun h => absurd h he⟩, hp, made_nil w w' _ _⟩
theorem eights_map : eights.map (Value.int .i64) = ((List.range 8).map fun i => (Value.int .i64 ((i : Nat) : Int))) := rfl
theorem lawTopFlow_ok (w : World) (v0 v1 v2 v3 v4 v5 v6 vb vd : Value) (cy : Int) (s : Sty) (bs : List Bun) (ds : List Dwn) (hs : StyV w w.heap.size (.agg #[v0, v1, v2, v3, v4, v5, v6]) s) (hb : Sl rBun w w.heap.size vb bs) (hd : Sl rDwn w w.heap.size vd ds) :
  Ok Tryz.prog 3 [.agg #[v0, v1, v2, v3, v4, v5, v6, .int .i64 cy, vb, vd]].toArray w fun r _ => r = .bool true := by
 have hFl := fun (L : List Res) (w' : World) (_ : St w L w') => flows_ok w'
 have hSm := fun (L : List Res) (w' : World) (s' : St w L w') => small_ok w' v0 v1 v2 v3 v4 v5 v6 vb vd cy s bs ds (StyV.later s' hs) (hb.later s') (hd.later s')
 have hO := fun (L : List Res) (w' : World) (s' : St w L w') => opCheck_ok w' (.agg #[v0, v1, v2, v3, v4, v5, v6]) s (StyV.later s' hs)
 have hl : Sl rOp w w.heap.size v6 s.ops := by
  obtain ⟨As, cs, Am, cm, Ap, cp, Au, cu, Ae, ce, Ao, co, he, _, _, _, _, _, _, h6⟩ := hs
  obtain ⟨rfl, rfl, rfl, rfl, rfl, rfl, rfl⟩ : v0 = _ ∧ v1 = _ ∧ v2 = _ ∧ v3 = _ ∧ v4 = _ ∧ v5 = _ ∧ v6 = _ := by simpa using he
  exact h6
 have hsc : ∃ x : Option Addr × Nat, v6 = .slice x.1 s.ops.length x.2 := by
  obtain ⟨A, c, h, _⟩ := len_small hl
  exact ⟨(A, c), h⟩
 obtain ⟨⟨Al, cl⟩, rfl⟩ := hsc
 have hone : (Value.agg #[v0, v1, v2, v3, v4, v5, .slice Al s.ops.length cl, .int .i64 cy, vb, vd]).cells = #[v0, v1, v2, v3, v4, v5, .slice Al s.ops.length cl, .int .i64 cy, vb, vd] := rfl
 obtain ⟨Ab, cb, rfl, hbc, hbm, hbcell⟩ := hb.bun
 obtain ⟨Ad, cd, rfl, hdc, hdm, _⟩ := hd.dwn
 generalize hld : s.ops = l at *
 refine ok_enter Tryz.func3 rfl Tryz.ntmps3 rfl ?_
 (refine gV ?_; refine gw_boxd (v := .agg _) rfl rfl (fun _ => ?_); refine gM ?_; refine gO ?_; refine gQ ?_; refine gV ?_; apply gw_d; exact w_load_boxN rfl rfl rfl .here rfl)
 rename_i bx
 refine gw_callm rfl (hSm _) rfl (fun z => ?_)
 obtain ⟨z, hz⟩ := z
 (apply gw_d; exact det_not_ rfl rfl rfl; refine gO ?_)
 cases z with
 | false =>
  refine gc_if_true rfl ?_
  (refine gV ?_; apply gw_d; exact w_call rfl rfl (hFl _) rfl; refine gM ?_; refine gO ?_; refine gR ?_; refine gT ?_)
  refine gb1 (fun _ _ => ?_)
  rfl
 | true =>
 obtain ⟨hn6, hb6, hd10⟩ := hz rfl
 refine gc_if_false rfl ?_
 by_cases hbd : bndE l cy = 0
 ·(refine gK ?_; refine gX ?_; refine gV ?_; (iterate 2 refine gF ?_); refine gW .here ?_; refine gM ?_; refine gN ?_; refine gM ?_; refine gF ?_; refine gW .here ?_)
  refine gw_callm rfl (fun w' s' => Balance_ok w' (.slice Al l.length cl) l cy (hl.later s') hbd) rfl (fun x => ?_)
  obtain ⟨⟨br, m, A, F⟩, hm16, hF16, hFr⟩ := x
  dsimp only at hm16 hF16 hFr ⊢
  have hin : ∀ q, ∀ x ∈ F q, inI64 x := fun q x hx => by
   have := hFr q x hx
   unfold inI64
   omega
  have hlen : ∀ s ∈ (List.range m).map F, s.length ≤ 16 := fun s hs => by
   obtain ⟨q, _, rfl⟩ := List.mem_map.1 hs
   exact hF16 q
  have hmr : ((List.range m).map F).length = m := by simp
  (refine gM ?_; apply gw_d; exact det_extract rfl rfl rfl (by conv => (lhs; whnf)); apply gw_d; exact det_extract rfl rfl rfl (by conv => (lhs; whnf)); (iterate 2 refine gM ?_); refine gO ?_; refine gQ ?_; refine gV ?_; refine gM ?_; refine gC ?_; refine gO ?_)
  refine gc_if_dec rfl (fun h => absurd rfl h) (fun _ => ?_)
  (refine gK ?_; refine gX ?_; refine gV ?_; (iterate 2 refine gM ?_); refine gF ?_; refine gW (.there (.there .here)) ?_; refine gF ?_; refine gW (.there (.there .here)) ?_)
  refine gw_callm rfl (fun w' s' => Sim_any w' (.slice Al l.length cl) (.slice (some ⟨br, 0, none⟩) m m) (.slice Ab bs.length cb) (.slice Ad ds.length cd) l ((List.range m).map F) bs ds (hl.later s') (Sl.ofRows s' .here (.there .here) (by omega) hin) hlen (hb.later s') (hd.later s') (by omega) (by omega) hd10) rfl (fun x => ?_)
  obtain ⟨⟨f, ts, At, ct⟩, hf⟩ := x
  dsimp only at hf ⊢
  generalize hsts : (List.range m).map F = sts at *
  refine gw_ent (Sub.ent (K := [Own At ts.length ct 71 5 (ts.flatMap encT), Box br 23 (rowC m A F).toArray, Coll m (rowR 3 A F), Box bx 33 #[v0, v1, v2, v3, v4, v5, .slice Al l.length cl, .int .i64 cy, .slice Ab bs.length cb, .slice Ad ds.length cd]]) (.cons .here (.cons .here (.cons .here (.cons .here .nil))))) ?_
  (refine gM ?_; apply gw_d; exact det_extract rfl rfl rfl (by conv => (lhs; whnf)); apply gw_d; exact det_extract rfl rfl rfl (by conv => (lhs; whnf)); (iterate 2 refine gM ?_); refine gN ?_; apply gw_d; exact w_buildP [(0, .string sAll)] (cells := #[.string sAll, .slice none 0 0]) (by kernel_rfl) rfl rfl rfl; refine w_alloc rfl (fun _ => ?_); refine w_store_all rfl rfl rfl rfl rfl .here rfl ?_; refine gO ?_; refine gQ ?_; refine gV ?_; refine gM ?_; refine gO ?_; refine gB ?_)
  rename_i bw
  refine gc_own0 3 1 ?_
  refine gc_loop (σ := Nat × Option Addr × Nat) [48, 49, 52, 53, 54, 55, 56, 57, 50, 51, 9] (fun q => [(9, .int .i64 q.1)]) (fun q => [Own q.2.1 q.1 q.2.2 3 1 ((List.range q.1).map fun i => (Value.int .i64 ((i : Nat) : Int))), Box bw 44 #[.string sAll, .slice q.2.1 q.1 q.2.2], Own At ts.length ct 71 5 (ts.flatMap encT), Box br 23 (rowC m A F).toArray, Coll m (rowR 3 A F), Box bx 33 #[v0, v1, v2, v3, v4, v5, .slice Al l.length cl, .int .i64 cy, .slice Ab bs.length cb, .slice Ad ds.length cd]]) (fun q => q.1 ≤ 8) (fun q => 8 - q.1) (0, none, 0) (Nat.zero_le _) ⟨rfl, trivial⟩ (Sub.all _) ?_
  rintro ⟨k, Aw, cw⟩ base hk
  dsimp only at hk ⊢
  (refine gQ ?_; refine gV ?_; refine gM ?_; refine gC ?_; refine gO ?_)
  refine gc_if_dec rfl (fun h8 => ?_) (fun h8 => ?_)
  ·have hk8 : k < 8 := by omega
   (refine gK ?_; refine gX ?_; refine gQ ?_; refine gB ?_; refine gG ?_; refine gF ?_; refine gW (.there .here) ?_; refine gM ?_)
   refine gw_bslice1 (v := .int .i64 (k : Int)) rfl rfl rfl rfl rfl (fun bb => ?_)
   refine gw_append (news := [.int .i64 (k : Int)]) rfl rfl rfl (.there .here) rfl (fun w' s _ => ?_) (fun u hu => ?_) (by unfold maxLen; omega) (by omega) (by decide) rfl (fun A3 c3 => ?_)
   ·refine ⟨⟨bb, 0, none⟩, rfl, fun i u hu => ?_⟩
    rw [add_zero]
    refine (Box.cell s.head i).trans ?_
    change (#[Value.int .i64 (k : Int)] : Array Value)[i]? = some u
    rw [List.getElem?_toArray]
    exact hu
   ·rw [List.mem_singleton] at hu
    subst hu
    rfl
   ·have hrs : ((List.range (k + 1)).map fun i => (Value.int .i64 ((i : Nat) : Int))) = ((List.range k).map fun i => (Value.int .i64 ((i : Nat) : Int))) ++ [.int .i64 (k : Int)] := by
     rw [List.range_succ, List.map_append]
     rfl
    (refine gF ?_; refine w_store rfl rfl rfl rfl rfl (.there (.there .here)) rfl rfl ?_; refine gw_nil ?_; refine gH ?_; refine gX ?_; refine gG ?_; refine gM ?_; refine gA ?_; refine gM ?_; refine gw_nil ?_)
    refine gx_round (k + 1, A3, c3) (by dsimp only; omega) (by dsimp only; omega) kK ⟨rfl, trivial⟩ ?_
    dsimp only
    rw [hrs]
    exact (by repeat (first | exact Sub.nil | (apply Sub.cons; first | exact .here | exact .there .here | exact .there (.there .here) | exact .there (.there (.there .here)) | exact .there (.there (.there (.there .here))) | exact .there (.there (.there (.there (.there .here)))) | exact .there (.there (.there (.there (.there (.there .here))))) | exact .there (.there (.there (.there (.there (.there (.there .here)))))) | exact .there (.there (.there (.there (.there (.there (.there (.there .here))))))) | exact .there (.there (.there (.there (.there (.there (.there (.there (.there .here)))))))))))
  obtain rfl : k = 8 := by omega
  (refine gI ?_; (iterate 2 refine gZ ?_); refine gJ ?_; refine gX ?_; refine gV ?_; apply gw_d; exact w_load_boxN rfl rfl rfl (.there .here) rfl)
  refine gw_bslice1 (v := .agg #[.string sAll, .slice Aw 8 cw]) rfl rfl rfl rfl rfl (fun b4 => ?_)
  rw [← eights_map]
  refine gw_ent (Sub.ent (K := [Box bx 33 #[v0, v1, v2, v3, v4, v5, .slice Al l.length cl, .int .i64 cy, .slice Ab bs.length cb, .slice Ad ds.length cd], Box b4 44 #[.string sAll, .slice Aw 8 cw], Own Aw 8 cw 3 1 (eights.map (Value.int .i64)), Own At ts.length ct 71 5 (ts.flatMap encT), Box br 23 (rowC m A F).toArray, Coll m (rowR 3 A F)]) (by repeat (first | exact Sub.nil | (apply Sub.cons; first | exact .here | exact .there .here | exact .there (.there .here) | exact .there (.there (.there .here)) | exact .there (.there (.there (.there .here))) | exact .there (.there (.there (.there (.there .here)))) | exact .there (.there (.there (.there (.there (.there .here))))) | exact .there (.there (.there (.there (.there (.there (.there .here)))))) | exact .there (.there (.there (.there (.there (.there (.there (.there .here))))))) | exact .there (.there (.there (.there (.there (.there (.there (.there (.there .here)))))))))))) ?_
  have hWk : ∀ (L : List Res) (w' : World), St w (Box bx 33 #[v0, v1, v2, v3, v4, v5, .slice Al l.length cl, .int .i64 cy, .slice Ab bs.length cb, .slice Ad ds.length cd] :: Box b4 44 #[.string sAll, .slice Aw 8 cw] :: Own Aw 8 cw 3 1 (eights.map (Value.int .i64)) :: L) w' → Sl rWrk w' w'.heap.size (.slice (some ⟨b4, 0, none⟩) 1 1) wAll := fun L w' s' => by
   have hbox : w'.heap[b4]? = some (.cells #[.string sAll, .slice Aw 8 cw] 44 (0, 0)) := s'.drop.head
   have he : Sl rInt w' w'.heap.size (.slice Aw 8 cw) eights := Sl.ownI s' (.there (.there .here)) rfl (by
    unfold eights inI64
    intro x hx
    simp only [List.mem_cons, List.not_mem_nil, or_false] at hx
    omega)
   exact Sl.ofCells hbox rfl (by decide) (by decide) ⟨⟨_, _, rfl, by decide, he⟩, trivial⟩
  have hCk := fun (L : List Res) (w' : World) (s' : St w (Box bx 33 #[v0, v1, v2, v3, v4, v5, .slice Al l.length cl, .int .i64 cy, .slice Ab bs.length cb, .slice Ad ds.length cd] :: Box b4 44 #[.string sAll, .slice Aw 8 cw] :: Own Aw 8 cw 3 1 (eights.map (Value.int .i64)) :: L) w') => scanCheck_ok w' v0 v1 v2 v3 v4 v5 (.slice Al l.length cl) (.slice Ab bs.length cb) (.slice (some ⟨b4, 0, none⟩) 1 1) (opCheckE s plE) bs wAll (fun L2 w2 s2 => hO [] w2 ⟨s'.below.trans (Below.mono s2.below s'.below.size), trivial⟩) (hb.later s') (hWk L w' s')
  have hSk := fun (L : List Res) (w' : World) (s' : St w (Box bx 33 #[v0, v1, v2, v3, v4, v5, .slice Al l.length cl, .int .i64 cy, .slice Ab bs.length cb, .slice Ad ds.length cd] :: Box b4 44 #[.string sAll, .slice Aw 8 cw] :: Own Aw 8 cw 3 1 (eights.map (Value.int .i64)) :: L) w') => skillCheck_ok w' (.slice (some ⟨b4, 0, none⟩) 1 1) wAll (hWk L w' s')
  have hsk0 : skillE wAll = 0 := by kernel_rfl
  rw [hsk0] at hSk
  by_cases hf0 : f = 0
  ·by_cases hsc : scanE (opCheckE s plE) bs wAll = 0
   ·rw [hsc] at hCk
    subst hf0
    focus (refine gM ?_; refine gO ?_; refine gQ ?_; refine gV ?_; refine gM ?_; refine gC ?_; refine gM ?_; refine gF ?_; apply gw_d; exact w_load_part rfl rfl rfl .here rfl rfl; refine gF ?_; refine gW .here ?_; refine gM ?_; apply gw_d; exact w_call rfl rfl (hCk _) rfl; refine gC ?_; refine gPq ?_; (iterate 2 refine gM ?_); apply gw_d; exact w_call rfl rfl (hSk _) rfl; refine gC ?_; refine gPq ?_; refine gO ?_; refine gc_if_dec rfl (fun _ => ?_) (fun _ => ?_); refine gV ?_; rotate_left; refine gK ?_; refine gX ?_; refine gQ ?_; refine gV ?_; refine gM ?_; refine gL ?_; refine gM ?_; refine gL ?_; refine gF ?_; refine gW .here ?_; refine gL ?_; rotate_left)
    all_goals first | (exfalso; omega) | skip
    obtain ⟨hcom, hsim⟩ := hf rfl
    have hOk := scan_good hsc
    have hTix := hOk.tix
    obtain ⟨hAG, htl, hfull⟩ := sim_valid hcom hTix hsim
    have hlist := (com_ok hcom).list
    have hV := hAG.valid htl
    have hbi : ∀ b ∈ bs, inI64 b.tick := fun b hb => by
     obtain ⟨k, hk, rfl⟩ := List.getElem_of_mem hb
     obtain ⟨_, _, _, _, h1, _, _⟩ := hbcell k hk
     exact h1
    have hFO := flow_ok hlist hbi hAG hfull
    have h36 : ts.length ≤ 36 := by
     rw [htl]
     exact Nat.mul_le_mul hb6 hn6
    have hmul : (l.length : Int) * (bs.length : Int) = (ts.length : Int) := by rw [htl, Int.natCast_mul, Int.mul_comm]
    have hTk : ∀ (w' : World), St w [Box bx 33 #[v0, v1, v2, v3, v4, v5, .slice Al l.length cl, .int .i64 cy, .slice Ab bs.length cb, .slice Ad ds.length cd], Box b4 44 #[.string sAll, .slice Aw 8 cw], Own Aw 8 cw 3 1 (eights.map (Value.int .i64)), Own At ts.length ct 71 5 (ts.flatMap encT), Box br 23 (rowC m A F).toArray, Coll m (rowR 3 A F)] w' → Sl rTsk w' w'.heap.size (.slice At ts.length ct) ts := fun w' s' => Sl.own (R := rTsk) (enc := encT) s' (.there (.there (.there .here))) rfl fun _ _ => rfl
    have hChk : ∀ (w' : World), St w [Box bx 33 #[v0, v1, v2, v3, v4, v5, .slice Al l.length cl, .int .i64 cy, .slice Ab bs.length cb, .slice Ad ds.length cd], Box b4 44 #[.string sAll, .slice Aw 8 cw], Own Aw 8 cw 3 1 (eights.map (Value.int .i64)), Own At ts.length ct 71 5 (ts.flatMap encT), Box br 23 (rowC m A F).toArray, Coll m (rowR 3 A F)] w' → Ok Tryz.prog 10 [.slice Al l.length cl, .slice (some ⟨br, 0, none⟩) m m, .slice Ab bs.length cb, .slice Ad ds.length cd, .slice At ts.length ct].toArray w' fun r _ => r = .int .i64 0 := fun w' s' => by
     have hst := Sl.ofRows s' (.there (.there (.there (.there .here)))) (.there (.there (.there (.there (.there .here))))) (by omega) hin
     rw [hsts] at hst
     exact fCheck_ok w' _ _ _ _ _ l sts bs ds ts (hl.later s') hst hlen (hb.later s') (hd.later s') (hTk w' s') (by omega) hd10 hcom hTix hV
    focus (refine gA ?_; refine gC ?_; refine gM ?_; refine gD (fun _ => ?_) (fun _ => ?_); (iterate 9 refine gU ?_); refine gPp ?_; refine gO ?_; refine gc_if_true rfl ?_; refine gV ?_; refine gM ?_; refine gO ?_; refine gR ?_; refine gT ?_; rotate_left; (iterate 2 refine gM ?_); refine gF ?_; refine gW .here ?_; refine gF ?_; refine gW .here ?_; refine gM ?_; apply gw_d; exact w_call rfl rfl hChk rfl; refine gC ?_; refine gPq ?_; refine gO ?_; refine gc_if_dec rfl (fun _ => ?_) (fun _ => ?_); refine gV ?_; refine gM ?_; refine gO ?_; refine gR ?_; refine gT ?_; rotate_left; refine gK ?_; refine gX ?_; refine gV ?_; refine gM ?_; rotate_left)
    all_goals first | (exfalso; omega) | skip
    refine gw_callm rfl (fun w' s' => ended_ok w' _ ts (hTk w' s') (by omega)) rfl (fun x => ?_)
    obtain ⟨As, cs⟩ := x
    dsimp only
    have hSl := ended_len ts
    have hEnd := hFO.time
    have hRng := hFO.rng
    have hTwice := hFO.twice
    have hPaid := hFO.full
    generalize endedF ts = S at hSl hEnd hRng hTwice hPaid
    refine gw_ent (Sub.ent (K := [Box bx 33 #[v0, v1, v2, v3, v4, v5, .slice Al l.length cl, .int .i64 cy, .slice Ab bs.length cb, .slice Ad ds.length cd], Box b4 44 #[.string sAll, .slice Aw 8 cw], Own Aw 8 cw 3 1 (eights.map (Value.int .i64)), Own As S.length cs 52 4 (S.flatMap encX)]) (by repeat (first | exact Sub.nil | (apply Sub.cons; first | exact .here | exact .there .here | exact .there (.there .here) | exact .there (.there (.there .here)) | exact .there (.there (.there (.there .here))) | exact .there (.there (.there (.there (.there .here)))) | exact .there (.there (.there (.there (.there (.there .here))))) | exact .there (.there (.there (.there (.there (.there (.there .here)))))) | exact .there (.there (.there (.there (.there (.there (.there (.there .here))))))) | exact .there (.there (.there (.there (.there (.there (.there (.there (.there .here)))))))))))) ?_
    have hlast : ∀ h : 0 < S.length, (S.flatMap encX)[(S.length - 1) * 4 + 3]? = some (.int .i64 (S[S.length - 1]'(by omega)).time) := fun h => flat_at (enc := encX) (sz := 4) (fun x _ => encX_len x) (by omega : S.length - 1 < S.length) 3 _ rfl
    have hlt : ∀ h : 0 < S.length, (S[S.length - 1]'(by omega)).time ≤ 1073741824 := fun h => (hEnd _ (List.getElem_mem _)).2
    have hSm' : Small l := by
     obtain ⟨h16, hop⟩ := list_minutes hlist
     exact ⟨h16, fun k hk a ha => areIx_at (hop k hk).2.2.2.2 a ha⟩
    have hfl := flat_len (enc := encX) encX_len S
    have hj0 : judgeAllE (opCheckE s plE) bs wAll (S ++ S).length = 0 := by
     unfold judgeAllE
     rw [if_neg (by rw [hsc]; decide), if_neg (by rw [List.length_append]; omega)]
    by_cases h0 : 0 < S.length
    ·have hl1 := hlast h0
     have hl2 := hlt h0
     generalize (S[S.length - 1]'(by omega)).time = tl at hl1 hl2
     focus (refine gM ?_; refine gO ?_; refine gQ ?_; refine gV ?_; refine gM ?_; refine gL ?_; refine gC ?_; refine gM ?_; refine gD (fun _ => ?_) (fun _ => ?_); (iterate 2 refine gM ?_); refine gL ?_; refine gA ?_; apply gw_d; exact w_indexO (m := S.length - 1) rfl rfl rfl rfl (by omega) (by omega) (.there (.there (.there .here))); refine gF ?_; apply gw_d; exact w_loadOF rfl rfl rfl (.there (.there (.there .here))) (by omega) hl1; refine gC ?_; refine gPp ?_; refine gO ?_; refine gc_if_dec rfl (fun _ => ?_) (fun _ => ?_); refine gV ?_; rotate_left; refine gK ?_; refine gX ?_; refine gV ?_; rotate_left; (iterate 8 refine gU ?_); refine gPq ?_; refine gO ?_; refine gc_if_false rfl ?_; refine gK ?_; refine gX ?_; refine gV ?_; rotate_left)
     all_goals first | (exfalso; omega) | skip
     refine gw_bslice0 rfl (fun b0 => ?_)
     refine gw_ent (box_own (n := 0) (c := 0) (sz := 4) (xs := []) ⟨Nat.le_refl _, Nat.zero_le _, rfl⟩ rfl) ?_
     (refine gM ?_)
     refine gw_append (xs := []) (news := S.flatMap encX) rfl rfl rfl .here hfl (fun w' s' hpos => ?_) encX_one (by unfold maxLen; omega) (by omega) (by decide) rfl (fun A1 c1 => ?_)
     ·obtain ⟨g, cs1, hA, hg, _⟩ := own_some s' (.there (.there (.there (.there .here)))) hpos
      exact ⟨adr As, by rw [hA]; rfl, fun j u hu => own_cell s' (.there (.there (.there (.there .here)))) hpos hu⟩
     simp only [Nat.zero_add, List.nil_append]
     (refine gM ?_)
     refine gw_append (xs := S.flatMap encX) (news := S.flatMap encX) rfl rfl rfl .here hfl (fun w' s' hpos => ?_) encX_one (by unfold maxLen; omega) (by omega) (by decide) rfl (fun A2 c2 => ?_)
     ·obtain ⟨g, cs1, hA, hg, _⟩ := own_some s' (.there (.there (.there (.there .here)))) hpos
      exact ⟨adr As, by rw [hA]; rfl, fun j u hu => own_cell s' (.there (.there (.there (.there .here)))) hpos hu⟩
     rw [← List.flatMap_append, show S.length + S.length = (S ++ S).length from List.length_append.symm]
     have h2l : (S ++ S).length = S.length + S.length := List.length_append
     refine gw_ent (Sub.ent (K := [Box bx 33 #[v0, v1, v2, v3, v4, v5, .slice Al l.length cl, .int .i64 cy, .slice Ab bs.length cb, .slice Ad ds.length cd], Box b4 44 #[.string sAll, .slice Aw 8 cw], Own Aw 8 cw 3 1 (eights.map (Value.int .i64)), Own As S.length cs 52 4 (S.flatMap encX), Own A2 (S ++ S).length c2 52 4 ((S ++ S).flatMap encX)]) (by repeat (first | exact Sub.nil | (apply Sub.cons; first | exact .here | exact .there .here | exact .there (.there .here) | exact .there (.there (.there .here)) | exact .there (.there (.there (.there .here))) | exact .there (.there (.there (.there (.there .here)))) | exact .there (.there (.there (.there (.there (.there .here))))) | exact .there (.there (.there (.there (.there (.there (.there .here)))))) | exact .there (.there (.there (.there (.there (.there (.there (.there .here))))))) | exact .there (.there (.there (.there (.there (.there (.there (.there (.there .here)))))))))))) ?_
     (refine gM ?_; refine gN ?_; refine gF ?_; apply gw_d; exact w_load_part rfl rfl rfl .here rfl rfl; refine gF ?_; refine gW .here ?_; (iterate 2 refine gM ?_))
     refine gw_callm rfl (fun w' s' => Judge_ok (fun L2 w2 s2 => hO [] w2 ⟨s'.below.trans (Below.mono s2.below s'.below.size), trivial⟩) (hl.later s') (hb.later s') (hWk _ w' s') (Sl.own (R := rScn) (enc := encX) s' (.there (.there (.there (.there .here)))) rfl fun x hx => ⟨rfl, hRng x (by rcases List.mem_append.1 hx with h | h <;> exact h)⟩) hSm' hj0) rfl (fun xj => ?_)
     rw [hTwice]
     have hol : (List.replicate ts.length (1 : Int) ++ List.replicate ts.length 2).length = (S ++ S).length := by
      rw [List.length_append, List.length_append, List.length_replicate, List.length_replicate, hSl]
     have hget : ∀ k, k < (S ++ S).length → (List.replicate ts.length (1 : Int) ++ List.replicate ts.length 2).getD k 0 = if k < S.length then 1 else 2 := fun k hk => by
      rw [List.getD_eq_getElem?_getD]
      by_cases hks : k < S.length
      ·rw [if_pos hks, List.getElem?_append_left (by rw [List.length_replicate]; omega), List.getElem?_replicate, if_pos (by omega)]
       rfl
      ·rw [if_neg hks, List.getElem?_append_right (by rw [List.length_replicate]; omega), List.getElem?_replicate, if_pos (by rw [List.length_replicate]; omega)]
       rfl
     generalize List.replicate ts.length (1 : Int) ++ List.replicate ts.length 2 = O at hol hget
     focus (refine gM ?_; apply gw_d; exact det_extract rfl rfl rfl (by conv => (lhs; whnf)); apply gw_d; exact det_extract rfl rfl rfl (by conv => (lhs; whnf)); (iterate 2 refine gM ?_); refine gO ?_; refine gQ ?_; refine gV ?_; refine gM ?_; refine gC ?_; (iterate 2 refine gM ?_); refine gL ?_; refine gM ?_; refine gL ?_; refine gC ?_; refine gPq ?_; refine gO ?_; refine gc_if_dec rfl (fun _ => ?_) (fun _ => ?_); refine gV ?_; refine gM ?_; refine gO ?_; refine gR ?_; refine gT ?_; rotate_left; refine gK ?_; refine gX ?_; refine gQ ?_; refine gV ?_; refine gM ?_; refine gO ?_; refine gB ?_; rotate_left)
     all_goals first | (exfalso; omega) | skip
     refine gc_loopK (σ := Nat) [137, 138, 139, 140, 16, 143, 144, 145, 146, 147, 148, 149, 150, 151, 152, 2, 141, 142, 15] (fun k => [(15, .int .i64 k)]) (fun k => k ≤ (S ++ S).length) (fun k => (S ++ S).length - k) 0 (Nat.zero_le _) ⟨rfl, trivial⟩ ?_
     rintro k base2 hk
     (refine gQ ?_; refine gV ?_; (iterate 2 refine gM ?_); refine gL ?_; refine gC ?_; refine gO ?_)
     refine gc_if_dec rfl (fun h3 => ?_) (fun h3 => ?_)
     ·have hkl : k < (S ++ S).length := by omega
      have hrow : (O.map (Value.int .i64)).toArray[k * 1]? = some (.int .i64 (O.getD k 0)) := row_get (Value.int .i64) 0 (by omega)
      rw [hget k hkl] at hrow
      (refine gK ?_; refine gX ?_; refine gQ ?_; refine gB ?_; refine gV ?_; refine gM ?_; refine gO ?_; refine gQ ?_; refine gV ?_; (iterate 2 refine gM ?_); refine gL ?_; refine gC ?_; refine gO ?_)
      refine gc_if_dec rfl (fun h4 => ?_) (fun h4 => ?_)
      ·rw [if_neg (by omega)] at hrow
       (refine gG ?_; refine gM ?_; refine gN ?_; (iterate 2 refine gM ?_); apply gw_d; exact w_index (m := k) rfl rfl rfl rfl rfl hkl; apply gw_d; exact w_load_row rfl rfl rfl .here hrow; refine gM ?_; refine gC ?_; refine gO ?_)
       refine gc_if_dec rfl (fun h => absurd rfl h) (fun _ => ?_)
       (refine gK ?_; refine gH ?_; refine gX ?_; refine gG ?_; refine gM ?_; refine gA ?_; refine gM ?_; refine gw_nil ?_)
       exact gx_round (k + 1) (by omega) (by omega) kK ⟨rfl, trivial⟩ (Sub.all _)
      ·rw [if_pos (by omega)] at hrow
       (refine gK ?_; refine gX ?_; refine gV ?_; (iterate 2 refine gM ?_); apply gw_d; exact w_index (m := k) rfl rfl rfl rfl rfl hkl; apply gw_d; exact w_load_row rfl rfl rfl .here hrow; refine gM ?_; refine gC ?_; refine gO ?_)
       refine gc_if_dec rfl (fun h => absurd rfl h) (fun _ => ?_)
       (refine gK ?_; refine gH ?_; refine gX ?_; refine gG ?_; refine gM ?_; refine gA ?_; refine gM ?_; refine gw_nil ?_)
       exact gx_round (k + 1) (by omega) (by omega) kK ⟨rfl, trivial⟩ (Sub.all _)
     ·(refine gI ?_; (iterate 2 refine gZ ?_); refine gJ ?_; refine gX ?_; refine gQ ?_; refine gV ?_; refine gM ?_; refine gO ?_; refine gB ?_)
      refine gc_ent (Sub.ent (K := [Box bx 33 #[v0, v1, v2, v3, v4, v5, .slice Al l.length cl, .int .i64 cy, .slice Ab bs.length cb, .slice Ad ds.length cd], Box b4 44 #[.string sAll, .slice Aw 8 cw], Own Aw 8 cw 3 1 (eights.map (Value.int .i64)), Own As S.length cs 52 4 (S.flatMap encX)]) (by repeat (first | exact Sub.nil | (apply Sub.cons; first | exact .here | exact .there .here | exact .there (.there .here) | exact .there (.there (.there .here)) | exact .there (.there (.there (.there .here))) | exact .there (.there (.there (.there (.there .here)))) | exact .there (.there (.there (.there (.there (.there .here))))) | exact .there (.there (.there (.there (.there (.there (.there .here)))))) | exact .there (.there (.there (.there (.there (.there (.there (.there .here))))))) | exact .there (.there (.there (.there (.there (.there (.there (.there (.there .here)))))))))))) ?_
      refine gc_loopK (σ := Nat) [153, 154, 155, 156, 157, 161, 162, 163, 164, 165, 166, 167, 168, 169, 170, 171, 172, 173, 160, 174, 175, 18, 19, 176, 177, 178, 179, 180, 181, 182, 2, 158, 159, 17] (fun k => [(17, .int .i64 k)]) (fun k => k ≤ bs.length) (fun k => bs.length - k) 0 (Nat.zero_le _) ⟨rfl, trivial⟩ ?_
      rintro k2 base3 hk2
      (refine gQ ?_; refine gV ?_; refine gM ?_; refine gF ?_; refine gW .here ?_; refine gL ?_; refine gC ?_; refine gO ?_)
      refine gc_if_dec rfl (fun h5 => ?_) (fun h5 => ?_)
      ·have hkb : k2 < bs.length := by omega
       obtain ⟨adb, rfl, hbb, hceb, _⟩ := hbcell k2 hkb
       have hce0 := hceb 0 _ rfl
       have hOp : ∀ (w' : World), St w [Box bx 33 #[v0, v1, v2, v3, v4, v5, .slice Al l.length cl, .int .i64 cy, .slice (some adb) bs.length cb, .slice Ad ds.length cd], Box b4 44 #[.string sAll, .slice Aw 8 cw], Own Aw 8 cw 3 1 (eights.map (Value.int .i64)), Own As S.length cs 52 4 (S.flatMap encX)] w' → Ok Tryz.prog 13 [.agg #[v0, v1, v2, v3, v4, v5, .slice Al l.length cl], .slice (some adb) bs.length cb, .slice (some ⟨b4, 0, none⟩) 1 1, .slice As S.length cs, .int .i64 bs[k2].tick].toArray w' fun r _ => r = .tuple #[.slice none 0 0, .int .i64 0] := fun w' s' =>
        Open_ok w' v0 v1 v2 v3 v4 v5 (.slice Al l.length cl) _ _ _ (opCheckE s plE) l bs wAll S k2 (fun L2 w2 s2 => hO [] w2 ⟨s'.below.trans (Below.mono s2.below s'.below.size), trivial⟩) (hl.later s') (hb.later s') (hWk _ w' s') (Sl.own (R := rScn) (enc := encX) s' (.there (.there (.there .here))) rfl fun x hx => ⟨rfl, hRng x hx⟩) hSm' hsc (by omega) hkb (hPaid k2 hkb)
       (refine gK ?_; refine gX ?_; refine gQ ?_; refine gB ?_; refine gQ ?_)
       refine gc_draw 18 (by kernel_rfl) (by kernel_rfl) ?_
       (apply gd_d; exact w_field rfl rfl rfl; apply gd_d; exact w_load_part rfl rfl rfl .here rfl rfl; apply gd_d; exact w_field rfl rfl rfl; apply gd_d; exact w_load_box rfl rfl rfl .here rfl; (iterate 2 refine dM ?_); apply gd_d; exact w_field rfl rfl rfl; apply gd_d; exact w_load_box rfl rfl rfl .here rfl; refine dM ?_; apply gd_d; exact w_index (m := k2) rfl rfl rfl rfl rfl hkb; apply gd_d; exact w_field rfl rfl rfl; apply gd_d; exact w_load_fld rfl rfl rfl (by assumption) (by assumption); apply gd_d; exact w_call rfl rfl hOp rfl; refine dM ?_; apply gd_d; exact det_extract rfl rfl rfl (by conv => (lhs; whnf)); apply gd_d; exact det_extract rfl rfl rfl (by conv => (lhs; whnf)); (iterate 2 refine dM ?_); refine gd_nil ?_; refine gN ?_; refine gM ?_; refine gC ?_; (iterate 2 refine gM ?_); refine gL ?_; refine gC ?_; refine gPq ?_; refine gO ?_)
       focus (refine gc_if_dec rfl (fun _ => ?_) (fun _ => ?_); refine gV ?_; refine gM ?_; refine gO ?_; refine gR ?_; refine gY ?_; (iterate 2 refine gT ?_); refine gY ?_; refine gT ?_; rotate_left; refine gK ?_; refine gH ?_; refine gX ?_; refine gG ?_; refine gM ?_; refine gA ?_; refine gM ?_; refine gw_nil ?_; rotate_left)
       all_goals first | (exfalso; omega) | skip
       exact gx_round (k2 + 1) (by omega) (by omega) kK ⟨rfl, trivial⟩ (Sub.all _)
      ·(refine gI ?_; (iterate 2 refine gZ ?_); refine gJ ?_; refine gX ?_; refine gV ?_; apply gw_d; exact w_call rfl rfl (hFl _) rfl; refine gM ?_; refine gO ?_; refine gR ?_)
       refine gb1 (fun _ _ => ?_)
       rfl
    ·focus (refine gM ?_; refine gO ?_; refine gQ ?_; refine gV ?_; refine gM ?_; refine gL ?_; refine gC ?_; refine gM ?_; refine gD (fun _ => ?_) (fun _ => ?_); (iterate 2 refine gM ?_); refine gL ?_; refine gA ?_; rotate_left; (iterate 8 refine gU ?_); refine gPq ?_; refine gO ?_; refine gc_if_false rfl ?_; refine gK ?_; refine gX ?_; refine gV ?_; rotate_left)
     all_goals first | (exfalso; omega) | skip
     refine gw_bslice0 rfl (fun b0 => ?_)
     refine gw_ent (box_own (n := 0) (c := 0) (sz := 4) (xs := []) ⟨Nat.le_refl _, Nat.zero_le _, rfl⟩ rfl) ?_
     (refine gM ?_)
     refine gw_append (xs := []) (news := S.flatMap encX) rfl rfl rfl .here hfl (fun w' s' hpos => ?_) encX_one (by unfold maxLen; omega) (by omega) (by decide) rfl (fun A1 c1 => ?_)
     ·obtain ⟨g, cs1, hA, hg, _⟩ := own_some s' (.there (.there (.there (.there .here)))) hpos
      exact ⟨adr As, by rw [hA]; rfl, fun j u hu => own_cell s' (.there (.there (.there (.there .here)))) hpos hu⟩
     simp only [Nat.zero_add, List.nil_append]
     (refine gM ?_)
     refine gw_append (xs := S.flatMap encX) (news := S.flatMap encX) rfl rfl rfl .here hfl (fun w' s' hpos => ?_) encX_one (by unfold maxLen; omega) (by omega) (by decide) rfl (fun A2 c2 => ?_)
     ·obtain ⟨g, cs1, hA, hg, _⟩ := own_some s' (.there (.there (.there (.there .here)))) hpos
      exact ⟨adr As, by rw [hA]; rfl, fun j u hu => own_cell s' (.there (.there (.there (.there .here)))) hpos hu⟩
     rw [← List.flatMap_append, show S.length + S.length = (S ++ S).length from List.length_append.symm]
     have h2l : (S ++ S).length = S.length + S.length := List.length_append
     refine gw_ent (Sub.ent (K := [Box bx 33 #[v0, v1, v2, v3, v4, v5, .slice Al l.length cl, .int .i64 cy, .slice Ab bs.length cb, .slice Ad ds.length cd], Box b4 44 #[.string sAll, .slice Aw 8 cw], Own Aw 8 cw 3 1 (eights.map (Value.int .i64)), Own As S.length cs 52 4 (S.flatMap encX), Own A2 (S ++ S).length c2 52 4 ((S ++ S).flatMap encX)]) (by repeat (first | exact Sub.nil | (apply Sub.cons; first | exact .here | exact .there .here | exact .there (.there .here) | exact .there (.there (.there .here)) | exact .there (.there (.there (.there .here))) | exact .there (.there (.there (.there (.there .here)))) | exact .there (.there (.there (.there (.there (.there .here))))) | exact .there (.there (.there (.there (.there (.there (.there .here)))))) | exact .there (.there (.there (.there (.there (.there (.there (.there .here))))))) | exact .there (.there (.there (.there (.there (.there (.there (.there (.there .here)))))))))))) ?_
     (refine gM ?_; refine gN ?_; refine gF ?_; apply gw_d; exact w_load_part rfl rfl rfl .here rfl rfl; refine gF ?_; refine gW .here ?_; (iterate 2 refine gM ?_))
     refine gw_callm rfl (fun w' s' => Judge_ok (fun L2 w2 s2 => hO [] w2 ⟨s'.below.trans (Below.mono s2.below s'.below.size), trivial⟩) (hl.later s') (hb.later s') (hWk _ w' s') (Sl.own (R := rScn) (enc := encX) s' (.there (.there (.there (.there .here)))) rfl fun x hx => ⟨rfl, hRng x (by rcases List.mem_append.1 hx with h | h <;> exact h)⟩) hSm' hj0) rfl (fun xj => ?_)
     rw [hTwice]
     have hol : (List.replicate ts.length (1 : Int) ++ List.replicate ts.length 2).length = (S ++ S).length := by
      rw [List.length_append, List.length_append, List.length_replicate, List.length_replicate, hSl]
     have hget : ∀ k, k < (S ++ S).length → (List.replicate ts.length (1 : Int) ++ List.replicate ts.length 2).getD k 0 = if k < S.length then 1 else 2 := fun k hk => by
      rw [List.getD_eq_getElem?_getD]
      by_cases hks : k < S.length
      ·rw [if_pos hks, List.getElem?_append_left (by rw [List.length_replicate]; omega), List.getElem?_replicate, if_pos (by omega)]
       rfl
      ·rw [if_neg hks, List.getElem?_append_right (by rw [List.length_replicate]; omega), List.getElem?_replicate, if_pos (by rw [List.length_replicate]; omega)]
       rfl
     generalize List.replicate ts.length (1 : Int) ++ List.replicate ts.length 2 = O at hol hget
     focus (refine gM ?_; apply gw_d; exact det_extract rfl rfl rfl (by conv => (lhs; whnf)); apply gw_d; exact det_extract rfl rfl rfl (by conv => (lhs; whnf)); (iterate 2 refine gM ?_); refine gO ?_; refine gQ ?_; refine gV ?_; refine gM ?_; refine gC ?_; (iterate 2 refine gM ?_); refine gL ?_; refine gM ?_; refine gL ?_; refine gC ?_; refine gPq ?_; refine gO ?_; refine gc_if_dec rfl (fun _ => ?_) (fun _ => ?_); refine gV ?_; refine gM ?_; refine gO ?_; refine gR ?_; refine gT ?_; rotate_left; refine gK ?_; refine gX ?_; refine gQ ?_; refine gV ?_; refine gM ?_; refine gO ?_; refine gB ?_; rotate_left)
     all_goals first | (exfalso; omega) | skip
     refine gc_loopK (σ := Nat) [137, 138, 139, 140, 16, 143, 144, 145, 146, 147, 148, 149, 150, 151, 152, 2, 141, 142, 15] (fun k => [(15, .int .i64 k)]) (fun k => k ≤ (S ++ S).length) (fun k => (S ++ S).length - k) 0 (Nat.zero_le _) ⟨rfl, trivial⟩ ?_
     rintro k base2 hk
     (refine gQ ?_; refine gV ?_; (iterate 2 refine gM ?_); refine gL ?_; refine gC ?_; refine gO ?_)
     refine gc_if_dec rfl (fun h3 => ?_) (fun h3 => ?_)
     ·have hkl : k < (S ++ S).length := by omega
      have hrow : (O.map (Value.int .i64)).toArray[k * 1]? = some (.int .i64 (O.getD k 0)) := row_get (Value.int .i64) 0 (by omega)
      rw [hget k hkl] at hrow
      (refine gK ?_; refine gX ?_; refine gQ ?_; refine gB ?_; refine gV ?_; refine gM ?_; refine gO ?_; refine gQ ?_; refine gV ?_; (iterate 2 refine gM ?_); refine gL ?_; refine gC ?_; refine gO ?_)
      refine gc_if_dec rfl (fun h4 => ?_) (fun h4 => ?_)
      ·rw [if_neg (by omega)] at hrow
       (refine gG ?_; refine gM ?_; refine gN ?_; (iterate 2 refine gM ?_); apply gw_d; exact w_index (m := k) rfl rfl rfl rfl rfl hkl; apply gw_d; exact w_load_row rfl rfl rfl .here hrow; refine gM ?_; refine gC ?_; refine gO ?_)
       refine gc_if_dec rfl (fun h => absurd rfl h) (fun _ => ?_)
       (refine gK ?_; refine gH ?_; refine gX ?_; refine gG ?_; refine gM ?_; refine gA ?_; refine gM ?_; refine gw_nil ?_)
       exact gx_round (k + 1) (by omega) (by omega) kK ⟨rfl, trivial⟩ (Sub.all _)
      ·rw [if_pos (by omega)] at hrow
       (refine gK ?_; refine gX ?_; refine gV ?_; (iterate 2 refine gM ?_); apply gw_d; exact w_index (m := k) rfl rfl rfl rfl rfl hkl; apply gw_d; exact w_load_row rfl rfl rfl .here hrow; refine gM ?_; refine gC ?_; refine gO ?_)
       refine gc_if_dec rfl (fun h => absurd rfl h) (fun _ => ?_)
       (refine gK ?_; refine gH ?_; refine gX ?_; refine gG ?_; refine gM ?_; refine gA ?_; refine gM ?_; refine gw_nil ?_)
       exact gx_round (k + 1) (by omega) (by omega) kK ⟨rfl, trivial⟩ (Sub.all _)
     ·(refine gI ?_; (iterate 2 refine gZ ?_); refine gJ ?_; refine gX ?_; refine gQ ?_; refine gV ?_; refine gM ?_; refine gO ?_; refine gB ?_)
      refine gc_ent (Sub.ent (K := [Box bx 33 #[v0, v1, v2, v3, v4, v5, .slice Al l.length cl, .int .i64 cy, .slice Ab bs.length cb, .slice Ad ds.length cd], Box b4 44 #[.string sAll, .slice Aw 8 cw], Own Aw 8 cw 3 1 (eights.map (Value.int .i64)), Own As S.length cs 52 4 (S.flatMap encX)]) (by repeat (first | exact Sub.nil | (apply Sub.cons; first | exact .here | exact .there .here | exact .there (.there .here) | exact .there (.there (.there .here)) | exact .there (.there (.there (.there .here))) | exact .there (.there (.there (.there (.there .here)))) | exact .there (.there (.there (.there (.there (.there .here))))) | exact .there (.there (.there (.there (.there (.there (.there .here)))))) | exact .there (.there (.there (.there (.there (.there (.there (.there .here))))))) | exact .there (.there (.there (.there (.there (.there (.there (.there (.there .here)))))))))))) ?_
      refine gc_loopK (σ := Nat) [153, 154, 155, 156, 157, 161, 162, 163, 164, 165, 166, 167, 168, 169, 170, 171, 172, 173, 160, 174, 175, 18, 19, 176, 177, 178, 179, 180, 181, 182, 2, 158, 159, 17] (fun k => [(17, .int .i64 k)]) (fun k => k ≤ bs.length) (fun k => bs.length - k) 0 (Nat.zero_le _) ⟨rfl, trivial⟩ ?_
      rintro k2 base3 hk2
      (refine gQ ?_; refine gV ?_; refine gM ?_; refine gF ?_; refine gW .here ?_; refine gL ?_; refine gC ?_; refine gO ?_)
      refine gc_if_dec rfl (fun h5 => ?_) (fun h5 => ?_)
      ·have hkb : k2 < bs.length := by omega
       obtain ⟨adb, rfl, hbb, hceb, _⟩ := hbcell k2 hkb
       have hce0 := hceb 0 _ rfl
       have hOp : ∀ (w' : World), St w [Box bx 33 #[v0, v1, v2, v3, v4, v5, .slice Al l.length cl, .int .i64 cy, .slice (some adb) bs.length cb, .slice Ad ds.length cd], Box b4 44 #[.string sAll, .slice Aw 8 cw], Own Aw 8 cw 3 1 (eights.map (Value.int .i64)), Own As S.length cs 52 4 (S.flatMap encX)] w' → Ok Tryz.prog 13 [.agg #[v0, v1, v2, v3, v4, v5, .slice Al l.length cl], .slice (some adb) bs.length cb, .slice (some ⟨b4, 0, none⟩) 1 1, .slice As S.length cs, .int .i64 bs[k2].tick].toArray w' fun r _ => r = .tuple #[.slice none 0 0, .int .i64 0] := fun w' s' =>
        Open_ok w' v0 v1 v2 v3 v4 v5 (.slice Al l.length cl) _ _ _ (opCheckE s plE) l bs wAll S k2 (fun L2 w2 s2 => hO [] w2 ⟨s'.below.trans (Below.mono s2.below s'.below.size), trivial⟩) (hl.later s') (hb.later s') (hWk _ w' s') (Sl.own (R := rScn) (enc := encX) s' (.there (.there (.there .here))) rfl fun x hx => ⟨rfl, hRng x hx⟩) hSm' hsc (by omega) hkb (hPaid k2 hkb)
       (refine gK ?_; refine gX ?_; refine gQ ?_; refine gB ?_; refine gQ ?_)
       refine gc_draw 18 (by kernel_rfl) (by kernel_rfl) ?_
       (apply gd_d; exact w_field rfl rfl rfl; apply gd_d; exact w_load_part rfl rfl rfl .here rfl rfl; apply gd_d; exact w_field rfl rfl rfl; apply gd_d; exact w_load_box rfl rfl rfl .here rfl; (iterate 2 refine dM ?_); apply gd_d; exact w_field rfl rfl rfl; apply gd_d; exact w_load_box rfl rfl rfl .here rfl; refine dM ?_; apply gd_d; exact w_index (m := k2) rfl rfl rfl rfl rfl hkb; apply gd_d; exact w_field rfl rfl rfl; apply gd_d; exact w_load_fld rfl rfl rfl (by assumption) (by assumption); apply gd_d; exact w_call rfl rfl hOp rfl; refine dM ?_; apply gd_d; exact det_extract rfl rfl rfl (by conv => (lhs; whnf)); apply gd_d; exact det_extract rfl rfl rfl (by conv => (lhs; whnf)); (iterate 2 refine dM ?_); refine gd_nil ?_; refine gN ?_; refine gM ?_; refine gC ?_; (iterate 2 refine gM ?_); refine gL ?_; refine gC ?_; refine gPq ?_; refine gO ?_)
       focus (refine gc_if_dec rfl (fun _ => ?_) (fun _ => ?_); refine gV ?_; refine gM ?_; refine gO ?_; refine gR ?_; refine gY ?_; (iterate 2 refine gT ?_); refine gY ?_; refine gT ?_; rotate_left; refine gK ?_; refine gH ?_; refine gX ?_; refine gG ?_; refine gM ?_; refine gA ?_; refine gM ?_; refine gw_nil ?_; rotate_left)
       all_goals first | (exfalso; omega) | skip
       exact gx_round (k2 + 1) (by omega) (by omega) kK ⟨rfl, trivial⟩ (Sub.all _)
      ·(refine gI ?_; (iterate 2 refine gZ ?_); refine gJ ?_; refine gX ?_; refine gV ?_; apply gw_d; exact w_call rfl rfl (hFl _) rfl; refine gM ?_; refine gO ?_; refine gR ?_)
       refine gb1 (fun _ _ => ?_)
       rfl
   ·focus (refine gM ?_; refine gO ?_; refine gQ ?_; refine gV ?_; refine gM ?_; refine gC ?_; refine gM ?_; refine gD (fun _ => ?_) (fun _ => ?_); (iterate 7 refine gU ?_); refine gPp ?_; refine gM ?_; (iterate 3 refine gU ?_); refine gPp ?_; refine gO ?_; refine gc_if_true rfl ?_; refine gV ?_; apply gw_d; exact w_call rfl rfl (hFl _) rfl; refine gM ?_; refine gO ?_; refine gR ?_; refine gT ?_; rotate_left; refine gF ?_; apply gw_d; exact w_load_part rfl rfl rfl .here rfl rfl; refine gF ?_; refine gW .here ?_; refine gM ?_; apply gw_d; exact w_call rfl rfl (hCk _) rfl; refine gC ?_; refine gPq ?_; refine gM ?_; refine gD (fun _ => ?_) (fun _ => ?_); (iterate 3 refine gU ?_); refine gPp ?_; refine gO ?_; refine gc_if_true rfl ?_; refine gV ?_; apply gw_d; exact w_call rfl rfl (hFl _) rfl; refine gM ?_; refine gO ?_; refine gR ?_; refine gT ?_; rotate_left; refine gM ?_; apply gw_d; exact w_call rfl rfl (hSk _) rfl; refine gC ?_; refine gPq ?_; refine gO ?_; refine gc_if_dec rfl (fun _ => ?_) (fun _ => ?_); refine gV ?_; apply gw_d; exact w_call rfl rfl (hFl _) rfl; refine gM ?_; refine gO ?_; refine gR ?_; refine gT ?_; rotate_left; refine gK ?_; refine gX ?_; refine gQ ?_; refine gV ?_; refine gM ?_; refine gL ?_; refine gM ?_; refine gL ?_; refine gF ?_; refine gW .here ?_; refine gL ?_; refine gA ?_; refine gC ?_; refine gM ?_; refine gD (fun _ => ?_) (fun _ => ?_); (iterate 9 refine gU ?_); refine gPp ?_; refine gO ?_; refine gc_if_true rfl ?_; refine gV ?_; refine gM ?_; refine gO ?_; refine gR ?_; refine gT ?_; rotate_left; (iterate 2 refine gM ?_); refine gF ?_; refine gW .here ?_; refine gF ?_; refine gW .here ?_; refine gM ?_; rotate_left)
    all_goals first | (exfalso; omega) | skip
    all_goals refine gb1 (fun _ _ => ?_)
    all_goals rfl
  ·focus (refine gM ?_; refine gO ?_; refine gQ ?_; refine gV ?_; refine gM ?_; refine gC ?_; refine gM ?_; refine gD (fun _ => ?_) (fun _ => ?_); (iterate 7 refine gU ?_); refine gPp ?_; refine gM ?_; (iterate 3 refine gU ?_); refine gPp ?_; refine gO ?_; refine gc_if_true rfl ?_; refine gV ?_; apply gw_d; exact w_call rfl rfl (hFl _) rfl; refine gM ?_; refine gO ?_; refine gR ?_; refine gT ?_; rotate_left; refine gF ?_; apply gw_d; exact w_load_part rfl rfl rfl .here rfl rfl; refine gF ?_; refine gW .here ?_; refine gM ?_; apply gw_d; exact w_call rfl rfl (hCk _) rfl; refine gC ?_; refine gPq ?_; refine gM ?_; refine gD (fun _ => ?_) (fun _ => ?_); (iterate 3 refine gU ?_); refine gPp ?_; refine gO ?_; refine gc_if_true rfl ?_; refine gV ?_; apply gw_d; exact w_call rfl rfl (hFl _) rfl; refine gM ?_; refine gO ?_; refine gR ?_; refine gT ?_; rotate_left; refine gM ?_; apply gw_d; exact w_call rfl rfl (hSk _) rfl; refine gC ?_; refine gPq ?_; refine gO ?_; refine gc_if_dec rfl (fun _ => ?_) (fun _ => ?_); refine gV ?_; apply gw_d; exact w_call rfl rfl (hFl _) rfl; refine gM ?_; refine gO ?_; refine gR ?_; refine gT ?_; rotate_left; refine gK ?_; refine gX ?_; refine gQ ?_; refine gV ?_; refine gM ?_; refine gL ?_; refine gM ?_; refine gL ?_; refine gF ?_; refine gW .here ?_; refine gL ?_; refine gA ?_; refine gC ?_; refine gM ?_; refine gD (fun _ => ?_) (fun _ => ?_); (iterate 9 refine gU ?_); refine gPp ?_; refine gO ?_; refine gc_if_true rfl ?_; refine gV ?_; refine gM ?_; refine gO ?_; refine gR ?_; refine gT ?_; rotate_left; (iterate 2 refine gM ?_); refine gF ?_; refine gW .here ?_; refine gF ?_; refine gW .here ?_; refine gM ?_; rotate_left)
   all_goals first | (exfalso; omega) | skip
   all_goals refine gb1 (fun _ _ => ?_)
   all_goals rfl
 ·(refine gK ?_; refine gX ?_; refine gV ?_; (iterate 2 refine gF ?_); refine gW .here ?_; refine gM ?_; refine gN ?_; refine gM ?_; refine gF ?_; refine gW .here ?_; apply gw_d; exact w_call rfl rfl (fun w' s' => Balance_bad w' (.slice Al l.length cl) l cy (hl.later s') hbd) rfl; refine gM ?_; apply gw_d; exact det_extract rfl rfl rfl (by conv => (lhs; whnf)); apply gw_d; exact det_extract rfl rfl rfl (by conv => (lhs; whnf)); (iterate 2 refine gM ?_); refine gO ?_; refine gQ ?_; refine gV ?_; refine gM ?_; refine gC ?_; refine gO ?_)
  refine gc_if_dec rfl (fun _ => ?_) (fun h => absurd hbd (by simpa using h))
  (refine gV ?_; apply gw_d; exact w_call rfl rfl (hFl _) rfl; refine gM ?_; refine gO ?_; refine gR ?_; refine gT ?_)
  refine gb1 (fun _ _ => ?_)
  rfl
open Go.ChangeShapes Go.WideShapes Go.ChangeAt Go.RowKit
section
variable {H : Type} {enc : TypeId × Value → H} {w : World} {base : Nat} {spare : Nat → Bool} {held : Bool}
theorem ints23 {n : Nat} {c : Value} {x : DataW H × List MemPlace} (h : DataW.trod enc Tryz.prog w base spare held n 23 [c] = some x) : ∃ l, Sl rInt w w.heap.size c l :=
 ints_trod (e := 3) (by kernel_rfl) (by kernel_rfl) (by kernel_rfl) h
theorem op_trod {n : Nat} {cs : List Value} {x : DataW H × List MemPlace} (hl : cs.length = 5) (h : DataW.trod enc Tryz.prog w base spare held n 59 cs = some x) : ∃ o, rOp.rep w (fun b => b < w.heap.size) o cs := by
 match cs, hl with
 | [c0, c1, c2, c3, c4], _ =>
  obtain ⟨_, _, h0⟩ := field_trod (i := 0) (ft := 9) h (by kernel_rfl) rfl
  obtain ⟨_, _, h1⟩ := field_trod (i := 1) (ft := 3) h (by kernel_rfl) rfl
  obtain ⟨_, _, h2⟩ := field_trod (i := 2) (ft := 3) h (by kernel_rfl) rfl
  obtain ⟨_, _, h3⟩ := field_trod (i := 3) (ft := 23) h (by kernel_rfl) rfl
  obtain ⟨_, _, h4⟩ := field_trod (i := 4) (ft := 23) h (by kernel_rfl) rfl
  obtain ⟨s, rfl, hs⟩ := str_trod (by kernel_rfl) h0
  obtain ⟨i1, rfl, hi1⟩ := int_trod (by kernel_rfl) h1
  obtain ⟨i2, rfl, hi2⟩ := int_trod (by kernel_rfl) h2
  obtain ⟨la, ha⟩ := ints23 h3
  obtain ⟨lu, hu⟩ := ints23 h4
  obtain ⟨Aa, ca, rfl, _⟩ := len_small ha
  obtain ⟨Au, cu, rfl, _⟩ := len_small hu
  exact ⟨⟨s, i1, i2, la, lu⟩, Aa, ca, Au, cu, rfl, ⟨hs, hi1, hi2⟩, ha, hu⟩
theorem ops_trod {n : Nat} {c : Value} {x : DataW H × List MemPlace} (h : DataW.trod enc Tryz.prog w base spare held n 27 [c] = some x) : ∃ l, Sl rOp w w.heap.size c l :=
 sl_of_trod (R := rOp) (e := 59) (by kernel_rfl) (by kernel_rfl) (by decide) (fun _ _ _ hl hy => op_trod hl hy) h
end
open Go.ChangeShapes Go.WideShapes Go.ChangeAt Go.RowKit
section
variable {H : Type} {enc : TypeId × Value → H} {P : Program} {w : World} {base : Nat} {spare : Nat → Bool} {held : Bool}
/-- The type of a field of k cells, at its place. -/
def fieldK (P : Program) (e : TypeId) (i o k : Nat) : Option TypeId := match P.underlying e with
 | some (.struct fs) => match fs[i]? with
  | some f => bif Nat.beq f.offset o && Nat.beq (P.cellsOf f.type) k then some f.type else none
  | none => none
 | _ => none
theorem fieldK_trod {e ft : TypeId} {i o k n : Nat} {cs ds : List Value} {x : DataW H × List MemPlace} (h : DataW.trod enc P w base spare held n e cs = some x) (hf : fieldK P e i o k = some ft) (hc : (cs.drop o).take k = ds) :
  ∃ m y, DataW.trod enc P w base spare held m ft ds = some y := by
 unfold fieldK at hf
 split at hf
 ·rename_i fs hu
  split at hf
  ·rename_i f hfi
   cases hb : (Nat.beq f.offset o && Nat.beq (P.cellsOf f.type) k) with
   | false => rw [hb] at hf; cases hf
   | true =>
    rw [hb] at hf
    simp only [cond_true, Option.some.injEq] at hf
    subst hf
    rw [Bool.and_eq_true] at hb
    have h1 : f.offset = o := Nat.eq_of_beq_eq_true hb.1
    have h2 : P.cellsOf f.type = k := Nat.eq_of_beq_eq_true hb.2
    obtain ⟨xs, m, _, _, _, hlen, hg⟩ := DataW.trod_struct hu h
    have h3 := hg i f hfi
    have hi : i < fs.size := (Array.getElem?_eq_some_iff.1 hfi).1
    rw [h1, h2, List.getElem?_eq_getElem (by omega), hc] at h3
    exact ⟨m, _, h3⟩
  ·cases hf
 ·cases hf
end
section
variable {H : Type} {enc : TypeId × Value → H} {w : World} {base : Nat} {spare : Nat → Bool} {held : Bool}
theorem strs_trod {n : Nat} {c : Value} {x : DataW H × List MemPlace} (h : DataW.trod enc Tryz.prog w base spare held n 22 [c] = some x) : ∃ l, Sl rStr w w.heap.size c l :=
 sl_of_trod (R := rStr) (e := 9) (by kernel_rfl) (by kernel_rfl) (by decide) (fun _ cs _ hl hy => by
  match cs, hl with
  | [c0], _ =>
   obtain ⟨s, rfl, hs⟩ := str_trod (by kernel_rfl) hy
   exact ⟨s, rfl, hs⟩) h
theorem spots_trod {n : Nat} {c : Value} {x : DataW H × List MemPlace} (h : DataW.trod enc Tryz.prog w base spare held n 62 [c] = some x) : ∃ l, Sl rSpot w w.heap.size c l :=
 sl_of_trod (R := rSpot) (e := 114) (by kernel_rfl) (by kernel_rfl) (by decide) (fun _ cs _ hl hy => by
  match cs, hl with
  | [c0, c1], _ =>
   obtain ⟨_, _, h0⟩ := field_trod (i := 0) (ft := 3) hy (by kernel_rfl) rfl
   obtain ⟨_, _, h1⟩ := field_trod (i := 1) (ft := 3) hy (by kernel_rfl) rfl
   obtain ⟨i0, rfl, hi0⟩ := int_trod (by kernel_rfl) h0
   obtain ⟨i1, rfl, hi1⟩ := int_trod (by kernel_rfl) h1
   exact ⟨(i0, i1), rfl, hi0, hi1⟩) h
theorem notches_trod {n : Nat} {c : Value} {x : DataW H × List MemPlace} (h : DataW.trod enc Tryz.prog w base spare held n 61 [c] = some x) : ∃ l, Sl rSpot w w.heap.size c l :=
 sl_of_trod (R := rSpot) (e := 220) (by kernel_rfl) (by kernel_rfl) (by decide) (fun _ cs _ hl hy => by
  match cs, hl with
  | [c0, c1], _ =>
   obtain ⟨_, _, h0⟩ := field_trod (i := 0) (ft := 3) hy (by kernel_rfl) rfl
   obtain ⟨_, _, h1⟩ := field_trod (i := 1) (ft := 3) hy (by kernel_rfl) rfl
   obtain ⟨i0, rfl, hi0⟩ := int_trod (by kernel_rfl) h0
   obtain ⟨i1, rfl, hi1⟩ := int_trod (by kernel_rfl) h1
   exact ⟨(i0, i1), rfl, hi0, hi1⟩) h
theorem edges_trod {n : Nat} {c : Value} {x : DataW H × List MemPlace} (h : DataW.trod enc Tryz.prog w base spare held n 60 [c] = some x) : ∃ l, Sl rEdge w w.heap.size c l :=
 sl_of_trod (R := rEdge) (e := 116) (by kernel_rfl) (by kernel_rfl) (by decide) (fun _ cs _ hl hy => by
  match cs, hl with
  | [c0, c1], _ =>
   obtain ⟨_, _, h0⟩ := field_trod (i := 0) (ft := 9) hy (by kernel_rfl) rfl
   obtain ⟨_, _, h1⟩ := field_trod (i := 1) (ft := 62) hy (by kernel_rfl) rfl
   obtain ⟨s, rfl, hs⟩ := str_trod (by kernel_rfl) h0
   obtain ⟨l, hl⟩ := spots_trod h1
   exact ⟨(s, l), c1, rfl, hs, hl⟩) h
theorem piece_trod {n : Nat} {cs : List Value} {x : DataW H × List MemPlace} (hl : cs.length = 7) (h : DataW.trod enc Tryz.prog w base spare held n 64 cs = some x) : ∃ o, rPiece.rep w (fun b => b < w.heap.size) o cs := by
 match cs, hl with
 | [c0, c1, c2, c3, c4, c5, c6], _ =>
  obtain ⟨_, _, h0⟩ := field_trod (i := 0) (ft := 9) h (by kernel_rfl) rfl
  obtain ⟨_, _, h1⟩ := field_trod (i := 1) (ft := 60) h (by kernel_rfl) rfl
  obtain ⟨_, _, h2⟩ := field_trod (i := 2) (ft := 3) h (by kernel_rfl) rfl
  obtain ⟨_, _, h3⟩ := field_trod (i := 3) (ft := 61) h (by kernel_rfl) rfl
  obtain ⟨_, _, h4⟩ := field_trod (i := 4) (ft := 62) h (by kernel_rfl) rfl
  obtain ⟨_, _, h5⟩ := field_trod (i := 5) (ft := 23) h (by kernel_rfl) rfl
  obtain ⟨_, _, h6⟩ := field_trod (i := 6) (ft := 4) h (by kernel_rfl) rfl
  obtain ⟨s, rfl, hs⟩ := str_trod (by kernel_rfl) h0
  obtain ⟨le, he⟩ := edges_trod h1
  obtain ⟨i2, rfl, hi2⟩ := int_trod (by kernel_rfl) h2
  obtain ⟨ln, hn⟩ := notches_trod h3
  obtain ⟨lc, hc⟩ := spots_trod h4
  obtain ⟨lw, hw⟩ := ints23 h5
  obtain ⟨b6, rfl⟩ := bool_trod (by kernel_rfl) h6
  obtain ⟨Ae, ce, rfl, _⟩ := len_small he
  obtain ⟨An, cn, rfl, _⟩ := len_small hn
  obtain ⟨Ac, cc, rfl, _⟩ := len_small hc
  obtain ⟨Aw, cw, rfl, _⟩ := len_small hw
  exact ⟨⟨s, le, i2, ln, lc, lw, b6⟩, Ae, ce, An, cn, Ac, cc, Aw, cw, rfl, ⟨hs, hi2⟩, he, hn, hc, hw⟩
theorem use_trod {n : Nat} {cs : List Value} {x : DataW H × List MemPlace} (hl : cs.length = 3) (h : DataW.trod enc Tryz.prog w base spare held n 118 cs = some x) : ∃ o, rUse.rep w (fun b => b < w.heap.size) o cs := by
 match cs, hl with
 | [c0, c1, c2], _ =>
  obtain ⟨_, _, h0⟩ := field_trod (i := 0) (ft := 3) h (by kernel_rfl) rfl
  obtain ⟨_, _, h1⟩ := field_trod (i := 1) (ft := 3) h (by kernel_rfl) rfl
  obtain ⟨_, _, h2⟩ := field_trod (i := 2) (ft := 4) h (by kernel_rfl) rfl
  obtain ⟨i0, rfl, hi0⟩ := int_trod (by kernel_rfl) h0
  obtain ⟨i1, rfl, hi1⟩ := int_trod (by kernel_rfl) h1
  obtain ⟨b2, rfl⟩ := bool_trod (by kernel_rfl) h2
  exact ⟨(i0, i1, b2), rfl, hi0, hi1⟩
theorem seam_trod {n : Nat} {cs : List Value} {x : DataW H × List MemPlace} (hl : cs.length = 6) (h : DataW.trod enc Tryz.prog w base spare held n 150 cs = some x) : ∃ o, rSeam.rep w (fun b => b < w.heap.size) o cs := by
 match cs, hl with
 | [c0, c1, c2, c3, c4, c5], _ =>
  obtain ⟨_, _, h0⟩ := field_trod (i := 0) (ft := 3) h (by kernel_rfl) rfl
  obtain ⟨_, _, h1⟩ := field_trod (i := 1) (ft := 3) h (by kernel_rfl) rfl
  obtain ⟨_, _, h2⟩ := field_trod (i := 2) (ft := 3) h (by kernel_rfl) rfl
  obtain ⟨_, _, h3⟩ := field_trod (i := 3) (ft := 3) h (by kernel_rfl) rfl
  obtain ⟨_, _, h4⟩ := field_trod (i := 4) (ft := 4) h (by kernel_rfl) rfl
  obtain ⟨_, _, h5⟩ := field_trod (i := 5) (ft := 3) h (by kernel_rfl) rfl
  obtain ⟨i0, rfl, hi0⟩ := int_trod (by kernel_rfl) h0
  obtain ⟨i1, rfl, hi1⟩ := int_trod (by kernel_rfl) h1
  obtain ⟨i2, rfl, hi2⟩ := int_trod (by kernel_rfl) h2
  obtain ⟨i3, rfl, hi3⟩ := int_trod (by kernel_rfl) h3
  obtain ⟨b4, rfl⟩ := bool_trod (by kernel_rfl) h4
  obtain ⟨i5, rfl, hi5⟩ := int_trod (by kernel_rfl) h5
  exact ⟨(i0, i1, i2, i3, b4, i5), rfl⟩
theorem sty_trod {n : Nat} {cs : List Value} {x : DataW H × List MemPlace} (hl : cs.length = 7) (h : DataW.trod enc Tryz.prog w base spare held n 29 cs = some x) : ∃ s, StyV w w.heap.size (.agg cs.toArray) s := by
 match cs, hl with
 | [c0, c1, c2, c3, c4, c5, c6], _ =>
  obtain ⟨_, _, h0⟩ := field_trod (i := 0) (ft := 9) h (by kernel_rfl) rfl
  obtain ⟨_, _, h1⟩ := field_trod (i := 1) (ft := 22) h (by kernel_rfl) rfl
  obtain ⟨_, _, h2⟩ := field_trod (i := 2) (ft := 23) h (by kernel_rfl) rfl
  obtain ⟨_, _, h3⟩ := field_trod (i := 3) (ft := 24) h (by kernel_rfl) rfl
  obtain ⟨_, _, h4⟩ := field_trod (i := 4) (ft := 25) h (by kernel_rfl) rfl
  obtain ⟨_, _, h5⟩ := field_trod (i := 5) (ft := 26) h (by kernel_rfl) rfl
  obtain ⟨_, _, h6⟩ := field_trod (i := 6) (ft := 27) h (by kernel_rfl) rfl
  obtain ⟨s, rfl, hs⟩ := str_trod (by kernel_rfl) h0
  obtain ⟨l1, k1⟩ := strs_trod h1
  obtain ⟨l2, k2⟩ := ints23 h2
  obtain ⟨l3, k3⟩ := sl_of_trod (R := rPiece) (e := 64) (by kernel_rfl) (by kernel_rfl) (by decide) (fun _ _ _ hl hy => piece_trod hl hy) h3
  obtain ⟨l4, k4⟩ := sl_of_trod (R := rUse) (e := 118) (by kernel_rfl) (by kernel_rfl) (by decide) (fun _ _ _ hl hy => use_trod hl hy) h4
  obtain ⟨l5, k5⟩ := sl_of_trod (R := rSeam) (e := 150) (by kernel_rfl) (by kernel_rfl) (by decide) (fun _ _ _ hl hy => seam_trod hl hy) h5
  obtain ⟨l6, k6⟩ := ops_trod h6
  obtain ⟨A1, d1, rfl, _⟩ := len_small k1
  obtain ⟨A2, d2, rfl, _⟩ := len_small k2
  obtain ⟨A3, d3, rfl, _⟩ := len_small k3
  obtain ⟨A4, d4, rfl, _⟩ := len_small k4
  obtain ⟨A5, d5, rfl, _⟩ := len_small k5
  obtain ⟨A6, d6, rfl, _⟩ := len_small k6
  exact ⟨⟨s, l1, l2, l3, l4, l5, l6⟩, A1, d1, A2, d2, A3, d3, A4, d4, A5, d5, A6, d6, rfl, hs, k1, k2, k3, k4, k5, k6⟩
end
open Go.ChangeShapes Go.WideShapes Go.ChangeAt Go.RowKit
section
variable {H : Type} {enc : TypeId × Value → H} {w : World} {base : Nat} {spare : Nat → Bool} {held : Bool}
theorem bun_trod {n : Nat} {cs : List Value} {x : DataW H × List MemPlace} (hl : cs.length = 6) (h : DataW.trod enc Tryz.prog w base spare held n 57 cs = some x) : ∃ o, rBun.rep w (fun b => b < w.heap.size) o cs := by
 match cs, hl with
 | [c0, c1, c2, c3, c4, c5], _ =>
  obtain ⟨_, _, h0⟩ := field_trod (i := 0) (ft := 3) h (by kernel_rfl) rfl
  obtain ⟨_, _, h1⟩ := field_trod (i := 1) (ft := 3) h (by kernel_rfl) rfl
  obtain ⟨_, _, h2⟩ := field_trod (i := 2) (ft := 3) h (by kernel_rfl) rfl
  obtain ⟨_, _, h3⟩ := field_trod (i := 3) (ft := 3) h (by kernel_rfl) rfl
  obtain ⟨_, _, h4⟩ := field_trod (i := 4) (ft := 3) h (by kernel_rfl) rfl
  obtain ⟨_, _, h5⟩ := field_trod (i := 5) (ft := 3) h (by kernel_rfl) rfl
  obtain ⟨i0, rfl, hi0⟩ := int_trod (by kernel_rfl) h0
  obtain ⟨i1, rfl, hi1⟩ := int_trod (by kernel_rfl) h1
  obtain ⟨i2, rfl, hi2⟩ := int_trod (by kernel_rfl) h2
  obtain ⟨i3, rfl, hi3⟩ := int_trod (by kernel_rfl) h3
  obtain ⟨i4, rfl, hi4⟩ := int_trod (by kernel_rfl) h4
  obtain ⟨i5, rfl, hi5⟩ := int_trod (by kernel_rfl) h5
  exact ⟨⟨i0, i1, i2, i3, i4, i5⟩, rfl, hi0, hi4, hi5⟩
theorem dwn_trod {n : Nat} {cs : List Value} {x : DataW H × List MemPlace} (hl : cs.length = 3) (h : DataW.trod enc Tryz.prog w base spare held n 69 cs = some x) : ∃ o, rDwn.rep w (fun b => b < w.heap.size) o cs := by
 match cs, hl with
 | [c0, c1, c2], _ =>
  obtain ⟨_, _, h0⟩ := field_trod (i := 0) (ft := 3) h (by kernel_rfl) rfl
  obtain ⟨_, _, h1⟩ := field_trod (i := 1) (ft := 3) h (by kernel_rfl) rfl
  obtain ⟨_, _, h2⟩ := field_trod (i := 2) (ft := 3) h (by kernel_rfl) rfl
  obtain ⟨i0, rfl, hi0⟩ := int_trod (by kernel_rfl) h0
  obtain ⟨i1, rfl, hi1⟩ := int_trod (by kernel_rfl) h1
  obtain ⟨i2, rfl, hi2⟩ := int_trod (by kernel_rfl) h2
  exact ⟨⟨i0, i1, i2⟩, rfl, hi0, hi1, hi2⟩
def FShopV (w : World) (v : Value) : Prop := ∃ (v0 v1 v2 v3 v4 v5 v6 vb vd : Value) (cy : Int) (s : Sty) (bs : List Bun) (ds : List Dwn), v = .agg #[v0, v1, v2, v3, v4, v5, v6, .int .i64 cy, vb, vd] ∧ StyV w w.heap.size (.agg #[v0, v1, v2, v3, v4, v5, v6]) s ∧ Sl rBun w w.heap.size vb bs ∧ Sl rDwn w w.heap.size vd ds
theorem fshop_trod {n : Nat} {cs : List Value} {x : DataW H × List MemPlace} (hl : cs.length = 10) (h : DataW.trod enc Tryz.prog w base spare held n 33 cs = some x) : FShopV w (.agg cs.toArray) := by
 match cs, hl with
 | [c0, c1, c2, c3, c4, c5, c6, c7, c8, c9], _ =>
  obtain ⟨_, _, h0⟩ := fieldK_trod (i := 0) (o := 0) (k := 7) (ft := 29) h (by kernel_rfl) rfl
  obtain ⟨_, _, h1⟩ := fieldK_trod (i := 1) (o := 7) (k := 1) (ft := 3) h (by kernel_rfl) rfl
  obtain ⟨_, _, h2⟩ := fieldK_trod (i := 2) (o := 8) (k := 1) (ft := 30) h (by kernel_rfl) rfl
  obtain ⟨_, _, h3⟩ := fieldK_trod (i := 3) (o := 9) (k := 1) (ft := 31) h (by kernel_rfl) rfl
  obtain ⟨s, hs⟩ := sty_trod rfl h0
  obtain ⟨i1, rfl, hi1⟩ := int_trod (by kernel_rfl) h1
  obtain ⟨l2, k2⟩ := sl_of_trod (R := rBun) (e := 57) (by kernel_rfl) (by kernel_rfl) (by decide) (fun _ _ _ hl hy => bun_trod hl hy) h2
  obtain ⟨l3, k3⟩ := sl_of_trod (R := rDwn) (e := 69) (by kernel_rfl) (by kernel_rfl) (by decide) (fun _ _ _ hl hy => dwn_trod hl hy) h3
  exact ⟨c0, c1, c2, c3, c4, c5, c6, c8, c9, i1, s, l2, l3, rfl, hs, k2, k3⟩
theorem fshop_Trod {v : Value} {d : DataW H} {p : List MemPlace} {cs : Array Value} (hv : v = .agg cs) (hn : cs.size = 10) (h : DataW.Trod enc Tryz.prog w base spare held 33 v d p) : FShopV w v := by
 subst hv
 obtain ⟨fuel, hf⟩ := h
 exact fshop_trod (cs := cs.toList) (by simpa using hn) hf
end
end Go.Proofs.YtafbfldjcikmcaaGreat
