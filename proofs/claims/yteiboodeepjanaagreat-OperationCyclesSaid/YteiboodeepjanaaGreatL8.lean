/- The law OperationCycles: the walk. -/
import Derived.Test.YteiboodeepjanaaGreatQ3
import Derived.Test.YteiboodeepjanaaGreatC29
import Derived.Test.YteiboodeepjanaaGreatL6
namespace Go.Proofs.YteiboodeepjanaaGreat
open Go.RowKit
set_option maxRecDepth 100000
set_option maxHeartbeats 4000000

theorem raw_one {w : World} {B : Nat} {l : List Opn} {raw : List Value} (hlen : raw.length = l.length * rOp.size) (h : ∀ k (hk : k < l.length), rOp.rep w (fun b => b < B) l[k] ((raw.drop (k * rOp.size)).take rOp.size)) : ∀ u ∈ raw, u.oneCell' = true := fun u hu => by
  change raw.length = l.length * 5 at hlen
  obtain ⟨j, hj, rfl⟩ := List.getElem_of_mem hu
  obtain ⟨Aa, ca, Au, cu, h0, _⟩ := h (j / 5) (by omega)
  change (raw.drop (j / 5 * 5)).take 5 = _ at h0
  have h1 : raw[j] ∈ (raw.drop (j / 5 * 5)).take 5 := by
    rw [List.mem_iff_getElem]
    refine ⟨j % 5, by rw [List.length_take, List.length_drop]; omega, ?_⟩
    rw [List.getElem_take, List.getElem_drop]
    congr 1
    omega
  rw [h0] at h1
  simp only [List.mem_cons, List.not_mem_nil, or_false] at h1
  rcases h1 with h1 | h1 | h1 | h1 | h1 <;> rw [h1] <;> rfl

theorem few_after {l : List Opn} (h : (!fewB l) = false) {a : Nat} (ha : a < l.length) (h16 : l.length ≤ 16) : l[a].after.length ≤ 30 := by
  have h1 : fewB l = true := by simpa using h
  unfold fewB at h1
  rw [List.take_of_length_le (by omega), Bool.and_eq_true, List.all_eq_true] at h1
  have h2 := h1.1 l[a] (List.getElem_mem ha)
  unfold fewOp at h2
  simp only [Bool.and_eq_true, decide_eq_true_eq] at h2
  omega

section
variable {P : Program} {ops : Array Oper} {Q : Exit → Act → World → Prop} {N : Nat} {w0 : World} {L L' : List Res} {rest : List Oper} {e : Env}
theorem gw_ownbox {A : Option Addr} {n c : Nat} {el : TypeId} {sz : Nat} {xs : List Value} (hn : 0 < n) (hp : Pick L (Own A n c el sz xs) L') (k : ∀ g cs, A = some ⟨g, 0, none⟩ → (n ≤ c ∧ c ≤ maxLen ∧ cs.size = c * sz) → cs.toList.take (n * sz) = xs → GW P ops Q N w0 (Box g el cs :: L') rest e) : GW P ops Q N w0 L rest e := ⟨fun w s => by
  have s1 := s.pick hp
  have hown : w.ownsRow 0 el sz (.slice A n c) n xs := s1.head
  rcases hown.2 with ⟨_, h0⟩ | ⟨g, cap, cur, hv, _, hg, h1, h2, h3, h4⟩
  · omega
  · injection hv with e1 e2 e3
    subst e1 e3
    exact (k g cur rfl ⟨h1, h2, h3⟩ h4).h w (s1.turn (r' := Box g el cur) (Nat.le_refl _) rfl rfl rfl (fun _ _ _ => rfl) hg fun x hx => .inl (by show some g = some x; rw [show x = g from hx]))⟩
end
theorem chunk_set {cs raw : List Value} {n : Nat} (hlen : n * 5 ≤ cs.length) (htk : cs.take (n * 5) = raw) {a k : Nat} (hk : k < n) (v : Value) :
    ((cs.set (a * 5 + 3) v).drop (k * 5)).take 5 = if k = a then ((raw.drop (k * 5)).take 5).set 3 v else (raw.drop (k * 5)).take 5 := by
  subst htk
  have e : ∀ j, (((cs.take (n * 5)).drop (k * 5)).take 5)[j]? = if j < 5 then cs[k * 5 + j]? else none := fun j => by
    rw [List.getElem?_take]
    split
    · rw [List.getElem?_drop, List.getElem?_take, if_pos (by omega)]
    · rfl
  have hl5 : (((cs.take (n * 5)).drop (k * 5)).take 5).length = 5 := by
    rw [List.length_take, List.length_drop, List.length_take]; omega
  apply List.ext_getElem?
  intro j
  rw [List.getElem?_take]
  by_cases hj : j < 5
  · rw [if_pos hj, List.getElem?_drop, List.getElem?_set]
    split
    · rename_i h
      rw [if_pos (by omega), if_pos (by omega), List.getElem?_set, if_pos (by omega), if_pos (by omega)]
    · rename_i h
      split
      · rw [List.getElem?_set, if_neg (by omega), e, if_pos hj]
      · rw [e, if_pos hj]
  · rw [if_neg hj]
    split
    · rw [List.getElem?_eq_none (by rw [List.length_set]; omega)]
    · rw [List.getElem?_eq_none (by omega)]
theorem adds_sl {w w' : World} {L L1 L2 : List Res} {l : List Opn} {raw : List Value} {ocs : Array Value} {g n3 c1 c3 a : Nat} {A3 : Option Addr} {el t : TypeId} {b : Int} (s : St w L w') (ha : a < l.length) (hb : inI64 b) (hn3 : n3 = (l[a].after ++ [b]).length)
    (hpB : Pick L (Box g el (ocs.toList.set (a * 5 + 3) (.slice A3 n3 c3)).toArray) L1) (hpO : Pick L (Own A3 n3 c3 t 1 ((l[a].after ++ [b]).map (Value.int .i64))) L2)
    (hosz : l.length ≤ c1 ∧ c1 ≤ maxLen ∧ ocs.size = c1 * 5) (htk : ocs.toList.take (l.length * 5) = raw)
    (hreps : ∀ k (hk : k < l.length), rOp.rep w (fun b => b < w.heap.size) l[k] ((raw.drop (k * 5)).take 5)) (hin : ∀ x ∈ l[a].after, inI64 x) : Sl rOp w' w'.heap.size (.slice (some ⟨g, 0, none⟩) l.length c1) (adds l a b) := by
  have hbox := (s.pick hpB).head
  have hol : l.length * 5 ≤ ocs.toList.length := by have h1 := hosz.2.2; have h2 := hosz.1; rw [← Array.length_toList] at h1; omega
  have hown : Sl rInt w' w'.heap.size (.slice A3 n3 c3) (l[a].after ++ [b]) := Sl.ownI s hpO hn3 (fun x hx => by
    rcases List.mem_append.1 hx with h | h
    · exact hin x h
    · rw [List.mem_singleton] at h; subst h; exact hb)
  have hmono : ∀ {x : Opn} {cs : List Value}, rOp.rep w (fun b => b < w.heap.size) x cs → rOp.rep w' (fun b => b < w'.heap.size) x cs := fun h => rOp.grow (fun b hb => Nat.lt_of_lt_of_le hb s.below.size) (rOp.mono (fun b hb => s.below.block b hb) h)
  refine Sl.ofBox hbox (adds_len ha).symm hosz.1 hosz.2.1 fun k hk0 => ?_
  have hk : k < l.length := by rw [adds_len ha] at hk0; exact hk0
  have hch := chunk_set hol htk (a := a) hk (.slice A3 n3 c3)
  change rOp.rep w' _ _ ((((ocs.toList.set (a * 5 + 3) (.slice A3 n3 c3)).toArray.toList).drop (k * 5)).take 5)
  rw [List.toList_toArray, hch]
  have hr := hreps k hk
  by_cases hka : k = a
  · subst hka
    rw [if_pos rfl]
    obtain ⟨Aa, ca, Au, cu, h0, h1, h2, h3⟩ := hmono hr
    rw [h0]
    have hget : (adds l k b)[k]'(by rw [adds_len ha]; exact hk) = { l[k] with after := l[k].after ++ [b] } := by
      simp only [adds_eq ha, List.getElem_set_self]
    rw [hget]
    subst hn3
    exact ⟨A3, c3, Au, cu, rfl, h1, hown, h3⟩
  · rw [if_neg hka]
    have hget : (adds l a b)[k]'(by rw [adds_len ha]; exact hk) = l[k] := by
      simp only [adds_eq ha]
      rw [List.getElem_set_ne (fun h => hka h.symm)]
    rw [hget]
    exact hmono hr

theorem lawCycles_ok (w : World) (v : Value) (l : List Opn) (a b : Int) (hl : Sl rOp w w.heap.size v l) (ha0 : inI64 a) (hb0 : inI64 b) : Ok Tryz.prog 10 [v, .int .i64 a, .int .i64 b].toArray w fun r _ => r = .bool true := by
  obtain ⟨A0, c0, rfl, hc, hm⟩ := len_small hl
  by_cases he : listE l (-1) = 0
  · have hG := list_good he
    have h16 := hG.le
    by_cases hr : (0 ≤ a ∧ a < l.length) ∧ (0 ≤ b ∧ b < l.length)
    · obtain ⟨a, rfl⟩ : ∃ n : Nat, a = n := ⟨a.toNat, by omega⟩
      obtain ⟨b, rfl⟩ : ∃ n : Nat, b = n := ⟨b.toNat, by omega⟩
      have hal : a < l.length := by omega
      have hbl : b < l.length := by omega
      obtain ⟨ad, _, raw, hv, hraw, hcells, hreps⟩ := hl.raws (by omega)
      injection hv with e1 e2 e3
      subst e1 e3
      obtain ⟨_, _, hv, _, _, hb, hcell⟩ := hl.at' 5 rfl (by omega)
      injection hv with e1 e2 e3
      injection e1 with e1
      subst e1 e3
      obtain ⟨cs, hce, Aa, ca, Au, cu, rfl, hnm, q1, q2⟩ := hcell a hal
      have hce3 := hce 3 _ rfl
      have ha : Sl rInt w w.heap.size (.slice Aa l[a].after.length ca) l[a].after := q1
      have hHas : ∀ (L : List Res) (w' : World), St w L w' → Ok Tryz.prog 27 [.slice Aa l[a].after.length ca, .int .i64 b].toArray w' fun r _ => r = .bool (hasB l[a].after b) := fun L w' s => has_ok w' _ _ _ (ha.later s)
      refine ok_enter Tryz.func10 rfl Tryz.ntmps10 rfl ?_
      focus (refine gc_seq ?_; refine gc_region ?_; apply gw_d; exact det_m rfl rfl (by conv => (lhs; whnf)); refine gw_nil ?_; refine gx_next ?_; refine gc_seq ?_; refine gc_seq ?_; refine gc_region ?_; apply gw_d; exact det_m rfl rfl (by conv => (lhs; whnf)); apply gw_d; exact w_call rfl rfl (fun w s => few_ok w _ l (hl.later s)) rfl; apply gw_d; exact det_not_ rfl rfl rfl; refine gw_nil ?_; refine gx_next ?_)
      refine gc_if rfl (fun _ => ?_) (fun hfew => ?_)
      · focus (refine gc_seq ?_; refine gc_region ?_; apply gw_d; exact w_call rfl rfl (fun w s => awake_ok w) rfl; apply gw_d; exact det_m rfl rfl (by conv => (lhs; whnf)); refine gw_nil ?_; refine gx_next ?_; refine gc_ret ?_; refine gx_then_ret ?_)
        refine gx_ret1 (v := .bool _) rfl rfl (fun _ _ => ?_)
        rfl
      have h30 := few_after hfew hal h16
      focus (refine gc_skip ?_; refine gx_next ?_; refine gc_seq ?_; refine gc_seq ?_; refine gc_region ?_; apply gw_d; exact det_m rfl rfl (by conv => (lhs; whnf)))
      refine gw_callm rfl (fun w s => Order_good w _ l (hl.later s) he) rfl (fun x => ?_)
      obtain ⟨A, c⟩ := x
      focus (apply gw_d; exact det_m rfl rfl (by conv => (lhs; whnf)); apply gw_d; exact det_extract rfl rfl rfl (by conv => (lhs; whnf)); apply gw_d; exact det_extract rfl rfl rfl (by conv => (lhs; whnf)); apply gw_d; exact det_m rfl rfl (by conv => (lhs; whnf)); apply gw_d; exact det_m rfl rfl (by conv => (lhs; whnf)); refine gw_nil ?_; refine gx_next ?_; refine gc_seq ?_; refine gc_region ?_; apply gw_d; exact det_m rfl rfl (by conv => (lhs; whnf)); apply gw_d; exact det_cmp rfl rfl rfl rfl rfl; apply gw_d; exact det_m rfl rfl (by conv => (lhs; whnf)); apply gw_d; exact det_m rfl rfl (by conv => (lhs; whnf)); apply gw_d; exact det_cmp rfl rfl rfl rfl rfl; apply gw_d; exact det_pick_f (v := .bool _) rfl rfl rfl rfl; apply gw_d; exact det_m rfl rfl (by conv => (lhs; whnf)); apply gw_d; exact det_m rfl rfl (by conv => (lhs; whnf)); apply gw_d; exact det_m rfl rfl (by conv => (lhs; whnf)); apply gw_d; exact w_len rfl rfl rfl; apply gw_d; exact det_cmp rfl rfl rfl rfl rfl; apply gw_d; exact det_pick_f (v := .bool _) rfl rfl rfl rfl; apply gw_d; exact det_m rfl rfl (by conv => (lhs; whnf)); refine gw_guard_dec rfl rfl (fun _ => ?_) (fun _ => ?_); apply gw_d; exact det_not rfl; apply gw_d; exact det_not rfl; apply gw_d; exact det_pick_t (v := .bool _) rfl rfl rfl rfl; apply gw_d; exact det_m rfl rfl (by conv => (lhs; whnf)); apply gw_d; exact det_not rfl; apply gw_d; exact det_not rfl; apply gw_d; exact det_not rfl; apply gw_d; exact det_not rfl; apply gw_d; exact det_pick_t (v := .bool _) rfl rfl rfl rfl; apply gw_d; exact det_m rfl rfl (by conv => (lhs; whnf)); apply gw_d; exact det_not rfl; apply gw_d; exact det_not rfl; apply gw_d; exact det_not rfl; apply gw_d; exact det_not rfl; apply gw_d; exact det_not rfl; apply gw_d; exact det_not rfl; apply gw_d; exact det_not rfl; apply gw_d; exact det_pick_t (v := .bool _) rfl rfl rfl rfl; refine gw_nil ?_; refine gx_next ?_; refine gc_if_true rfl ?_; refine gc_seq ?_; refine gc_region ?_; apply gw_d; exact w_call rfl rfl (fun w s => awake_ok w) rfl; apply gw_d; exact det_m rfl rfl (by conv => (lhs; whnf)); refine gw_nil ?_; refine gx_next ?_; refine gc_ret ?_; refine gx_then_ret ?_; rotate_left; apply gw_d; exact det_m rfl rfl (by conv => (lhs; whnf)); apply gw_d; exact det_cmp rfl rfl rfl rfl rfl; apply gw_d; exact det_pick_f (v := .bool _) rfl rfl rfl rfl; apply gw_d; exact det_m rfl rfl (by conv => (lhs; whnf)); apply gw_d; exact det_m rfl rfl (by conv => (lhs; whnf)); apply gw_d; exact det_m rfl rfl (by conv => (lhs; whnf)); apply gw_d; exact w_len rfl rfl rfl; apply gw_d; exact det_cmp rfl rfl rfl rfl rfl; apply gw_d; exact det_pick_f (v := .bool _) rfl rfl rfl rfl; apply gw_d; exact det_m rfl rfl (by conv => (lhs; whnf)); refine gw_guard_dec rfl rfl (fun _ => ?_) (fun _ => ?_); apply gw_d; exact det_not rfl; apply gw_d; exact det_not rfl; apply gw_d; exact det_not rfl; apply gw_d; exact det_not rfl; apply gw_d; exact det_not rfl; apply gw_d; exact det_not rfl; apply gw_d; exact det_not rfl; apply gw_d; exact det_pick_t (v := .bool _) rfl rfl rfl rfl; refine gw_nil ?_; refine gx_next ?_; refine gc_if_true rfl ?_; refine gc_seq ?_; refine gc_region ?_; apply gw_d; exact w_call rfl rfl (fun w s => awake_ok w) rfl; apply gw_d; exact det_m rfl rfl (by conv => (lhs; whnf)); refine gw_nil ?_; refine gx_next ?_; refine gc_ret ?_; refine gx_then_ret ?_; rotate_left; apply gw_d; exact det_m rfl rfl (by conv => (lhs; whnf)); apply gw_d; exact det_m rfl rfl (by conv => (lhs; whnf)); apply gw_d; exact w_index rfl rfl rfl rfl (by with_reducible exact rfl) (by omega); apply gw_d; exact w_field rfl rfl rfl; apply gw_d; exact w_load_fld rfl rfl rfl (by assumption) (by assumption); apply gw_d; exact det_m rfl rfl (by conv => (lhs; whnf)); apply gw_d; exact w_call rfl rfl (hHas _) rfl; apply gw_d; exact det_pick_f (v := .bool _) rfl rfl rfl rfl; refine gw_nil ?_; refine gx_next ?_; refine gc_if rfl (fun _ => ?_) (fun _ => ?_); refine gc_seq ?_; refine gc_region ?_; apply gw_d; exact w_call rfl rfl (fun w s => awake_ok w) rfl; apply gw_d; exact det_m rfl rfl (by conv => (lhs; whnf)); refine gw_nil ?_; refine gx_next ?_; refine gc_ret ?_; refine gx_then_ret ?_; rotate_left; refine gc_skip ?_; refine gx_next ?_; refine gc_seq ?_; refine gc_region ?_; rotate_left)
      all_goals first | (exfalso; omega) | skip
      · refine gx_ret1 (v := .bool _) rfl rfl (fun _ _ => ?_)
        rfl
      rename_i hnb
      have hni : ¬ (b : Int) ∈ l[a].after := hasB_false.1 hnb
      refine gw_bslice0 rfl (fun b0 => ?_)
      refine gw_ent (box_own (n := 0) (c := 0) (sz := 5) (xs := []) ⟨Nat.le_refl _, Nat.zero_le _, rfl⟩ rfl) ?_
      focus (apply gw_d; exact det_m rfl rfl (by conv => (lhs; whnf)))
      refine gw_append (xs := []) (news := raw) rfl rfl rfl .here hraw (fun w' s _ => ⟨ad, rfl, fun j u hu => (cell_same (by rw [add_block]; exact s.below.block _ hb)).trans (hcells j u hu)⟩) (raw_one hraw hreps) (by unfold maxLen; omega) (by omega) (by decide) rfl (fun A1 c1 => ?_)
      simp only [Nat.zero_add, List.nil_append]
      focus (apply gw_d; exact det_m rfl rfl (by conv => (lhs; whnf)); refine gw_nil ?_; refine gx_next ?_; refine gc_seq ?_; refine gc_region ?_; apply gw_d; exact det_m rfl rfl (by conv => (lhs; whnf)); apply gw_d; exact det_m rfl rfl (by conv => (lhs; whnf)))
      refine gw_bslice0 rfl (fun b1 => ?_)
      refine gw_ent (box_own (n := 0) (c := 0) (sz := 1) (xs := []) ⟨Nat.le_refl _, Nat.zero_le _, rfl⟩ rfl) ?_
      focus (apply gw_d; exact det_m rfl rfl (by conv => (lhs; whnf)); apply gw_d; exact det_m rfl rfl (by conv => (lhs; whnf)); apply gw_d; exact w_index rfl rfl rfl rfl (by with_reducible exact rfl) (by omega); apply gw_d; exact w_field rfl rfl rfl; apply gw_d; exact w_load_fld rfl rfl rfl (by assumption) (by assumption))
      refine gw_append (xs := []) (news := l[a].after.map (Value.int .i64)) rfl rfl rfl .here (by simp) (fun w' s hpos => ?_) (fun u hu => ?_) (by unfold maxLen; omega) (by omega) (by decide) rfl (fun A2 c2 => ?_)
      · obtain ⟨_, _, hv, _, _, hacell⟩ := ha.int
        injection hv with e1 e2 e3
        subst e1 e3
        obtain ⟨ad2, rfl, hb2, _⟩ := hacell 0 hpos
        refine ⟨ad2, rfl, fun j u hu => ?_⟩
        have hj : j < l[a].after.length := by have := (List.getElem?_eq_some_iff.1 hu).1; simpa using this
        obtain ⟨ad3, h3, _, hce4, _⟩ := hacell j hj
        injection h3 with h3
        subst h3
        rw [List.getElem?_map, List.getElem?_eq_getElem hj] at hu
        injection hu with hu
        rw [Nat.mul_one] at hce4
        rw [← hu]
        exact (cell_same (w := w) (by rw [add_block]; exact s.below.block _ hb2)).trans hce4
      · obtain ⟨x, _, rfl⟩ := List.mem_map.1 hu
        rfl
      simp only [Nat.zero_add, List.nil_append]
      focus (apply gw_d; exact det_m rfl rfl (by conv => (lhs; whnf)))
      refine gw_bslice1 (v := .int .i64 (b : Int)) rfl rfl rfl rfl rfl (fun bb => ?_)
      refine gw_append (news := [.int .i64 (b : Int)]) rfl rfl rfl (.there .here) rfl (fun w' s _ => ?_) (fun u hu => ?_) (by unfold maxLen; omega) (by omega) (by decide) rfl (fun A3 c3 => ?_)
      · refine ⟨⟨bb, 0, none⟩, rfl, fun i u hu => ?_⟩
        rw [add_zero]
        refine (Box.cell s.head i).trans ?_
        change (#[Value.int .i64 (b : Int)] : Array Value)[i]? = some u
        rw [List.getElem?_toArray]
        exact hu
      · rw [List.mem_singleton] at hu
        subst hu
        rfl
      refine gw_ownbox (by omega) (.there (.there .here)) fun g ocs hA1 hosz htk => ?_
      subst hA1
      have e3 : l[a].after.map (Value.int .i64) ++ [.int .i64 (b : Int)] = (l[a].after ++ [(b : Int)]).map (Value.int .i64) := by simp
      rw [e3]
      have hlaw := cycle_law he hal hbl (adds_op hG hal hbl hni)
      have hin : ∀ x ∈ l[a].after, inI64 x := fun x hx => by
        obtain ⟨k, hk, rfl⟩ := List.getElem_of_mem hx
        obtain ⟨_, _, _, _, _, hac⟩ := ha.int
        obtain ⟨_, _, _, _, h5⟩ := hac k hk
        exact h5
      have hB1 : ∀ (L : List Res) (w' : World), St w L w' → Ok Tryz.prog 22 [.slice (some ad) l.length c0, .int .i64 (a : Int), .int .i64 (b : Int)].toArray w' fun r _ => r = .tuple #[.bool (bit (precs l a (sortedL l)) b), .int .i64 0] := fun L w' s => by
        have := Before_ok w' _ l a b (hl.later s) ha0 hb0
        obtain ⟨h1, h2⟩ := before_val he hal hbl
        rw [h1, h2] at this
        exact this
      focus (apply gw_d; exact w_index rfl rfl rfl rfl (by with_reducible exact rfl) (by omega); apply gw_d; exact w_field rfl rfl rfl)
      refine w_store_row (n := 1) (v := .slice A3 (l[a].after.length + 1) c3) (i := a * 5 + 3) (cs' := (ocs.toList.set (a * 5 + 3) (.slice A3 (l[a].after.length + 1) c3)).toArray) rfl (congrArg (fun x => Value.pointer (some x)) (add_add ⟨g, 0, none⟩ (a * 5) 3)) rfl rfl rfl .here (by have := hosz.2.2; have := hosz.1; omega) (by rw [List.set_eq_take_append_cons_drop, if_pos (by rw [Array.length_toList]; have := hosz.2.2; have := hosz.1; omega), List.append_assoc]; rfl) ?_
      by_cases hcy : a = b ∨ bit (precs l a (sortedL l)) b = true
      · rw [if_pos hcy] at hlaw
        focus (refine gw_nil ?_; refine gx_next ?_; refine gc_seq ?_; refine gc_region ?_; apply gw_d; exact det_m rfl rfl (by conv => (lhs; whnf)); apply gw_d; exact det_m rfl rfl (by conv => (lhs; whnf)); apply gw_d; exact det_m rfl rfl (by conv => (lhs; whnf)); apply gw_d; exact w_call rfl rfl (hB1 _) rfl; apply gw_d; exact det_m rfl rfl (by conv => (lhs; whnf)); apply gw_d; exact det_extract rfl rfl rfl (by conv => (lhs; whnf)); apply gw_d; exact det_extract rfl rfl rfl (by conv => (lhs; whnf)); apply gw_d; exact det_m rfl rfl (by conv => (lhs; whnf)); apply gw_d; exact det_m rfl rfl (by conv => (lhs; whnf)); refine gw_nil ?_; refine gx_next ?_; refine gc_seq ?_; refine gc_region ?_; apply gw_d; exact det_m rfl rfl (by conv => (lhs; whnf)); apply gw_d; exact w_call rfl rfl (fun w' s => Order_bad w' _ _ (adds_sl s hal hb0 (by simp) .here (.there .here) hosz htk hreps hin) (by rw [hlaw]; decide)) rfl; apply gw_d; exact det_m rfl rfl (by conv => (lhs; whnf)); apply gw_d; exact det_extract rfl rfl rfl (by conv => (lhs; whnf)); apply gw_d; exact det_extract rfl rfl rfl (by conv => (lhs; whnf)); apply gw_d; exact det_m rfl rfl (by conv => (lhs; whnf)); apply gw_d; exact det_m rfl rfl (by conv => (lhs; whnf)); refine gw_nil ?_; refine gx_next ?_; refine gc_seq ?_; refine gc_seq ?_; refine gc_region ?_; apply gw_d; exact det_m rfl rfl (by conv => (lhs; whnf)); apply gw_d; exact det_cmp rfl rfl rfl rfl rfl; apply gw_d; exact det_m rfl rfl (by conv => (lhs; whnf)); apply gw_d; exact det_m rfl rfl (by conv => (lhs; whnf)); apply gw_d; exact det_cmp rfl rfl rfl rfl rfl; apply gw_d; exact det_m rfl rfl (by conv => (lhs; whnf)))
        rw [hlaw]
        focus (apply gw_d; exact det_m rfl rfl (by conv => (lhs; whnf)); apply gw_d; exact det_cmp rfl rfl rfl rfl rfl; apply gw_d; exact det_pick_t (v := .bool _) rfl rfl rfl rfl; apply gw_d; exact det_pick_f (v := .bool _) rfl rfl rfl rfl; refine gw_nil ?_; refine gx_next ?_; refine gc_if_dec rfl (fun _ => ?_) (fun _ => ?_); refine gc_seq ?_; refine gc_region ?_; apply gw_d; exact det_m rfl rfl (by conv => (lhs; whnf)); refine gw_nil ?_; refine gx_next ?_; refine gc_ret ?_; refine gx_then_ret ?_; rotate_left; refine gc_skip ?_; refine gx_next ?_; refine gc_seq ?_; refine gc_region ?_; apply gw_d; exact det_m rfl rfl (by conv => (lhs; whnf)); apply gw_d; exact det_cmp rfl rfl rfl rfl rfl; apply gw_d; exact det_m rfl rfl (by conv => (lhs; whnf)); apply gw_d; exact det_m rfl rfl (by conv => (lhs; whnf)); apply gw_d; exact det_cmp rfl rfl rfl rfl rfl; apply gw_d; exact det_m rfl rfl (by conv => (lhs; whnf)); refine gw_guard_dec rfl rfl (fun _ => ?_) (fun _ => ?_); apply gw_d; exact det_not rfl; apply gw_d; exact det_pick_t (v := .bool _) rfl rfl rfl rfl; apply gw_d; exact det_beq rfl rfl rfl rfl rfl; apply gw_d; exact det_m rfl rfl (by conv => (lhs; whnf)); apply gw_d; exact w_call rfl rfl (fun w s => awake_ok w) rfl; apply gw_d; exact det_pick_t (v := .bool _) rfl rfl rfl rfl; apply gw_d; exact det_m rfl rfl (by conv => (lhs; whnf)); refine gw_nil ?_; refine gx_next ?_; refine gc_ret ?_; rotate_left; apply gw_d; exact det_m rfl rfl (by conv => (lhs; whnf)); apply gw_d; exact det_pick_f (v := .bool _) rfl rfl rfl rfl; apply gw_d; exact det_beq rfl rfl rfl rfl rfl; apply gw_d; exact det_m rfl rfl (by conv => (lhs; whnf)); refine gw_guard_dec rfl rfl (fun _ => ?_) (fun _ => ?_); apply gw_d; exact w_call rfl rfl (fun w s => awake_ok w) rfl; apply gw_d; exact det_pick_t (v := .bool _) rfl rfl rfl rfl; apply gw_d; exact det_m rfl rfl (by conv => (lhs; whnf)); refine gw_nil ?_; refine gx_next ?_; refine gc_ret ?_; rotate_left; apply gw_d; exact det_not rfl; apply gw_d; exact det_pick_f (v := .bool _) rfl rfl rfl rfl; apply gw_d; exact det_m rfl rfl (by conv => (lhs; whnf)); refine gw_nil ?_; refine gx_next ?_; refine gc_ret ?_; rotate_left)
        all_goals first | (exfalso; omega) | skip
        · refine gx_ret1 (v := .bool _) rfl rfl (fun _ _ => ?_)
          rfl
        · refine gx_ret1 (v := .bool _) rfl rfl (fun _ _ => ?_)
          rfl
        · rename_i hab h
          exfalso
          rcases hcy with h1 | h1
          · exact hab (by rw [h1])
          · exact h (by rw [h1]; rfl)
      · rw [if_neg hcy] at hlaw
        obtain ⟨hab, hbit⟩ := not_or.1 hcy
        have hbit : bit (precs l a (sortedL l)) b = false := by simpa using hbit
        rw [hbit] at hB1
        focus (refine gw_nil ?_; refine gx_next ?_; refine gc_seq ?_; refine gc_region ?_; apply gw_d; exact det_m rfl rfl (by conv => (lhs; whnf)); apply gw_d; exact det_m rfl rfl (by conv => (lhs; whnf)); apply gw_d; exact det_m rfl rfl (by conv => (lhs; whnf)); apply gw_d; exact w_call rfl rfl (hB1 _) rfl; apply gw_d; exact det_m rfl rfl (by conv => (lhs; whnf)); apply gw_d; exact det_extract rfl rfl rfl (by conv => (lhs; whnf)); apply gw_d; exact det_extract rfl rfl rfl (by conv => (lhs; whnf)); apply gw_d; exact det_m rfl rfl (by conv => (lhs; whnf)); apply gw_d; exact det_m rfl rfl (by conv => (lhs; whnf)); refine gw_nil ?_; refine gx_next ?_; refine gc_seq ?_; refine gc_region ?_; apply gw_d; exact det_m rfl rfl (by conv => (lhs; whnf)))
        refine gw_callm rfl (fun w' s => Order_good w' _ _ (adds_sl s hal hb0 (by simp) .here (.there .here) hosz htk hreps hin) hlaw) rfl (fun x => ?_)
        obtain ⟨A, c⟩ := x
        focus (apply gw_d; exact det_m rfl rfl (by conv => (lhs; whnf)); apply gw_d; exact det_extract rfl rfl rfl (by conv => (lhs; whnf)); apply gw_d; exact det_extract rfl rfl rfl (by conv => (lhs; whnf)); apply gw_d; exact det_m rfl rfl (by conv => (lhs; whnf)); apply gw_d; exact det_m rfl rfl (by conv => (lhs; whnf)); refine gw_nil ?_; refine gx_next ?_; refine gc_seq ?_; refine gc_seq ?_; refine gc_region ?_; apply gw_d; exact det_m rfl rfl (by conv => (lhs; whnf)); apply gw_d; exact det_cmp rfl rfl rfl rfl rfl; apply gw_d; exact det_m rfl rfl (by conv => (lhs; whnf)); apply gw_d; exact det_m rfl rfl (by conv => (lhs; whnf)); apply gw_d; exact det_cmp rfl rfl rfl rfl rfl; apply gw_d; exact det_m rfl rfl (by conv => (lhs; whnf)); apply gw_d; exact det_not rfl; apply gw_d; exact det_not rfl; apply gw_d; exact det_pick_f (v := .bool _) rfl rfl rfl rfl; apply gw_d; exact det_pick_f (v := .bool _) rfl rfl rfl rfl; refine gw_nil ?_; refine gx_next ?_; refine gc_if_false rfl ?_; refine gc_skip ?_; refine gx_next ?_; refine gc_seq ?_; refine gc_region ?_; apply gw_d; exact det_m rfl rfl (by conv => (lhs; whnf)); apply gw_d; exact det_cmp rfl rfl rfl rfl rfl; apply gw_d; exact det_m rfl rfl (by conv => (lhs; whnf)); apply gw_d; exact det_m rfl rfl (by conv => (lhs; whnf)); apply gw_d; exact det_cmp rfl rfl rfl rfl rfl; apply gw_d; exact det_m rfl rfl (by conv => (lhs; whnf)); refine gw_guard_dec rfl rfl (fun _ => ?_) (fun _ => ?_); apply gw_d; exact det_not rfl; apply gw_d; exact det_pick_t (v := .bool _) rfl rfl rfl rfl; apply gw_d; exact det_beq rfl rfl rfl rfl rfl; apply gw_d; exact det_m rfl rfl (by conv => (lhs; whnf)); apply gw_d; exact det_not rfl; apply gw_d; exact det_pick_f (v := .bool _) rfl rfl rfl rfl; apply gw_d; exact det_m rfl rfl (by conv => (lhs; whnf)); refine gw_nil ?_; refine gx_next ?_; refine gc_ret ?_; rotate_left; apply gw_d; exact det_m rfl rfl (by conv => (lhs; whnf)); apply gw_d; exact det_pick_f (v := .bool _) rfl rfl rfl rfl; apply gw_d; exact det_beq rfl rfl rfl rfl rfl; apply gw_d; exact det_m rfl rfl (by conv => (lhs; whnf)); apply gw_d; exact w_call rfl rfl (fun w s => awake_ok w) rfl; apply gw_d; exact det_pick_t (v := .bool _) rfl rfl rfl rfl; apply gw_d; exact det_m rfl rfl (by conv => (lhs; whnf)); refine gw_nil ?_; refine gx_next ?_; refine gc_ret ?_; rotate_left)
        all_goals first | (exfalso; omega) | skip
        refine gx_ret1 (v := .bool _) rfl rfl (fun _ _ => ?_)
        rfl
    · refine ok_enter Tryz.func10 rfl Tryz.ntmps10 rfl ?_
      focus (refine gc_seq ?_; refine gc_region ?_; apply gw_d; exact det_m rfl rfl (by conv => (lhs; whnf)); refine gw_nil ?_; refine gx_next ?_; refine gc_seq ?_; refine gc_seq ?_; refine gc_region ?_; apply gw_d; exact det_m rfl rfl (by conv => (lhs; whnf)); apply gw_d; exact w_call rfl rfl (fun w s => few_ok w _ l (hl.later s)) rfl; apply gw_d; exact det_not_ rfl rfl rfl; refine gw_nil ?_; refine gx_next ?_)
      refine gc_if rfl (fun _ => ?_) (fun hfew => ?_)
      · focus (refine gc_seq ?_; refine gc_region ?_; apply gw_d; exact w_call rfl rfl (fun w s => awake_ok w) rfl; apply gw_d; exact det_m rfl rfl (by conv => (lhs; whnf)); refine gw_nil ?_; refine gx_next ?_; refine gc_ret ?_; refine gx_then_ret ?_)
        refine gx_ret1 (v := .bool _) rfl rfl (fun _ _ => ?_)
        rfl
      focus (refine gc_skip ?_; refine gx_next ?_; refine gc_seq ?_; refine gc_seq ?_; refine gc_region ?_; apply gw_d; exact det_m rfl rfl (by conv => (lhs; whnf)))
      refine gw_callm rfl (fun w s => Order_good w _ l (hl.later s) he) rfl (fun x => ?_)
      obtain ⟨A, c⟩ := x
      focus (apply gw_d; exact det_m rfl rfl (by conv => (lhs; whnf)); apply gw_d; exact det_extract rfl rfl rfl (by conv => (lhs; whnf)); apply gw_d; exact det_extract rfl rfl rfl (by conv => (lhs; whnf)); apply gw_d; exact det_m rfl rfl (by conv => (lhs; whnf)); apply gw_d; exact det_m rfl rfl (by conv => (lhs; whnf)); refine gw_nil ?_; refine gx_next ?_; refine gc_seq ?_; refine gc_region ?_; apply gw_d; exact det_m rfl rfl (by conv => (lhs; whnf)); apply gw_d; exact det_cmp rfl rfl rfl rfl rfl; apply gw_d; exact det_m rfl rfl (by conv => (lhs; whnf)); apply gw_d; exact det_m rfl rfl (by conv => (lhs; whnf)); apply gw_d; exact det_cmp rfl rfl rfl rfl rfl; apply gw_d; exact det_pick_f (v := .bool _) rfl rfl rfl rfl; apply gw_d; exact det_m rfl rfl (by conv => (lhs; whnf)); refine gw_guard_dec rfl rfl (fun _ => ?_) (fun _ => ?_); apply gw_d; exact det_not rfl; apply gw_d; exact det_not rfl; apply gw_d; exact det_not rfl; apply gw_d; exact det_not rfl; apply gw_d; exact det_pick_t (v := .bool _) rfl rfl rfl rfl; apply gw_d; exact det_m rfl rfl (by conv => (lhs; whnf)); apply gw_d; exact det_not rfl; apply gw_d; exact det_not rfl; apply gw_d; exact det_pick_t (v := .bool _) rfl rfl rfl rfl; apply gw_d; exact det_m rfl rfl (by conv => (lhs; whnf)); apply gw_d; exact det_not rfl; apply gw_d; exact det_not rfl; apply gw_d; exact det_not rfl; apply gw_d; exact det_not rfl; apply gw_d; exact det_pick_t (v := .bool _) rfl rfl rfl rfl; apply gw_d; exact det_m rfl rfl (by conv => (lhs; whnf)); apply gw_d; exact det_not rfl; apply gw_d; exact det_not rfl; apply gw_d; exact det_not rfl; apply gw_d; exact det_not rfl; apply gw_d; exact det_not rfl; apply gw_d; exact det_not rfl; apply gw_d; exact det_not rfl; apply gw_d; exact det_pick_t (v := .bool _) rfl rfl rfl rfl; refine gw_nil ?_; refine gx_next ?_; refine gc_if_true rfl ?_; refine gc_seq ?_; refine gc_region ?_; apply gw_d; exact w_call rfl rfl (fun w s => awake_ok w) rfl; apply gw_d; exact det_m rfl rfl (by conv => (lhs; whnf)); refine gw_nil ?_; refine gx_next ?_; refine gc_ret ?_; refine gx_then_ret ?_; rotate_left; apply gw_d; exact det_m rfl rfl (by conv => (lhs; whnf)); apply gw_d; exact det_m rfl rfl (by conv => (lhs; whnf)); apply gw_d; exact w_len rfl rfl rfl; apply gw_d; exact det_cmp rfl rfl rfl rfl rfl; apply gw_d; exact det_pick_f (v := .bool _) rfl rfl rfl rfl; apply gw_d; exact det_m rfl rfl (by conv => (lhs; whnf)); refine gw_guard_dec rfl rfl (fun _ => ?_) (fun _ => ?_); apply gw_d; exact det_not rfl; apply gw_d; exact det_not rfl; apply gw_d; exact det_pick_t (v := .bool _) rfl rfl rfl rfl; apply gw_d; exact det_m rfl rfl (by conv => (lhs; whnf)); apply gw_d; exact det_not rfl; apply gw_d; exact det_not rfl; apply gw_d; exact det_not rfl; apply gw_d; exact det_not rfl; apply gw_d; exact det_pick_t (v := .bool _) rfl rfl rfl rfl; apply gw_d; exact det_m rfl rfl (by conv => (lhs; whnf)); apply gw_d; exact det_not rfl; apply gw_d; exact det_not rfl; apply gw_d; exact det_not rfl; apply gw_d; exact det_not rfl; apply gw_d; exact det_not rfl; apply gw_d; exact det_not rfl; apply gw_d; exact det_not rfl; apply gw_d; exact det_pick_t (v := .bool _) rfl rfl rfl rfl; refine gw_nil ?_; refine gx_next ?_; refine gc_if_true rfl ?_; refine gc_seq ?_; refine gc_region ?_; apply gw_d; exact w_call rfl rfl (fun w s => awake_ok w) rfl; apply gw_d; exact det_m rfl rfl (by conv => (lhs; whnf)); refine gw_nil ?_; refine gx_next ?_; refine gc_ret ?_; refine gx_then_ret ?_; rotate_left; apply gw_d; exact det_m rfl rfl (by conv => (lhs; whnf)); apply gw_d; exact det_cmp rfl rfl rfl rfl rfl; apply gw_d; exact det_pick_f (v := .bool _) rfl rfl rfl rfl; apply gw_d; exact det_m rfl rfl (by conv => (lhs; whnf)); refine gw_guard_dec rfl rfl (fun _ => ?_) (fun _ => ?_); apply gw_d; exact det_not rfl; apply gw_d; exact det_not rfl; apply gw_d; exact det_not rfl; apply gw_d; exact det_not rfl; apply gw_d; exact det_pick_t (v := .bool _) rfl rfl rfl rfl; apply gw_d; exact det_m rfl rfl (by conv => (lhs; whnf)); apply gw_d; exact det_not rfl; apply gw_d; exact det_not rfl; apply gw_d; exact det_not rfl; apply gw_d; exact det_not rfl; apply gw_d; exact det_not rfl; apply gw_d; exact det_not rfl; apply gw_d; exact det_not rfl; apply gw_d; exact det_pick_t (v := .bool _) rfl rfl rfl rfl; refine gw_nil ?_; refine gx_next ?_; refine gc_if_true rfl ?_; refine gc_seq ?_; refine gc_region ?_; apply gw_d; exact w_call rfl rfl (fun w s => awake_ok w) rfl; apply gw_d; exact det_m rfl rfl (by conv => (lhs; whnf)); refine gw_nil ?_; refine gx_next ?_; refine gc_ret ?_; refine gx_then_ret ?_; rotate_left; apply gw_d; exact det_m rfl rfl (by conv => (lhs; whnf)); apply gw_d; exact det_m rfl rfl (by conv => (lhs; whnf)); apply gw_d; exact w_len rfl rfl rfl; apply gw_d; exact det_cmp rfl rfl rfl rfl rfl; apply gw_d; exact det_pick_f (v := .bool _) rfl rfl rfl rfl; apply gw_d; exact det_m rfl rfl (by conv => (lhs; whnf)); refine gw_guard_dec rfl rfl (fun _ => ?_) (fun _ => ?_); apply gw_d; exact det_not rfl; apply gw_d; exact det_not rfl; apply gw_d; exact det_not rfl; apply gw_d; exact det_not rfl; apply gw_d; exact det_not rfl; apply gw_d; exact det_not rfl; apply gw_d; exact det_not rfl; apply gw_d; exact det_pick_t (v := .bool _) rfl rfl rfl rfl; refine gw_nil ?_; refine gx_next ?_; refine gc_if_true rfl ?_; refine gc_seq ?_; refine gc_region ?_; apply gw_d; exact w_call rfl rfl (fun w s => awake_ok w) rfl; apply gw_d; exact det_m rfl rfl (by conv => (lhs; whnf)); refine gw_nil ?_; refine gx_next ?_; refine gc_ret ?_; refine gx_then_ret ?_; rotate_left; apply gw_d; exact det_m rfl rfl (by conv => (lhs; whnf)); apply gw_d; exact det_m rfl rfl (by conv => (lhs; whnf)); rotate_left)
      all_goals first | (exfalso; omega) | skip
      all_goals (refine gx_ret1 (v := .bool _) rfl rfl (fun _ _ => ?_); rfl)
  · refine ok_enter Tryz.func10 rfl Tryz.ntmps10 rfl ?_
    focus (refine gc_seq ?_; refine gc_region ?_; apply gw_d; exact det_m rfl rfl (by conv => (lhs; whnf)); refine gw_nil ?_; refine gx_next ?_; refine gc_seq ?_; refine gc_seq ?_; refine gc_region ?_; apply gw_d; exact det_m rfl rfl (by conv => (lhs; whnf)); apply gw_d; exact w_call rfl rfl (fun w s => few_ok w _ l (hl.later s)) rfl; apply gw_d; exact det_not_ rfl rfl rfl; refine gw_nil ?_; refine gx_next ?_)
    refine gc_if rfl (fun _ => ?_) (fun hfew => ?_)
    · focus (refine gc_seq ?_; refine gc_region ?_; apply gw_d; exact w_call rfl rfl (fun w s => awake_ok w) rfl; apply gw_d; exact det_m rfl rfl (by conv => (lhs; whnf)); refine gw_nil ?_; refine gx_next ?_; refine gc_ret ?_; refine gx_then_ret ?_)
      refine gx_ret1 (v := .bool _) rfl rfl (fun _ _ => ?_)
      rfl
    focus (refine gc_skip ?_; refine gx_next ?_; refine gc_seq ?_; refine gc_seq ?_; refine gc_region ?_; apply gw_d; exact det_m rfl rfl (by conv => (lhs; whnf)); apply gw_d; exact w_call rfl rfl (fun w s => Order_bad w _ l (hl.later s) he) rfl; apply gw_d; exact det_m rfl rfl (by conv => (lhs; whnf)); apply gw_d; exact det_extract rfl rfl rfl (by conv => (lhs; whnf)); apply gw_d; exact det_extract rfl rfl rfl (by conv => (lhs; whnf)); apply gw_d; exact det_m rfl rfl (by conv => (lhs; whnf)); apply gw_d; exact det_m rfl rfl (by conv => (lhs; whnf)); refine gw_nil ?_; refine gx_next ?_; refine gc_seq ?_; refine gc_region ?_; apply gw_d; exact det_m rfl rfl (by conv => (lhs; whnf)); apply gw_d; exact det_cmp rfl rfl rfl rfl rfl; apply gw_d; exact det_m rfl rfl (by conv => (lhs; whnf)))
    focus (refine gw_guard_dec rfl rfl (fun _ => ?_) (fun _ => ?_); apply gw_d; exact det_not rfl; apply gw_d; exact det_not rfl; apply gw_d; exact det_pick_t (v := .bool _) rfl rfl rfl rfl; apply gw_d; exact det_m rfl rfl (by conv => (lhs; whnf)); apply gw_d; exact det_not rfl; apply gw_d; exact det_not rfl; apply gw_d; exact det_not rfl; apply gw_d; exact det_not rfl; apply gw_d; exact det_pick_t (v := .bool _) rfl rfl rfl rfl; apply gw_d; exact det_m rfl rfl (by conv => (lhs; whnf)); apply gw_d; exact det_not rfl; apply gw_d; exact det_not rfl; apply gw_d; exact det_pick_t (v := .bool _) rfl rfl rfl rfl; apply gw_d; exact det_m rfl rfl (by conv => (lhs; whnf)); apply gw_d; exact det_not rfl; apply gw_d; exact det_not rfl; apply gw_d; exact det_not rfl; apply gw_d; exact det_not rfl; apply gw_d; exact det_pick_t (v := .bool _) rfl rfl rfl rfl; apply gw_d; exact det_m rfl rfl (by conv => (lhs; whnf)); apply gw_d; exact det_not rfl; apply gw_d; exact det_not rfl; apply gw_d; exact det_not rfl; apply gw_d; exact det_not rfl; apply gw_d; exact det_not rfl; apply gw_d; exact det_not rfl; apply gw_d; exact det_not rfl; apply gw_d; exact det_pick_t (v := .bool _) rfl rfl rfl rfl; refine gw_nil ?_; refine gx_next ?_; refine gc_if_true rfl ?_; refine gc_seq ?_; refine gc_region ?_; apply gw_d; exact w_call rfl rfl (fun w s => awake_ok w) rfl; apply gw_d; exact det_m rfl rfl (by conv => (lhs; whnf)); refine gw_nil ?_; refine gx_next ?_; refine gc_ret ?_; refine gx_then_ret ?_; rotate_left; apply gw_d; exact det_m rfl rfl (by conv => (lhs; whnf)); apply gw_d; exact det_cmp rfl rfl rfl rfl rfl; apply gw_d; exact det_pick_f (v := .bool _) rfl rfl rfl rfl; apply gw_d; exact det_m rfl rfl (by conv => (lhs; whnf)); refine gw_guard_dec rfl rfl (fun _ => ?_) (fun _ => ?_); apply gw_d; exact det_not rfl; apply gw_d; exact det_not rfl; apply gw_d; exact det_not rfl; apply gw_d; exact det_not rfl; apply gw_d; exact det_pick_t (v := .bool _) rfl rfl rfl rfl; apply gw_d; exact det_m rfl rfl (by conv => (lhs; whnf)); apply gw_d; exact det_not rfl; apply gw_d; exact det_not rfl; apply gw_d; exact det_pick_t (v := .bool _) rfl rfl rfl rfl; apply gw_d; exact det_m rfl rfl (by conv => (lhs; whnf)); apply gw_d; exact det_not rfl; apply gw_d; exact det_not rfl; apply gw_d; exact det_not rfl; apply gw_d; exact det_not rfl; apply gw_d; exact det_pick_t (v := .bool _) rfl rfl rfl rfl; apply gw_d; exact det_m rfl rfl (by conv => (lhs; whnf)); apply gw_d; exact det_not rfl; apply gw_d; exact det_not rfl; apply gw_d; exact det_not rfl; apply gw_d; exact det_not rfl; apply gw_d; exact det_not rfl; apply gw_d; exact det_not rfl; apply gw_d; exact det_not rfl; apply gw_d; exact det_pick_t (v := .bool _) rfl rfl rfl rfl; refine gw_nil ?_; refine gx_next ?_; refine gc_if_true rfl ?_; refine gc_seq ?_; refine gc_region ?_; apply gw_d; exact w_call rfl rfl (fun w s => awake_ok w) rfl; apply gw_d; exact det_m rfl rfl (by conv => (lhs; whnf)); refine gw_nil ?_; refine gx_next ?_; refine gc_ret ?_; refine gx_then_ret ?_; rotate_left; apply gw_d; exact det_m rfl rfl (by conv => (lhs; whnf)); apply gw_d; exact det_m rfl rfl (by conv => (lhs; whnf)); apply gw_d; exact w_len rfl rfl rfl; apply gw_d; exact det_cmp rfl rfl rfl rfl rfl; apply gw_d; exact det_pick_f (v := .bool _) rfl rfl rfl rfl; apply gw_d; exact det_m rfl rfl (by conv => (lhs; whnf)); refine gw_guard_dec rfl rfl (fun _ => ?_) (fun _ => ?_); apply gw_d; exact det_not rfl; apply gw_d; exact det_not rfl; apply gw_d; exact det_pick_t (v := .bool _) rfl rfl rfl rfl; apply gw_d; exact det_m rfl rfl (by conv => (lhs; whnf)); apply gw_d; exact det_not rfl; apply gw_d; exact det_not rfl; apply gw_d; exact det_not rfl; apply gw_d; exact det_not rfl; apply gw_d; exact det_pick_t (v := .bool _) rfl rfl rfl rfl; apply gw_d; exact det_m rfl rfl (by conv => (lhs; whnf)); apply gw_d; exact det_not rfl; apply gw_d; exact det_not rfl; apply gw_d; exact det_not rfl; apply gw_d; exact det_not rfl; apply gw_d; exact det_not rfl; apply gw_d; exact det_not rfl; apply gw_d; exact det_not rfl; apply gw_d; exact det_pick_t (v := .bool _) rfl rfl rfl rfl; refine gw_nil ?_; refine gx_next ?_; refine gc_if_true rfl ?_; refine gc_seq ?_; refine gc_region ?_; apply gw_d; exact w_call rfl rfl (fun w s => awake_ok w) rfl; apply gw_d; exact det_m rfl rfl (by conv => (lhs; whnf)); refine gw_nil ?_; refine gx_next ?_; refine gc_ret ?_; refine gx_then_ret ?_; rotate_left; apply gw_d; exact det_m rfl rfl (by conv => (lhs; whnf)); apply gw_d; exact det_cmp rfl rfl rfl rfl rfl; apply gw_d; exact det_pick_f (v := .bool _) rfl rfl rfl rfl; apply gw_d; exact det_m rfl rfl (by conv => (lhs; whnf)); refine gw_guard_dec rfl rfl (fun _ => ?_) (fun _ => ?_); apply gw_d; exact det_not rfl; apply gw_d; exact det_not rfl; apply gw_d; exact det_not rfl; apply gw_d; exact det_not rfl; apply gw_d; exact det_pick_t (v := .bool _) rfl rfl rfl rfl; apply gw_d; exact det_m rfl rfl (by conv => (lhs; whnf)); apply gw_d; exact det_not rfl; apply gw_d; exact det_not rfl; apply gw_d; exact det_not rfl; apply gw_d; exact det_not rfl; apply gw_d; exact det_not rfl; apply gw_d; exact det_not rfl; apply gw_d; exact det_not rfl; apply gw_d; exact det_pick_t (v := .bool _) rfl rfl rfl rfl; refine gw_nil ?_; refine gx_next ?_; refine gc_if_true rfl ?_; refine gc_seq ?_; refine gc_region ?_; apply gw_d; exact w_call rfl rfl (fun w s => awake_ok w) rfl; apply gw_d; exact det_m rfl rfl (by conv => (lhs; whnf)); refine gw_nil ?_; refine gx_next ?_; refine gc_ret ?_; refine gx_then_ret ?_; rotate_left; apply gw_d; exact det_m rfl rfl (by conv => (lhs; whnf)); apply gw_d; exact det_m rfl rfl (by conv => (lhs; whnf)); apply gw_d; exact w_len rfl rfl rfl; apply gw_d; exact det_cmp rfl rfl rfl rfl rfl; apply gw_d; exact det_pick_f (v := .bool _) rfl rfl rfl rfl; apply gw_d; exact det_m rfl rfl (by conv => (lhs; whnf)); refine gw_guard_dec rfl rfl (fun _ => ?_) (fun _ => ?_); apply gw_d; exact det_not rfl; apply gw_d; exact det_not rfl; apply gw_d; exact det_not rfl; apply gw_d; exact det_not rfl; apply gw_d; exact det_not rfl; apply gw_d; exact det_not rfl; apply gw_d; exact det_not rfl; apply gw_d; exact det_pick_t (v := .bool _) rfl rfl rfl rfl; refine gw_nil ?_; refine gx_next ?_; refine gc_if_true rfl ?_; refine gc_seq ?_; refine gc_region ?_; apply gw_d; exact w_call rfl rfl (fun w s => awake_ok w) rfl; apply gw_d; exact det_m rfl rfl (by conv => (lhs; whnf)); refine gw_nil ?_; refine gx_next ?_; refine gc_ret ?_; refine gx_then_ret ?_; rotate_left; apply gw_d; exact det_m rfl rfl (by conv => (lhs; whnf)); apply gw_d; exact det_m rfl rfl (by conv => (lhs; whnf)); rotate_left)
    all_goals first | (exfalso; omega) | skip
    refine gx_ret1 (v := .bool _) rfl rfl (fun _ _ => ?_)
    rfl
end Go.Proofs.YteiboodeepjanaaGreat
