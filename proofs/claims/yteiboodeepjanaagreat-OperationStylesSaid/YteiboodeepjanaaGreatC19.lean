/- Contracts: operations are arranged. -/
import Derived.Test.YteiboodeepjanaaGreatC18
namespace Go.Proofs.YteiboodeepjanaaGreat
open Go.RowKit
set_option maxRecDepth 100000
set_option maxHeartbeats 2000000

theorem aset_new {κ : Type} [DecidableEq κ] {m : List (κ × Value)} {k : κ} {v : Value} (h : ¬ k ∈ m.map (·.1)) : aset m k v = m ++ [(k, v)] := by
  induction m with
  | nil => rfl
  | cons p m ih =>
    rw [List.map_cons, List.mem_cons, not_or] at h
    unfold aset
    rw [if_neg (fun hp => h.1 hp.symm), ih h.2]
    rfl
theorem aget_at {κ : Type} [DecidableEq κ] {m : List (κ × Value)} (h : (m.map (·.1)).Nodup) {p : κ × Value} (hp : p ∈ m) : aget m p.1 = some p.2 := by
  induction m with
  | nil => cases hp
  | cons q m ih =>
    rw [List.map_cons, List.nodup_cons] at h
    rw [aget_cons]
    rcases List.mem_cons.1 hp with hp | hp
    · subst hp; rw [if_pos rfl]
    · rw [if_neg (fun hq => h.1 (by rw [hq]; exact List.mem_map_of_mem hp)), ih h.2 hp]
theorem aget_out {κ : Type} [DecidableEq κ] {m : List (κ × Value)} {k : κ} (h : ¬ k ∈ m.map (·.1)) : aget m k = none := by
  rw [aget_key] at h
  simpa using h

/-! ### The open operations -/
def openA (T : List (Int × Nat)) : List (Int × Value) := T.map fun t => (t.1, .map (some t.2))
def conts (l : List Opn) (o : List Int) (T : List (Int × Nat)) : List (Nat × List (Int × Value)) := T.map fun t => (t.2, cont l o t.1)
theorem openA_keys (T : List (Int × Nat)) : (openA T).map (·.1) = T.map (·.1) := by
  unfold openA
  rw [List.map_map]
  rfl
theorem openA_len (T : List (Int × Nat)) : (openA T).length = T.length := by simp [openA]
def ixs (n : Nat) : List Int := (List.range n).map (fun i : Nat => (i : Int))
theorem ixs_nodup (n : Nat) : (ixs n).Nodup := by
  unfold ixs
  rw [List.Nodup, List.pairwise_map]
  exact List.nodup_range.imp fun h hc => h (Int.ofNat.inj hc)
theorem ixs_mem {n : Nat} {i : Int} : i ∈ ixs n ↔ 0 ≤ i ∧ i < n := by
  unfold ixs
  rw [List.mem_map]
  constructor
  · rintro ⟨a, ha, rfl⟩
    rw [List.mem_range] at ha
    omega
  · rintro ⟨h1, h2⟩
    exact ⟨i.toNat, List.mem_range.2 (by omega), by omega⟩

theorem find_range {n j : Nat} {p : Nat → Bool} (hj : j < n) (hp : p j = true) (h : ∀ i, i < j → p i = false) : (List.range n).find? p = some j := by
  rw [List.find?_range_eq_some]
  exact ⟨hp, List.mem_range.2 hj, fun i hi => by rw [h i hi]; rfl⟩
theorem arr_step {l : List Opn} {o : List Int} {j f : Nat} (h : nextOf l o = some j) : arr l (f + 1) o = arr l f (o ++ [(j : Int)]) := by
  show (match nextOf l o with | some i => arr l f (o ++ [(i : Int)]) | none => o) = _
  rw [h]
theorem arr_end {l : List Opn} {o : List Int} {f : Nat} (h : nextOf l o = none) : arr l f o = o := by
  cases f with
  | zero => rfl
  | succ f =>
    show (match nextOf l o with | some i => arr l f (o ++ [(i : Int)]) | none => o) = _
    rw [h]

def fullB (l : List Opn) : Bool := decide ((sortedL l).length = l.length)

structure Arr (l : List Opn) (o : List Int) (T : List (Int × Nat)) : Prop where
  keys : T.map (·.1) = (ixs l.length).filter fun i => !hasB o i
  len : o.length + T.length = l.length
  arr : arr l (l.length - o.length) o = sortedL l
theorem Arr.nodup {l : List Opn} {o : List Int} {T : List (Int × Nat)} (h : Arr l o T) : (T.map (·.1)).Nodup := by rw [h.keys]; exact (ixs_nodup _).filter _
theorem Arr.mem {l : List Opn} {o : List Int} {T : List (Int × Nat)} (h : Arr l o T) {j : Nat} (hj : j < l.length) : (j : Int) ∈ T.map (·.1) ↔ hasB o (j : Int) = false := by
  rw [h.keys, List.mem_filter]
  constructor
  · rintro ⟨_, h2⟩; simpa using h2
  · intro h2; exact ⟨ixs_mem.2 (by omega), by simp [h2]⟩
theorem Arr.step {l : List Opn} {o : List Int} {T : List (Int × Nat)} (h : Arr l o T) {j : Nat} (hj : j < l.length) (hr : readyB l o j = true) (hs : ∀ i, i < j → readyB l o i = false) :
    Arr l (o ++ [(j : Int)]) (T.filter fun t => !decide (t.1 = (j : Int))) := by
  have ho : hasB o (j : Int) = false := by
    unfold readyB at hr
    rw [Bool.and_eq_true] at hr
    simpa using hr.1
  have hk : (T.filter fun t => !decide (t.1 = (j : Int))).map (·.1) = (ixs l.length).filter fun i => !hasB (o ++ [(j : Int)]) i := by
    have h1 : (T.filter fun t => !decide (t.1 = (j : Int))).map (·.1) = (T.map (·.1)).filter fun i => !decide (i = (j : Int)) := by
      rw [List.filter_map]; rfl
    rw [h1, h.keys, List.filter_filter]
    apply List.filter_congr
    intro i _
    rw [hasB_snoc]
    by_cases hi : i = (j : Int)
    · simp [hi]
    · have : ¬ (j : Int) = i := fun hc => hi hc.symm
      simp [hi, this]
  have hlen : (T.filter fun t => !decide (t.1 = (j : Int))).length + 1 = T.length := by
    have hm := (h.mem hj).2 ho
    obtain ⟨t, ht, htj⟩ := List.mem_map.1 hm
    obtain ⟨A, B, rfl⟩ := List.append_of_mem ht
    have hnd := h.nodup
    rw [List.map_append, List.map_cons, List.nodup_append] at hnd
    obtain ⟨h1, h2, h3⟩ := hnd
    rw [List.nodup_cons] at h2
    have hA : A.filter (fun t => !decide (t.1 = (j : Int))) = A := List.filter_eq_self.2 fun x hx => by
      have : ¬ x.1 = (j : Int) := fun hc => h3 x.1 (List.mem_map_of_mem hx) t.1 List.mem_cons_self (by rw [hc, htj])
      simp [this]
    have hB : B.filter (fun t => !decide (t.1 = (j : Int))) = B := List.filter_eq_self.2 fun x hx => by
      have : ¬ x.1 = (j : Int) := fun hc => h2.1 (by rw [htj, ← hc]; exact List.mem_map_of_mem hx)
      simp [this]
    rw [List.filter_append, List.filter_cons, if_neg (by simp [htj]), hA, hB]
    simp
    omega
  have hl := h.len
  refine ⟨hk, by simp; omega, ?_⟩
  have : l.length - o.length = (l.length - (o ++ [(j : Int)]).length) + 1 := by simp; omega
  have ha := h.arr
  rw [this, arr_step (find_range hj hr hs)] at ha
  exact ha

theorem mem_erase_nodup {α : Type} {t : α} : ∀ (U : List α) (i : Nat) (hi : i < U.length), U.Nodup → (t ∈ U.eraseIdx i ↔ t ≠ U[i] ∧ t ∈ U)
  | x :: U, 0, _, h => by
    rw [List.nodup_cons] at h
    simp only [List.eraseIdx_cons_zero, List.getElem_cons_zero, List.mem_cons]
    constructor
    · intro ht; exact ⟨fun hc => h.1 (hc ▸ ht), .inr ht⟩
    · rintro ⟨h1, h2 | h2⟩
      · exact absurd h2 h1
      · exact h2
  | x :: U, i + 1, hi, h => by
    rw [List.nodup_cons] at h
    have hi' : i < U.length := by simpa using hi
    have ih := mem_erase_nodup (t := t) U i hi' h.2
    simp only [List.eraseIdx_cons_succ, List.getElem_cons_succ, List.mem_cons, ih]
    constructor
    · rintro (h1 | ⟨h1, h2⟩)
      · subst h1; exact ⟨fun hc => h.1 (hc ▸ List.getElem_mem hi'), .inl rfl⟩
      · exact ⟨h1, .inr h2⟩
    · rintro ⟨h1, h2 | h2⟩
      · exact .inl h2
      · exact .inr ⟨h1, h2⟩

/-! ### While the open operations are told that one is done -/
def mixF (l : List Opn) (o : List Int) (j : Int) (U : List (Int × Nat)) (t : Int × Nat) : Nat × List (Int × Value) := (t.2, if t ∈ U then cont l o t.1 else cont l (o ++ [j]) t.1)
def mix (l : List Opn) (o : List Int) (j : Int) (T U : List (Int × Nat)) : List (Nat × List (Int × Value)) := T.map (mixF l o j U)
theorem mix_all (l : List Opn) (o : List Int) (j : Int) (T : List (Int × Nat)) : mix l o j T T = conts l o T := by
  unfold mix conts
  apply List.map_congr_left
  intro t ht
  unfold mixF
  rw [if_pos ht]
theorem mix_none (l : List Opn) (o : List Int) (j : Int) (T : List (Int × Nat)) : mix l o j T [] = conts l (o ++ [j]) T := by
  unfold mix conts
  apply List.map_congr_left
  intro t ht
  unfold mixF
  rw [if_neg (by simp)]
theorem maps_sub {es es' : List (Nat × List (Int × Value))} {L : List Res} (h : es'.Sublist es) : Ent (MapsR es :: L) (MapsR es' :: L) := fun w0 w s => by
  obtain ⟨h1, h2⟩ := s.head
  exact s.turn (Nat.le_refl _) rfl rfl rfl (fun _ _ _ => rfl) ⟨h1.sublist h, fun e he => h2 e (h.subset he)⟩ fun c ⟨e, he, hc⟩ => .inl ⟨e, h.subset he, hc⟩
theorem mix_at {l : List Opn} {o : List Int} {j : Int} {T U : List (Int × Nat)} (hT : T.Nodup) (hU : U.Sublist T) {i : Nat} (hi : i < U.length) : ∃ A B, mix l o j T U = A ++ (U[i].2, cont l o U[i].1) :: B ∧ mix l o j T (U.eraseIdx i) = A ++ (U[i].2, cont l (o ++ [j]) U[i].1) :: B := by
  have hm : U[i] ∈ U := List.getElem_mem hi
  have hUn : U.Nodup := hT.sublist hU
  have hme : ∀ t, t ∈ U.eraseIdx i ↔ t ≠ U[i] ∧ t ∈ U := fun t => mem_erase_nodup U i hi hUn
  obtain ⟨A, B, hAB⟩ := List.append_of_mem (hU.subset hm)
  have hnd := hT
  rw [hAB, List.nodup_append, List.nodup_cons] at hnd
  obtain ⟨_, ⟨h2, _⟩, h3⟩ := hnd
  have hsame : ∀ t, t ≠ U[i] → mixF l o j (U.eraseIdx i) t = mixF l o j U t := fun t ht => by
    unfold mixF
    by_cases hU' : t ∈ U
    · rw [if_pos hU', if_pos ((hme t).2 ⟨ht, hU'⟩)]
    · rw [if_neg hU', if_neg (fun h => hU' ((hme t).1 h).2)]
  refine ⟨A.map (mixF l o j U), B.map (mixF l o j U), ?_, ?_⟩
  · unfold mix
    rw [hAB, List.map_append, List.map_cons]
    congr 2
    unfold mixF
    rw [if_pos hm]
  · unfold mix
    rw [hAB, List.map_append, List.map_cons]
    have e1 : A.map (mixF l o j (U.eraseIdx i)) = A.map (mixF l o j U) := List.map_congr_left fun t ht => hsame t fun hc => h3 t ht U[i] List.mem_cons_self hc
    have e2 : B.map (mixF l o j (U.eraseIdx i)) = B.map (mixF l o j U) := List.map_congr_left fun t ht => hsame t fun hc => h2 (hc ▸ ht)
    have e3 : mixF l o j (U.eraseIdx i) U[i] = (U[i].2, cont l (o ++ [j]) U[i].1) := by
      unfold mixF
      rw [if_neg (fun h => ((hme _).1 h).1 rfl)]
    rw [e1, e2, e3]

theorem arrange_ok (w : World) (v : Value) (l : List Opn) (hl : Sl rOp w w.heap.size v l) (h16 : l.length ≤ 16) :
    OkM Tryz.prog 45 [v].toArray w (fun x : Option Addr × Nat => .tuple #[.slice x.1 (if fullB l = true then l.length else 0) x.2, .bool (fullB l)])
      (fun x => if fullB l = true then [Own x.1 l.length x.2 3 1 ((sortedL l).map (Value.int .i64))] else []) := by
  obtain ⟨A0, c0, rfl, hc, hm⟩ := len_small hl
  unfold OkM
  refine ok_enter Tryz.func45 rfl Tryz.ntmps45 rfl ?_
  focus (refine gc_seq ?_; refine gc_region ?_; apply gw_d; exact det_m rfl rfl (by conv => (lhs; whnf)); apply gw_d; exact det_m rfl rfl (by conv => (lhs; whnf)); refine gw_nil ?_; refine gx_next ?_; refine gc_seq ?_; refine gc_region ?_)
  refine gw_makeMap kInt rfl (fun bo => ?_)
  focus (apply gw_d; exact det_m rfl rfl (by conv => (lhs; whnf)); refine gw_nil ?_; refine gx_next ?_; refine gc_seq ?_; refine gc_seq ?_; refine gc_region ?_; apply gw_d; exact det_m rfl rfl (by conv => (lhs; whnf)); apply gw_d; exact w_len rfl rfl rfl; apply gw_d; exact det_m rfl rfl (by conv => (lhs; whnf)); refine gw_nil ?_; refine gx_next ?_; refine gc_block ?_)
  refine gc_maps0 ?_
  refine gc_loop (σ := Nat × List (Int × Nat)) [19, 20, 21, 22, 6, 5, 23, 24, 25, 26, 27, 28, 29, 30, 31, 32, 8, 33, 34, 35, 36, 37, 38, 18] (fun s => [(18, .int .i64 s.1)]) (fun s => [MapR bo kInt (openA s.2), MapsR (conts l [] s.2)]) (fun s => s.1 ≤ l.length ∧ s.2.map (·.1) = ixs s.1) (fun s => l.length - s.1) (0, []) ⟨Nat.zero_le _, rfl⟩ ⟨rfl, trivial⟩ (.cons (.there .here) (.cons .here .nil)) ?_
  rintro ⟨k, T⟩ base ⟨hk, hT⟩
  dsimp only at hk hT ⊢
  focus (refine gc_seq ?_; refine gc_region ?_; apply gw_d; exact det_cmp rfl rfl rfl rfl rfl; refine gw_nil ?_; refine gx_next ?_; refine gc_seq ?_)
  refine gc_if_dec rfl (fun h => ?_) (fun h => ?_)
  · have hlt : k < l.length := by omega
    obtain ⟨ad, _, hv, _, _, hb, hcell⟩ := hl.at' 5 rfl (by omega)
    injection hv with e1 e2 e3
    subst e1 e3
    obtain ⟨cs, hce, Aa, ca, Au, cu, rfl, _, q1, q2⟩ := hcell k hlt
    have ha : Sl rInt w w.heap.size (.slice Aa l[k].after.length ca) l[k].after := q1
    obtain ⟨_, _, hv, hac, ham, hacell⟩ := ha.int
    injection hv with e1 e2 e3
    subst e1 e3
    have hnew : ¬ (k : Int) ∈ (openA T).map (·.1) := by rw [openA_keys, hT, ixs_mem]; omega
    focus (refine gc_skip ?_; refine gx_next ?_; refine gc_seq ?_; refine gc_block ?_; refine gc_seq ?_; refine gc_region ?_; apply gw_d; exact det_m rfl rfl (by conv => (lhs; whnf)); apply gw_d; exact w_index rfl rfl rfl rfl (by with_reducible exact rfl) (by omega); apply gw_d; exact w_load_elem rfl rfl rfl (by assumption) (by assumption) (by rfl); refine w_alloc rfl (fun _ => ?_); apply gw_d; exact det_m rfl rfl (by conv => (lhs; whnf)); refine w_store_all rfl rfl rfl rfl rfl .here rfl ?_; refine gw_nil ?_; refine gx_next ?_; refine gc_seq ?_; refine gc_region ?_; apply gw_d; exact det_m rfl rfl (by conv => (lhs; whnf)); apply gw_d; exact det_m rfl rfl (by conv => (lhs; whnf)))
    refine gw_makeMap kInt rfl (fun b => ?_)
    refine gw_mapSet (k := (k : Int)) (v := .map (some b)) intLawC rfl rfl rfl rfl (.there (.there .here)) ?_
    rw [aset_new hnew, show openA T ++ [((k : Int), Value.map (some b))] = openA (T ++ [((k : Int), b)]) by simp [openA]]
    have hT' : (T ++ [((k : Int), b)]).map (·.1) = ixs (k + 1) := by rw [List.map_append, hT]; unfold ixs; rw [List.range_succ, List.map_append]; rfl
    have hget : aget (openA (T ++ [((k : Int), b)])) (k : Int) = some (.map (some b)) := aget_at (p := ((k : Int), .map (some b))) (by rw [openA_keys, hT']; exact ixs_nodup _) (by simp [openA])
    focus (refine gw_nil ?_; refine gx_next ?_; refine gc_seq ?_; refine gc_region ?_; apply gw_d; exact w_field rfl rfl rfl; apply gw_d; exact w_load_box rfl rfl rfl (.there (.there .here)) rfl; apply gw_d; exact w_len rfl rfl rfl; apply gw_d; exact det_m rfl rfl (by conv => (lhs; whnf)); refine gw_nil ?_; refine gx_next ?_; refine gc_block ?_)
    refine gc_loop (σ := Nat) [30, 31, 32, 8, 33, 34, 35, 36, 37, 29] (fun j => [(29, .int .i64 j)]) (fun j => [MapR b kInt (setM (l[k].after.take j)), MapR bo kInt (openA (T ++ [((k : Int), b)])), MapsR (conts l [] T)]) (fun j => j ≤ l[k].after.length) (fun j => l[k].after.length - j) 0 (Nat.zero_le _) ⟨rfl, trivial⟩ (.cons (.there .here) (.cons .here (.cons (.there .here) .nil))) ?_
    rintro j base2 hj
    focus (refine gc_seq ?_; refine gc_region ?_; apply gw_d; exact det_cmp rfl rfl rfl rfl rfl; refine gw_nil ?_; refine gx_next ?_; refine gc_seq ?_)
    refine gc_if_dec rfl (fun h2 => ?_) (fun h2 => ?_)
    · have hjl : j < l[k].after.length := by omega
      obtain ⟨ad2, rfl, hb2, hce2, _⟩ := hacell j hjl
      focus (refine gc_skip ?_; refine gx_next ?_; refine gc_seq ?_; refine gc_block ?_; refine gc_seq ?_; refine gc_region ?_; apply gw_d; exact w_index rfl rfl rfl rfl (by with_reducible exact rfl) (by omega); apply gw_d; exact w_load_at rfl rfl rfl (by assumption) (by assumption); apply gw_d; exact det_m rfl rfl (by conv => (lhs; whnf)); refine gw_nil ?_; refine gx_next ?_; refine gc_region ?_; apply gw_d; exact det_m rfl rfl (by conv => (lhs; whnf)); apply gw_d; exact det_m rfl rfl (by conv => (lhs; whnf)); apply gw_d; exact det_eq (c' := .map (some b)) (w_lookup (k := (k : Int)) intLawC rfl rfl rfl rfl (.there .here)) (by rw [hget]; rfl); apply gw_d; exact det_m rfl rfl (by conv => (lhs; whnf)))
      refine gw_mapSet (k := l[k].after[j]) (v := .bool true) intLawC rfl rfl rfl rfl .here ?_
      rw [← setM_snoc, ← List.take_succ_eq_append_getElem hjl]
      focus (refine gw_nil ?_; refine gx_block ?_; refine gx_next ?_; refine gc_region ?_; apply gw_d; exact det_ar rfl rfl rfl rfl rfl (by omega); apply gw_d; exact det_m rfl rfl (by conv => (lhs; whnf)); refine gw_nil ?_)
      exact gx_round (j + 1) hjl (by omega) (by repeat (first | exact Keeps.refl | refine Keeps.upd rfl ?_ | refine Keeps.sets rfl ?_ | refine Keeps.havoc rfl ?_)) ⟨rfl, trivial⟩ (Sub.all _)
    · obtain rfl : j = l[k].after.length := by omega
      rw [List.take_length]
      focus (refine gc_exit ?_; refine gx_then_exit ?_; refine gx_then_exit ?_; refine gx_block_exit ?_; refine gx_block ?_; refine gx_next ?_; refine gc_region ?_; apply gw_d; exact det_ar rfl rfl rfl rfl rfl (by omega); apply gw_d; exact det_m rfl rfl (by conv => (lhs; whnf)); refine gw_nil ?_)
      refine gx_roundE (k + 1, T ++ [((k : Int), b)]) ⟨hlt, hT'⟩ (by dsimp only; omega) (by repeat (first | exact Keeps.refl | refine Keeps.upd rfl ?_ | refine Keeps.sets rfl ?_ | refine Keeps.havoc rfl ?_)) ⟨rfl, trivial⟩ ?_
      refine Ent.trans (Sub.ent (.cons (.there .here) (.cons .here (.cons .here .nil)))) (Ent.cons ?_ ?_)
      · have := maps_join (A := conts l [] T) (B := []) (b := b) (c := setM l[k].after) (L := [])
        rw [List.append_nil] at this
        have hc2 : conts l [] (T ++ [((k : Int), b)]) = conts l [] T ++ [(b, setM l[k].after)] := by
          unfold conts
          rw [List.map_append]
          simp [cont_nil, afterOf_get hlt]
        dsimp only
        rw [hc2]
        exact this
      · intro q hq x hx
        rw [List.mem_singleton] at hq
        subst hq
        obtain ⟨e, he, hxe⟩ := hx
        obtain ⟨t, ht, rfl⟩ := List.mem_map.1 he
        rcases List.mem_append.1 ht with h3 | h3
        · exact ⟨_, List.mem_cons_of_mem _ List.mem_cons_self, _, List.mem_map_of_mem h3, hxe⟩
        · rw [List.mem_singleton] at h3
          subst h3
          exact ⟨_, List.mem_cons_self, hxe⟩
  obtain rfl : k = l.length := by omega
  have hA0 : Arr l [] T := ⟨by rw [hT]; symm; exact List.filter_eq_self.2 fun _ _ => rfl, by have := congrArg List.length hT; simpa [ixs] using this, rfl⟩
  focus (refine gc_exit ?_; refine gx_then_exit ?_; refine gx_then_exit ?_; refine gx_block_exit ?_; refine gx_next ?_; refine gc_seq ?_; refine gc_region ?_; apply gw_d; exact det_m rfl rfl (by conv => (lhs; whnf)); refine gw_nil ?_; refine gx_next ?_; refine gc_seq ?_; refine gc_block ?_)
  refine gc_own0 3 1 ?_
  refine gc_loop (σ := List Int × List (Int × Nat) × Option Addr × Nat) [39, 40, 41, 10, 42, 43, 44, 45, 47, 48, 49, 46, 50, 51, 11, 12, 52, 53, 54, 55, 56, 57, 58, 59, 60, 61, 62, 63, 2, 3, 64, 65, 66, 67, 68, 69, 70, 71, 14, 72, 73, 74, 75, 76, 77, 9] (fun s => [(9, .slice s.2.2.1 s.1.length s.2.2.2)])
    (fun s => [MapR bo kInt (openA s.2.1), MapsR (conts l s.1 s.2.1), Own s.2.2.1 s.1.length s.2.2.2 3 1 (s.1.map (Value.int .i64))]) (fun s => Arr l s.1 s.2.1) (fun s => s.2.1.length) ([], T, none, 0) hA0 ⟨rfl, trivial⟩ (.cons (.there .here) (.cons (.there .here) (.cons .here .nil))) ?_
  rintro ⟨o, T, A, c⟩ base3 hA
  dsimp only at hA ⊢
  have hTlen := openA_len T
  have hAl := hA.len
  focus (refine gc_seq ?_; refine gc_seq ?_; refine gc_region ?_; apply gw_d; exact det_m rfl rfl (by conv => (lhs; whnf)); apply gw_d; exact w_maplen rfl rfl rfl .here; apply gw_d; exact det_cmp rfl rfl rfl rfl rfl; refine gw_nil ?_; refine gx_next ?_)
  refine gc_if_dec rfl (fun h => ?_) (fun h => ?_)
  · focus (refine gc_skip ?_; refine gx_next ?_; refine gc_block ?_; refine gc_seq ?_; refine gc_region ?_; apply gw_d; exact det_m rfl rfl (by conv => (lhs; whnf)); refine gw_nil ?_; refine gx_next ?_; refine gc_seq ?_; refine gc_block ?_)
    refine gc_loopK (σ := Nat) [42, 43, 44, 45, 47, 48, 49, 46, 50, 51, 11, 12, 52, 53, 54, 55, 56, 57, 58, 59, 10] (fun j => [(10, .int .i64 j)]) (fun j => j ≤ l.length ∧ ∀ i, i < j → readyB l o i = false) (fun j => l.length - j) 0 ⟨Nat.zero_le _, fun i hi => by omega⟩ ⟨rfl, trivial⟩ ?_
    rintro j base4 ⟨hj, hJ⟩
    focus (refine gc_seq ?_; refine gc_seq ?_; refine gc_region ?_; apply gw_d; exact det_m rfl rfl (by conv => (lhs; whnf)); apply gw_d; exact det_m rfl rfl (by conv => (lhs; whnf)); apply gw_d; exact w_len rfl rfl rfl; apply gw_d; exact det_cmp rfl rfl rfl rfl rfl; refine gw_nil ?_; refine gx_next ?_)
    refine gc_if_dec rfl (fun h2 => ?_) (fun h2 => ?_)
    · have hjl : j < l.length := by omega
      have hsn : readyB l o j = false → ∀ i, i < j + 1 → readyB l o i = false := fun hr i hi => by
        by_cases hij : i = j
        · rw [hij]; exact hr
        · exact hJ i (by omega)
      by_cases ho : hasB o (j : Int) = false
      · obtain ⟨⟨ti, b⟩, ht, htj⟩ := List.mem_map.1 ((hA.mem hjl).2 ho)
        dsimp only at htj
        subst htj
        have hget : aget (openA T) (j : Int) = some (.map (some b)) := aget_at (p := ((j : Int), .map (some b))) (by rw [openA_keys]; exact hA.nodup) (List.mem_map_of_mem (f := fun t : Int × Nat => (t.1, Value.map (some t.2))) ht)
        have hce := cont_empty (l := l) (o := o) (i := (j : Int))
        rw [Int.toNat_natCast] at hce
        focus (refine gc_skip ?_; refine gx_next ?_; refine gc_block ?_; refine gc_seq ?_; refine gc_seq ?_; refine gc_region ?_; apply gw_d; exact det_m rfl rfl (by conv => (lhs; whnf)); apply gw_d; exact det_m rfl rfl (by conv => (lhs; whnf)); apply gw_d; exact det_eq (c' := .tuple #[.map (some b), .bool true]) (w_lookup_ok (k := (j : Int)) intLawC rfl rfl rfl rfl .here) (by rw [hget]; rfl); apply gw_d; exact det_m rfl rfl (by conv => (lhs; whnf)); apply gw_d; exact det_extract rfl rfl rfl (by conv => (lhs; whnf)); apply gw_d; exact det_extract rfl rfl rfl (by conv => (lhs; whnf)); apply gw_d; exact det_m rfl rfl (by conv => (lhs; whnf)); apply gw_d; exact det_m rfl rfl (by conv => (lhs; whnf)); refine gw_nil ?_; refine gx_next ?_; refine gc_seq ?_; refine gc_region ?_; apply gw_d; exact det_m rfl rfl (by conv => (lhs; whnf)); apply gw_d; exact det_m rfl rfl (by conv => (lhs; whnf)); apply gw_d; exact det_m rfl rfl (by conv => (lhs; whnf)); apply gw_d; exact w_maplenP (l := cont l o (j : Int)) rfl rfl rfl (fun w s => maps_read s (.there .here) (e := (b, cont l o (j : Int))) (List.mem_map_of_mem (f := fun t : Int × Nat => (t.2, cont l o t.1)) ht)); apply gw_d; exact det_cmp rfl rfl rfl rfl rfl; apply gw_d; exact det_pick_t (v := .bool _) rfl rfl rfl rfl; refine gw_nil ?_; refine gx_next ?_)
        refine gc_if_dec rfl (fun h3 => ?_) (fun h3 => ?_)
        · have hready : readyB l o j = true := by
            unfold readyB
            rw [ho, Bool.not_false, Bool.true_and]
            exact hce.1 (by omega)
          have hA2 := hA.step hjl hready hJ
          have hA2l := hA2.len
          rw [List.length_append, List.length_singleton] at hA2l
          focus (refine gc_exit ?_; refine gx_then_exit ?_; refine gx_block_other rfl ?_; refine gx_then_exit ?_; refine gx_block_exit ?_; refine gx_next ?_; refine gc_seq ?_; refine gc_seq ?_; refine gc_region ?_; apply gw_d; exact det_m rfl rfl (by conv => (lhs; whnf)); apply gw_d; exact det_m rfl rfl (by conv => (lhs; whnf)); apply gw_d; exact w_len rfl rfl rfl; apply gw_d; exact det_cmp rfl rfl rfl rfl rfl; refine gw_nil ?_; refine gx_next ?_)
          refine gc_if_dec rfl (fun h4 => by omega) (fun _ => ?_)
          focus (refine gc_skip ?_; refine gx_next ?_; refine gc_seq ?_; refine gc_region ?_; apply gw_d; exact det_m rfl rfl (by conv => (lhs; whnf)); apply gw_d; exact det_m rfl rfl (by conv => (lhs; whnf)))
          refine gw_mapDel (k := (j : Int)) intLawC rfl rfl rfl .here ?_
          have hdel : adel (openA T) (j : Int) = openA (T.filter fun t => !decide (t.1 = (j : Int))) := by
            rw [adel_filter (by rw [openA_keys]; exact hA.nodup)]
            unfold openA
            rw [List.filter_map]
            rfl
          rw [hdel]
          refine gw_ent (K := [MapR bo kInt (openA (T.filter fun t => !decide (t.1 = (j : Int)))), MapsR (conts l o (T.filter fun t => !decide (t.1 = (j : Int)))), Own A o.length c 3 1 (o.map (Value.int .i64))]) ?_ ?_
          · refine Ent.cons (maps_sub (List.filter_sublist.map _)) fun q hq x hx => ?_
            rcases List.mem_cons.1 hq with h | h
            · subst h
              obtain ⟨e, he, hxe⟩ := hx
              exact ⟨_, List.mem_cons_self, e, (List.filter_sublist.map _).subset he, hxe⟩
            · exact ⟨q, List.mem_cons_of_mem _ h, hx⟩
          generalize T.filter (fun t => !decide (t.1 = (j : Int))) = T2 at hA2 hA2l ⊢
          have hTn : T2.Nodup := (List.pairwise_map.1 hA2.nodup).imp fun h hc => h (congrArg (·.1) hc)
          rw [← mix_all l o (j : Int) T2]
          focus (refine gw_nil ?_; refine gx_next ?_; refine gc_seq ?_; refine gc_seq ?_; refine gc_region ?_; apply gw_d; exact det_m rfl rfl (by conv => (lhs; whnf)))
          refine gw_range rfl rfl .here (fun r => ?_)
          focus (refine gw_nil ?_; refine gx_next ?_; refine gc_block ?_)
          refine gc_loop (σ := List (Int × Nat) × Option (Int × Value)) [68, 69, 70, 71, 14, 72, 73] (fun _ => []) (fun s => [ItR bo r kInt (openA T2) (openA s.1) s.2, MapsR (mix l o (j : Int) T2 s.1), Own A o.length c 3 1 (o.map (Value.int .i64))]) (fun s => s.1.Sublist T2) (fun s => s.1.length) (T2, none) (List.Sublist.refl _) trivial (Sub.all _) ?_
          rintro ⟨U, cur⟩ base5 hU
          dsimp only at hU ⊢
          focus (refine gc_seq ?_; refine gc_region ?_)
          refine gw_next rfl rfl .here (fun hU0 => ?_) (fun i hi => ?_)
          · have hU1 : U = [] := by
              have := congrArg List.length hU0
              rw [openA_len] at this
              exact List.eq_nil_of_length_eq_zero this
            subst hU1
            rw [mix_none]
            focus (apply gw_d; exact det_extract rfl rfl rfl (by conv => (lhs; whnf)); refine gw_nil ?_; refine gx_next ?_; refine gc_seq ?_)
            refine gc_if_false rfl ?_
            focus (refine gc_exit ?_; refine gx_then_exit ?_; refine gx_then_exit ?_; refine gx_block_exit ?_; refine gx_next ?_; refine gc_region ?_; apply gw_d; exact det_m rfl rfl (by conv => (lhs; whnf)); apply gw_d; exact det_m rfl rfl (by conv => (lhs; whnf)))
            refine gw_bslice1 (v := .int .i64 (j : Int)) rfl rfl rfl rfl rfl (fun bb => ?_)
            refine gw_append (news := [.int .i64 (j : Int)]) rfl rfl rfl (.there (.there (.there .here))) rfl (fun w' s _ => ?_) (fun u hu => ?_) (by unfold maxLen; omega) (by omega) (by decide) rfl (fun A2 c3 => ?_)
            · refine ⟨⟨bb, 0, none⟩, rfl, fun i u hu => ?_⟩
              rw [add_zero]
              refine (Box.cell s.head i).trans ?_
              change (#[Value.int .i64 (j : Int)] : Array Value)[i]? = some u
              rw [List.getElem?_toArray]
              exact hu
            · rw [List.mem_singleton] at hu
              subst hu
              rfl
            · focus (apply gw_d; exact det_m rfl rfl (by conv => (lhs; whnf)); refine gw_nil ?_; refine gx_block ?_)
              refine gx_roundE (o ++ [(j : Int)], T2, A2, c3) hA2 (by dsimp only; omega) (by repeat (first | exact Keeps.refl | refine Keeps.upd rfl ?_ | refine Keeps.sets rfl ?_ | refine Keeps.havoc rfl ?_)) ⟨by rw [List.length_append]; rfl, trivial⟩ ?_
              dsimp only
              rw [List.length_append, List.map_append]
              exact Ent.trans (Sub.ent (.cons (.there (.there .here)) (.cons (.there (.there .here)) (.cons .here .nil)))) ItR.done
          · have hi' : i < U.length := by rw [openA_len] at hi; exact hi
            have hUi : (openA U)[i] = (U[i].1, Value.map (some U[i].2)) := by simp [openA]
            have herase : (openA U).eraseIdx i = openA (U.eraseIdx i) := (ChangeMaps.map_eraseIdx _ _ _).symm
            obtain ⟨MA, MB, hm1, hm2⟩ := mix_at (l := l) (o := o) (j := (j : Int)) hTn hU hi'
            rw [hUi, herase, hm1]
            focus (apply gw_d; exact det_extract rfl rfl rfl (by conv => (lhs; whnf)); refine gw_nil ?_; refine gx_next ?_; refine gc_seq ?_)
            refine gc_if_true rfl ?_
            focus (refine gc_skip ?_; refine gx_next ?_; refine gc_block ?_; refine gc_seq ?_; refine gc_region ?_; apply gw_d; exact w_entry rfl rfl rfl .here; apply gw_d; exact det_extract rfl rfl rfl (by conv => (lhs; whnf)); apply gw_d; exact det_m rfl rfl (by conv => (lhs; whnf)); refine gw_nil ?_; refine gx_next ?_; refine gc_region ?_; apply gw_d; exact det_m rfl rfl (by conv => (lhs; whnf)); apply gw_d; exact det_m rfl rfl (by conv => (lhs; whnf)))
            refine gw_ent (Ent.trans (Sub.ent (.cons (.there .here) (.cons .here (.cons .here .nil)))) maps_split) ?_
            refine gw_mapDel (k := (j : Int)) intLawC rfl rfl rfl .here ?_
            rw [cont_del]
            focus (refine gw_nil ?_; refine gx_block ?_)
            refine gx_roundE (U.eraseIdx i, some (U[i].1, Value.map (some U[i].2))) ((List.eraseIdx_sublist _ _).trans hU) (by dsimp only; rw [List.length_eraseIdx_of_lt hi']; omega) (by repeat (first | exact Keeps.refl | refine Keeps.upd rfl ?_ | refine Keeps.sets rfl ?_ | refine Keeps.havoc rfl ?_)) trivial ?_
            dsimp only
            rw [hm2]
            exact Ent.trans maps_join (Sub.ent (.cons (.there .here) (.cons .here (.cons .here .nil))))
        · focus (refine gc_skip ?_; refine gx_next ?_; refine gc_region ?_; apply gw_d; exact det_m rfl rfl (by conv => (lhs; whnf)); apply gw_d; exact det_ar rfl rfl rfl rfl rfl (by omega); apply gw_d; exact det_m rfl rfl (by conv => (lhs; whnf)); refine gw_nil ?_; refine gx_block ?_)
          refine gx_round (j + 1) ⟨by omega, hsn ?_⟩ (by omega) (by repeat (first | exact Keeps.refl | refine Keeps.upd rfl ?_ | refine Keeps.sets rfl ?_ | refine Keeps.havoc rfl ?_)) ⟨rfl, trivial⟩ (Sub.all _)
          unfold readyB
          rw [ho, Bool.not_false, Bool.true_and, ← Bool.not_eq_true]
          exact fun hc => h3 (by have := hce.2 hc; omega)
      · have hget : aget (openA T) (j : Int) = none := aget_out (by rw [openA_keys, hA.mem hjl]; exact ho)
        focus (refine gc_skip ?_; refine gx_next ?_; refine gc_block ?_; refine gc_seq ?_; refine gc_seq ?_; refine gc_region ?_; apply gw_d; exact det_m rfl rfl (by conv => (lhs; whnf)); apply gw_d; exact det_m rfl rfl (by conv => (lhs; whnf)); apply gw_d; exact det_eq (c' := .tuple #[.map none, .bool false]) (w_lookup_ok (k := (j : Int)) intLawC rfl rfl rfl rfl .here) (by rw [hget]; rfl); apply gw_d; exact det_m rfl rfl (by conv => (lhs; whnf)); apply gw_d; exact det_extract rfl rfl rfl (by conv => (lhs; whnf)); apply gw_d; exact det_extract rfl rfl rfl (by conv => (lhs; whnf)); apply gw_d; exact det_m rfl rfl (by conv => (lhs; whnf)); apply gw_d; exact det_m rfl rfl (by conv => (lhs; whnf)); refine gw_nil ?_; refine gx_next ?_; refine gc_seq ?_; refine gc_region ?_; apply gw_d; exact det_m rfl rfl (by conv => (lhs; whnf)); apply gw_d; exact det_m rfl rfl (by conv => (lhs; whnf)); apply gw_d; exact det_not rfl; apply gw_d; exact det_not rfl; apply gw_d; exact det_not rfl; apply gw_d; exact det_pick_f (v := .bool _) rfl rfl rfl rfl; refine gw_nil ?_; refine gx_next ?_; refine gc_if_false rfl ?_; refine gc_skip ?_; refine gx_next ?_; refine gc_region ?_; apply gw_d; exact det_m rfl rfl (by conv => (lhs; whnf)); apply gw_d; exact det_ar rfl rfl rfl rfl rfl (by omega); apply gw_d; exact det_m rfl rfl (by conv => (lhs; whnf)); refine gw_nil ?_; refine gx_block ?_)
        refine gx_round (j + 1) ⟨by omega, hsn ?_⟩ (by omega) (by repeat (first | exact Keeps.refl | refine Keeps.upd rfl ?_ | refine Keeps.sets rfl ?_ | refine Keeps.havoc rfl ?_)) ⟨rfl, trivial⟩ (Sub.all _)
        unfold readyB
        rw [Bool.not_eq_false] at ho
        rw [ho]
        rfl
    · obtain rfl : j = l.length := by omega
      have hnone : nextOf l o = none := List.find?_eq_none.2 fun i hi => by rw [hJ i (List.mem_range.1 hi)]; decide
      have hso : sortedL l = o := by rw [← hA.arr, arr_end hnone]
      have hfull : fullB l = false := by unfold fullB; rw [hso]; exact decide_eq_false (by omega)
      focus (refine gc_exit ?_; refine gx_then_exit ?_; refine gx_then_exit ?_; refine gx_block_exit ?_; refine gx_next ?_; refine gc_seq ?_; refine gc_seq ?_; refine gc_region ?_; apply gw_d; exact det_m rfl rfl (by conv => (lhs; whnf)); apply gw_d; exact det_m rfl rfl (by conv => (lhs; whnf)); apply gw_d; exact w_len rfl rfl rfl; apply gw_d; exact det_cmp rfl rfl rfl rfl rfl; refine gw_nil ?_; refine gx_next ?_)
      refine gc_if_dec rfl (fun _ => ?_) (fun h4 => absurd rfl h4)
      focus (refine gc_seq ?_; refine gc_region ?_; apply gw_d; exact det_m rfl rfl (by conv => (lhs; whnf)); apply gw_d; exact det_m rfl rfl (by conv => (lhs; whnf)); refine gw_nil ?_; refine gx_next ?_; refine gc_ret ?_; refine gx_then_ret ?_; refine gx_block_ret ?_; refine gx_then_ret ?_; refine gx_block_ret ?_; refine gx_then_ret ?_)
      refine gx_ret2 (u := .slice _ _ _) (v := .bool _) rfl rfl rfl (fun w' s => ⟨(none, 0), ?_, ?_⟩)
      · rw [hfull]; rfl
      · rw [hfull]; exact trivial
  · have hT0 : T.length = 0 := by omega
    have hso : sortedL l = o := by rw [← hA.arr, show l.length - o.length = 0 by omega]; rfl
    have hfull : fullB l = true := by unfold fullB; rw [hso]; exact decide_eq_true (by omega)
    have hol : o.length = l.length := by omega
    focus (refine gc_exit ?_; refine gx_then_exit ?_; refine gx_then_exit ?_; refine gx_block_exit ?_; refine gx_next ?_; refine gc_seq ?_; refine gc_region ?_; apply gw_d; exact det_m rfl rfl (by conv => (lhs; whnf)); apply gw_d; exact det_m rfl rfl (by conv => (lhs; whnf)); apply gw_d; exact det_m rfl rfl (by conv => (lhs; whnf)); refine gw_nil ?_; refine gx_next ?_; refine gc_ret ?_)
    refine gx_ret2 (u := .slice _ _ _) (v := .bool _) rfl rfl rfl (fun w' s => ⟨(A, c), ?_, ?_⟩)
    · rw [if_pos hfull, hfull, hol]
    · rw [if_pos hfull, hso, ← hol]
      exact (s.sub (.cons (.there (.there .here)) .nil)).sep
end Go.Proofs.YteiboodeepjanaaGreat
