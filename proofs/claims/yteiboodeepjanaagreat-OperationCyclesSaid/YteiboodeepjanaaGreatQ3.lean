/- Plain facts: a predecessor added to a sound list gives a cycle exactly if it is the operation itself or follows it. No program in sight. -/
import Derived.Test.YteiboodeepjanaaGreatQ2
namespace Go.Proofs.YteiboodeepjanaaGreat
open Go.RowKit

theorem arr_stop (l : List Opn) : ∀ (f : Nat) (o : List Int), (arr l f o).length = o.length + f ∨ nextOf l (arr l f o) = none
  | 0, o => .inl rfl
  | f + 1, o => by
    cases hn : nextOf l o with
    | none => right; rw [arr_end hn]; exact hn
    | some j =>
      rw [arr_step hn]
      rcases arr_stop l f (o ++ [(j : Int)]) with h | h
      · left; rw [h, List.length_append]; simp; omega
      · exact .inr h
theorem full_of_rank {l : List Opn} (r : Nat → Nat) (h : ∀ i, i < l.length → ∀ p ∈ afterOf l i, (0 ≤ p ∧ p < l.length) ∧ r p.toNat < r i) : (sortedL l).length = l.length := by
  rcases arr_stop l l.length [] with h1 | h1
  · exact h1.trans (by simp)
  · have hno : ∀ j, j < l.length → readyB l (sortedL l) j = false := fun j hj => by
      have := List.find?_eq_none.1 h1 j (List.mem_range.2 hj)
      exact (by simpa using this : readyB l (arr l l.length []) j = false)
    have hall : ∀ n j, r j ≤ n → j < l.length → (j : Int) ∈ sortedL l := by
      intro n
      induction n using Nat.strongRecOn with
      | ind n ih =>
        intro j hjn hj
        have h2 := hno j hj
        unfold readyB at h2
        have h3 : (afterOf l j).all (hasB (sortedL l)) = true := by
          rw [List.all_eq_true]
          intro p hp
          obtain ⟨hpr, hlt⟩ := h j hj p hp
          have := ih (r p.toNat) (by omega) p.toNat (Nat.le_refl _) (by omega)
          rw [hasB_iff]
          rw [show ((p.toNat : Nat) : Int) = p by omega] at this
          exact this
        rw [h3, Bool.and_true] at h2
        refine hasB_iff.1 ?_
        simpa using h2
    have hp : (sortedL l).Perm (ixs l.length) := by
      rw [List.perm_ext_iff_of_nodup (sorted_nodup l) (ixs_nodup _)]
      intro x
      constructor
      · intro hx; exact ixs_mem.2 (sorted_mem x hx)
      · intro hx
        have hx := ixs_mem.1 hx
        have := hall _ x.toNat (Nat.le_refl _) (by omega)
        rw [show ((x.toNat : Nat) : Int) = x by omega] at this
        exact this
    rw [hp.length_eq]
    simp [ixs]

def rk (l : List Opn) (i : Nat) : Nat := (sortedL l).idxOf (i : Int)
theorem rk_at {l : List Opn} {i k : Nat} (hk : k < (sortedL l).length) (h : (sortedL l)[k] = (i : Int)) : rk l i = k := by
  have hm : (i : Int) ∈ sortedL l := h ▸ List.getElem_mem hk
  have h1 : rk l i < (sortedL l).length := List.idxOf_lt_length_of_mem hm
  refine sorted_inj h1 hk ?_
  rw [h]
  exact List.getElem_idxOf h1
theorem rk_lt {l : List Opn} (hG : Good l) {i : Nat} (hi : i < l.length) : rk l i < l.length := by
  obtain ⟨k, hk, he⟩ := hG.all hi
  rw [rk_at hk he]
  have := hG.full
  omega
theorem rk_edge {l : List Opn} (hG : Good l) {i : Nat} (hi : i < l.length) {p : Int} (hp : p ∈ afterOf l i) : rk l p.toNat < rk l i := by
  obtain ⟨k, hk, he⟩ := hG.all hi
  have h1 := sorted_after hk p (by rw [he]; exact hp)
  obtain ⟨q, hq, hqe⟩ := List.getElem_of_mem h1
  rw [List.length_take] at hq
  rw [List.getElem_take] at hqe
  have hpr := hG.after i p hp
  rw [rk_at hk he, rk_at (i := p.toNat) (k := q) (by omega) (by rw [hqe]; omega)]
  omega

def adds (l : List Opn) (a : Nat) (b : Int) : List Opn := match l[a]? with
  | some o => l.set a { o with after := o.after ++ [b] }
  | none => l
theorem adds_eq {l : List Opn} {a : Nat} {b : Int} (ha : a < l.length) : adds l a b = l.set a { l[a] with after := l[a].after ++ [b] } := by
  unfold adds
  rw [List.getElem?_eq_getElem ha]
theorem adds_len {l : List Opn} {a : Nat} {b : Int} (ha : a < l.length) : (adds l a b).length = l.length := by rw [adds_eq ha]; simp
theorem adds_after {l : List Opn} {a : Nat} {b : Int} (ha : a < l.length) (i : Nat) : afterOf (adds l a b) i = if i = a then l[a].after ++ [b] else afterOf l i := by
  unfold afterOf
  rw [adds_eq ha, List.getElem?_set]
  by_cases h : a = i
  · subst h; simp [ha]
  · rw [if_neg h, if_neg (fun h' => h h'.symm)]
theorem adds_names {l : List Opn} {a : Nat} {b : Int} (ha : a < l.length) : (adds l a b).map (·.name) = l.map (·.name) := by
  rw [adds_eq ha, List.map_set]
  refine List.ext_getElem (by simp) fun i h1 h2 => ?_
  rw [List.getElem_set]
  split
  · rename_i h; subst h; simp
  · rfl
theorem any_names (l : List Opn) (i : Nat) (nm : ByteArray) : ((l.take i).any fun x => eqS x.name nm) = ((l.map (·.name)).take i).any fun x => eqS x nm := by
  rw [← List.map_take, List.any_map]
  rfl
theorem dup_add {x : List Int} {b : Int} (h : dupL x x.length = false) (hb : ¬ b ∈ x) : dupL (x ++ [b]) (x ++ [b]).length = false := by
  rw [List.length_append]
  refine dupL_snoc (l := x ++ [b]) (k := x.length) (by simp) ?_ ?_
  · rw [← h]
    unfold dupL
    rw [Bool.eq_iff_iff, List.any_eq_true, List.any_eq_true]
    have : ∀ i, i < x.length → (x ++ [b])[i]? = x[i]? ∧ (x ++ [b]).take i = x.take i := fun i hi => ⟨List.getElem?_append_left hi, List.take_append_of_le_length (by omega)⟩
    constructor
    · rintro ⟨i, hi, h2⟩
      obtain ⟨e1, e2⟩ := this i (List.mem_range.1 hi)
      rw [e1, e2] at h2
      exact ⟨i, hi, h2⟩
    · rintro ⟨i, hi, h2⟩
      obtain ⟨e1, e2⟩ := this i (List.mem_range.1 hi)
      refine ⟨i, hi, ?_⟩
      rw [e1, e2]
      exact h2
  · rw [List.take_append_of_le_length (Nat.le_refl _), List.take_length, List.getElem_append_right (Nat.le_refl _), hasB_false]
    simpa using hb
theorem adds_op {l : List Opn} {a b : Nat} (hG : Good l) (ha : a < l.length) (hb : b < l.length) (hn : ¬ (b : Int) ∈ l[a].after) : ∀ i, i < l.length → opE (adds l a b) (-1) i = 0 := fun i hi => by
  have h1 := hG.op i hi
  unfold opE at h1 ⊢
  have hlen := adds_len (b := (b : Int)) ha
  rw [List.getElem?_eq_getElem hi] at h1
  have hget : (adds l a b)[i]? = some (if a = i then { l[a] with after := l[a].after ++ [(b : Int)] } else l[i]) := by
    rw [adds_eq ha, List.getElem?_set]
    split
    · rename_i h; subst h; simp [ha]
    · rw [List.getElem?_eq_getElem hi]
  rw [hget, hlen]
  clear hget
  dsimp only at h1 ⊢
  rw [any_names] at h1 ⊢
  rw [adds_names ha]
  by_cases h : a = i
  · subst h
    rw [if_pos rfl]
    dsimp only
    split at h1
    · cases h1
    · rename_i g1
      rw [if_neg g1]
      split at h1
      · cases h1
      · rename_i g2
        rw [if_neg g2]
        split at h1
        · cases h1
        · rename_i g3
          rw [if_neg g3]
          split at h1
          · cases h1
          · rename_i g4
            split at h1
            · cases h1
            · rename_i g5
              have h4 : areIx l[a].after l.length = true := by
                cases hx : areIx l[a].after l.length with
                | true => rfl
                | false => exact absurd (.inl hx) g4
              have h5 : dupL l[a].after l[a].after.length = false := by
                cases hx : dupL l[a].after l[a].after.length with
                | false => rfl
                | true => exact absurd (.inl hx) g5
              have h6 : areIx (l[a].after ++ [(b : Int)]) l.length = true := by
                unfold areIx at h4 ⊢
                rw [List.all_append, h4]
                simp [hb]
              rw [if_neg (by rw [h6]; simp), if_neg (by rw [dup_add h5 hn]; simp)]
  · rw [if_neg h]
    exact h1
theorem cycle_law {l : List Opn} {a b : Nat} (he : listE l (-1) = 0) (ha : a < l.length) (hb : b < l.length) (hop : ∀ i, i < l.length → opE (adds l a b) (-1) i = 0) :
    listE (adds l a b) (-1) = if a = b ∨ bit (precs l a (sortedL l)) b = true then 9 else 0 := by
  have hG := list_good he
  have h16 := hG.le
  have hlen := adds_len (b := (b : Int)) ha
  have hf : firstE (opE (adds l a b) (-1)) (adds l a b).length = 0 := by
    rw [hlen]
    suffices ∀ n, n ≤ l.length → firstE (opE (adds l a b) (-1)) n = 0 from this _ (Nat.le_refl _)
    intro n
    induction n with
    | zero => intro _; rfl
    | succ n ih => intro hn; exact firstE_snoc (ih (by omega)) (hop n (by omega))
  have hE : listE (adds l a b) (-1) = if fullB (adds l a b) = true then 0 else 9 := by
    unfold listE
    rw [if_neg (by omega), if_neg (by rw [hf]; decide)]
  have haf := adds_after (b := (b : Int)) ha
  have hedge : (b : Int) ∈ afterOf (adds l a b) a := by rw [haf, if_pos rfl]; simp
  have hmore : ∀ i p, p ∈ afterOf l i → p ∈ afterOf (adds l a b) i := fun i p hp => by
    rw [haf]
    split
    · rename_i h; subst h; rw [afterOf_get ha] at hp; exact List.mem_append_left _ hp
    · exact hp
  rw [hE]
  by_cases hc : a = b ∨ bit (precs l a (sortedL l)) b = true
  · rw [if_pos hc, if_neg]
    intro hfull
    have hG2 : Good (adds l a b) := ⟨by omega, fun i hi => hop i (by omega), of_decide_eq_true hfull⟩
    have h1 := rk_edge hG2 (by omega) hedge
    rw [Int.toNat_natCast] at h1
    rcases hc with hc | hc
    · subst hc; omega
    · have hall : ∀ n j, rk (adds l a b) j ≤ n → j < l.length → bit (precs l a (sortedL l)) j = true → rk (adds l a b) a < rk (adds l a b) j := by
        intro n
        induction n using Nat.strongRecOn with
        | ind n ih =>
          intro j hjn hj hbit
          rw [prec_eq hG a hj, List.any_eq_true] at hbit
          obtain ⟨p, hp, hpa⟩ := hbit
          have hpr := hG.after j p hp
          have h2 := rk_edge hG2 (by omega) (hmore j p hp)
          rw [Bool.or_eq_true, decide_eq_true_eq] at hpa
          rcases hpa with hpa | hpa
          · rw [hpa, Int.toNat_natCast] at h2; exact h2
          · have := ih (rk (adds l a b) p.toNat) (by omega) p.toNat (Nat.le_refl _) (by omega) hpa
            omega
      have := hall _ b (Nat.le_refl _) hb hc
      omega
  · rw [if_neg hc, if_pos]
    refine decide_eq_true (full_of_rank (fun i => rk l i + if i = a ∨ bit (precs l a (sortedL l)) i = true then l.length else 0) fun i hi p hp => ?_)
    rw [hlen] at hi ⊢
    have hold : ∀ p, p ∈ afterOf l i → (0 ≤ p ∧ p < l.length) ∧ (rk l p.toNat + if p.toNat = a ∨ bit (precs l a (sortedL l)) p.toNat = true then l.length else 0) < (rk l i + if i = a ∨ bit (precs l a (sortedL l)) i = true then l.length else 0) := fun p hp => by
      have hpr := hG.after i p hp
      have h2 := rk_edge hG hi hp
      refine ⟨hpr, ?_⟩
      by_cases hP : p.toNat = a ∨ bit (precs l a (sortedL l)) p.toNat = true
      · have hI : bit (precs l a (sortedL l)) i = true := by
          rw [prec_eq hG a hi, List.any_eq_true]
          refine ⟨p, hp, ?_⟩
          rw [Bool.or_eq_true, decide_eq_true_eq]
          rcases hP with hP | hP
          · left; omega
          · exact .inr hP
        rw [if_pos hP, if_pos (.inr hI)]
        omega
      · rw [if_neg hP]
        omega
    rw [haf] at hp
    split at hp
    · rename_i h
      subst h
      rcases List.mem_append.1 hp with hp | hp
      · exact hold p (by rw [afterOf_get ha]; exact hp)
      · rw [List.mem_singleton] at hp
        subst hp
        have := rk_lt hG hb
        rw [Int.toNat_natCast, if_neg (fun h => hc (h.imp Eq.symm id)), if_pos (.inl rfl)]
        omega
    · exact hold p hp
end Go.Proofs.YteiboodeepjanaaGreat
