/- Plain facts on the order and on precedence. No program in sight. -/
import Derived.Test.YteiboodeepjanaaGreatC28
namespace Go.Proofs.YteiboodeepjanaaGreat
open Go.RowKit

theorem arr_full {l : List Opn} : ∀ (f : Nat) (o : List Int) (T : List (Int × Nat)), Arr l o T → f = l.length - o.length → ∃ T', Arr l (arr l f o) T'
  | 0, o, T, h, _ => ⟨T, h⟩
  | f + 1, o, T, h, hf => by
    cases hn : nextOf l o with
    | none => rw [arr_end hn]; exact ⟨T, h⟩
    | some i =>
      rw [arr_step hn]
      have hn' := hn
      unfold nextOf at hn'
      rw [List.find?_range_eq_some] at hn'
      have h2 := h.step (List.mem_range.1 hn'.2.1) hn'.1 fun j hj => by simpa using hn'.2.2 j hj
      exact arr_full f _ _ h2 (by simp; omega)
theorem sorted_arr (l : List Opn) : ∃ T, Arr l (sortedL l) T := by
  refine arr_full l.length [] ((ixs l.length).map fun i => (i, 0)) ⟨?_, by simp [ixs], rfl⟩ rfl
  rw [List.map_map]
  have : ((fun t : Int × Nat => t.1) ∘ fun i : Int => (i, 0)) = id := rfl
  rw [this, List.map_id]
  symm
  exact List.filter_eq_self.2 fun _ _ => rfl
theorem Good.all {l : List Opn} (h : Good l) {b : Nat} (hb : b < l.length) : ∃ k, ∃ hk : k < (sortedL l).length, (sortedL l)[k] = (b : Int) := by
  obtain ⟨T, hT⟩ := sorted_arr l
  have h1 := hT.len
  have h2 := h.full
  have h3 : T = [] := List.eq_nil_of_length_eq_zero (by omega)
  subst h3
  have h4 : hasB (sortedL l) (b : Int) = true := by
    cases hb' : hasB (sortedL l) (b : Int) with
    | true => rfl
    | false => have := (hT.mem hb).2 hb'; cases this
  obtain ⟨k, hk, he⟩ := List.getElem_of_mem (hasB_iff.1 h4)
  exact ⟨k, hk, he⟩
theorem sorted_new {l : List Opn} {k : Nat} (hk : k < (sortedL l).length) : ¬ (sortedL l)[k] ∈ (sortedL l).take k := by
  obtain ⟨i, h1, _, h3, _⟩ := sorted_at hk
  unfold readyB at h3
  rw [Bool.and_eq_true] at h3
  have : hasB ((sortedL l).take k) (i : Int) = false := by simpa using h3.1
  rw [h1]
  exact hasB_false.1 this
theorem sorted_after {l : List Opn} {k : Nat} (hk : k < (sortedL l).length) : ∀ p ∈ afterOf l (sortedL l)[k].toNat, p ∈ (sortedL l).take k := by
  obtain ⟨i, h1, _, h3, _⟩ := sorted_at hk
  unfold readyB at h3
  rw [Bool.and_eq_true] at h3
  intro p hp
  rw [h1, Int.toNat_natCast] at hp
  exact hasB_iff.1 (List.all_eq_true.1 h3.2 p hp)

/-! ### Precedence: an equation -/
def bit (bs : List Bool) (i : Nat) : Bool := bs.getD i false
theorem bit_set {bs : List Bool} {i j : Nat} {v : Bool} (hi : i < bs.length) : bit (bs.set i v) j = if i = j then v else bit bs j := by
  unfold bit
  by_cases h : i = j
  · subst h; simp [hi]
  · simp [h]
theorem precIn_other {a : Int} {i : Nat} (ps : List Int) : ∀ (bs : List Bool), i < bs.length → ∀ j, j ≠ i → bit (precIn a i bs ps) j = bit bs j := by
  induction ps with
  | nil => intro bs _ j _; rfl
  | cons p ps ih =>
    intro bs hi j hj
    have h1 := ih (precStep a i bs p) (by rw [precStep_len]; exact hi) j hj
    refine h1.trans ?_
    unfold precStep
    split
    · rw [bit_set hi, if_neg (fun h => hj h.symm)]
    · rfl
theorem precIn_self {a : Int} {i : Nat} (ps : List Int) : ∀ (bs : List Bool), i < bs.length → (∀ p ∈ ps, p.toNat ≠ i) → bit (precIn a i bs ps) i = (bit bs i || ps.any fun p => decide (p = a) || bit bs p.toNat) := by
  induction ps with
  | nil => intro bs _ _; simp [precIn]
  | cons p ps ih =>
    intro bs hi hp
    have hpi := hp p List.mem_cons_self
    have h1 := ih (precStep a i bs p) (by rw [precStep_len]; exact hi) (fun q hq => hp q (List.mem_cons_of_mem _ hq))
    have h2 : ∀ q : Int, q.toNat ≠ i → bit (precStep a i bs p) q.toNat = bit bs q.toNat := fun q hq => by
      unfold precStep
      split
      · rw [bit_set hi, if_neg (fun h => hq h.symm)]
      · rfl
    have h3 : (ps.any fun q => decide (q = a) || bit (precStep a i bs p) q.toNat) = ps.any fun q => decide (q = a) || bit bs q.toNat := by
      rw [Bool.eq_iff_iff, List.any_eq_true, List.any_eq_true]
      constructor
      · rintro ⟨q, hq, h⟩; exact ⟨q, hq, by rwa [h2 q (hp q (List.mem_cons_of_mem _ hq))] at h⟩
      · rintro ⟨q, hq, h⟩; exact ⟨q, hq, by rwa [h2 q (hp q (List.mem_cons_of_mem _ hq))]⟩
    have h4 : bit (precStep a i bs p) i = (bit bs i || (decide (p = a) || bit bs p.toNat)) := by
      unfold precStep
      by_cases hc : p = a ∨ bs.getD p.toNat false = true
      · rw [if_pos hc, bit_set hi, if_pos rfl]
        have : (decide (p = a) || bit bs p.toNat) = true := by
          rw [Bool.or_eq_true, decide_eq_true_eq]
          exact hc
        rw [this]; simp
      · rw [if_neg hc]
        have h5 : ¬ p = a := fun h => hc (.inl h)
        have h6 : bit bs p.toNat = false := by
          unfold bit
          rw [← Bool.not_eq_true]
          exact fun h => hc (.inr h)
        simp [h5, h6]
    show bit (precIn a i (precStep a i bs p) ps) i = _
    rw [h1, h3, h4, List.any_cons, Bool.or_assoc]

theorem precs_later {l : List Opn} {a : Int} (hG : Good l) {j : Nat} : ∀ (m k : Nat) (_ : k ≤ m) (_ : m ≤ (sortedL l).length), (∀ q (hq : q < (sortedL l).length), k ≤ q → q < m → (sortedL l)[q].toNat ≠ j) → bit (precs l a ((sortedL l).take m)) j = bit (precs l a ((sortedL l).take k)) j
  | 0, k, hk, _, _ => by
    have : k = 0 := by omega
    rw [this]
  | m + 1, k, hk, hm, hq => by
    by_cases he : k = m + 1
    · rw [he]
    · rw [← precs_later hG m k (by omega) (by omega) fun q hq1 h1 h2 => hq q hq1 h1 (by omega)]
      have hml : m < (sortedL l).length := by omega
      have hr := sorted_mem (l := l) _ (List.getElem_mem hml)
      rw [precs_snoc hml, precIn_other _ _ (by rw [precs_len]; omega) j (fun h => hq m hml (by omega) (by omega) h.symm)]
theorem sorted_inj {l : List Opn} {k m : Nat} (hk : k < (sortedL l).length) (hm : m < (sortedL l).length) (h : (sortedL l)[k] = (sortedL l)[m]) : k = m := by
  rcases Nat.lt_trichotomy k m with h1 | h1 | h1
  · exact absurd (by rw [← h, List.mem_take_iff_getElem]; exact ⟨k, by omega, rfl⟩) (sorted_new hm)
  · exact h1
  · exact absurd (by rw [h, List.mem_take_iff_getElem]; exact ⟨m, by omega, rfl⟩) (sorted_new hk)
/-- What precedes b precedes it directly, or precedes a direct predecessor. -/
theorem prec_eq {l : List Opn} (hG : Good l) (a : Int) {b : Nat} (hb : b < l.length) : bit (precs l a (sortedL l)) b = (afterOf l b).any fun p => decide (p = a) || bit (precs l a (sortedL l)) p.toNat := by
  obtain ⟨k, hk, he⟩ := hG.all hb
  have hne : ∀ q (hq : q < (sortedL l).length), q ≠ k → (sortedL l)[q].toNat ≠ b := fun q hq h1 h2 => by
    have hr := sorted_mem (l := l) _ (List.getElem_mem hq)
    have : (sortedL l)[q] = (sortedL l)[k] := by rw [he]; omega
    exact h1 (sorted_inj hq hk this)
  have hfin : ∀ j m, m ≤ (sortedL l).length → (∀ q (hq : q < (sortedL l).length), m ≤ q → (sortedL l)[q].toNat ≠ j) → bit (precs l a (sortedL l)) j = bit (precs l a ((sortedL l).take m)) j := fun j m hm hq => by
    have := precs_later (a := a) hG (j := j) (sortedL l).length m hm (Nat.le_refl _) fun q hq1 h1 _ => hq q hq1 h1
    rwa [List.take_length] at this
  have hb1 := hfin b (k + 1) (by omega) fun q hq h1 => hne q hq (by omega)
  have hb0 : bit (precs l a ((sortedL l).take k)) b = false := by
    have := precs_later (a := a) hG (j := b) k 0 (Nat.zero_le _) (by omega) fun q hq1 h1 h2 => hne q hq1 (by omega)
    rw [this]
    show (List.replicate l.length false).getD b false = false
    simp [hb]
  have haft := sorted_after hk
  rw [he, Int.toNat_natCast] at haft
  have hold : ∀ p ∈ afterOf l b, p.toNat ≠ b ∧ bit (precs l a ((sortedL l).take k)) p.toNat = bit (precs l a (sortedL l)) p.toNat := fun p hp => by
    have hm := haft p hp
    rw [List.mem_take_iff_getElem] at hm
    obtain ⟨q, hq, hqp⟩ := hm
    have hr := hG.after b p hp
    refine ⟨fun h => ?_, (hfin p.toNat k (by omega) fun q' hq' h1 h2 => ?_).symm⟩
    · exact hne q (by omega) (by omega) (by rw [hqp]; exact h)
    · have hr' := sorted_mem (l := l) _ (List.getElem_mem hq')
      have := sorted_inj hq' (m := q) (by omega) (by rw [hqp]; omega)
      omega
  rw [hb1, precs_snoc hk, he, Int.toNat_natCast, precIn_self _ _ (by rw [precs_len]; exact hb) (fun p hp => (hold p hp).1), hb0, Bool.false_or, Bool.eq_iff_iff, List.any_eq_true, List.any_eq_true]
  constructor
  · rintro ⟨p, hp, h⟩; exact ⟨p, hp, by rwa [(hold p hp).2] at h⟩
  · rintro ⟨p, hp, h⟩; exact ⟨p, hp, by rwa [(hold p hp).2]⟩
/-- What precedes stands before. -/
theorem prec_before {l : List Opn} (hG : Good l) (a : Int) : ∀ (k : Nat) (hk : k < (sortedL l).length), bit (precs l a (sortedL l)) (sortedL l)[k].toNat = true → a ∈ (sortedL l).take k := by
  intro k
  induction k using Nat.strongRecOn with
  | _ k ih =>
    intro hk h
    have hr := sorted_mem (l := l) _ (List.getElem_mem hk)
    rw [prec_eq hG a (by omega), List.any_eq_true] at h
    obtain ⟨p, hp, h⟩ := h
    have hm := sorted_after hk p hp
    rw [Bool.or_eq_true, decide_eq_true_eq] at h
    rcases h with h | h
    · rw [← h]; exact hm
    · rw [List.mem_take_iff_getElem] at hm
      obtain ⟨q, hq, rfl⟩ := hm
      have h2 := ih q (by omega) (by omega) h
      rw [List.mem_take_iff_getElem] at h2 ⊢
      obtain ⟨r, hr1, hr2⟩ := h2
      exact ⟨r, by omega, hr2⟩
theorem prec_irrefl {l : List Opn} (hG : Good l) {a : Nat} (ha : a < l.length) : bit (precs l a (sortedL l)) a = false := by
  obtain ⟨k, hk, he⟩ := hG.all ha
  rw [← Bool.not_eq_true]
  intro h
  have := prec_before hG a k hk (by rw [he]; exact h)
  rw [← he] at this
  exact sorted_new hk this
theorem prec_asym {l : List Opn} (hG : Good l) {a b : Nat} (ha : a < l.length) (hb : b < l.length) (h1 : bit (precs l a (sortedL l)) b = true) : bit (precs l b (sortedL l)) a = false := by
  obtain ⟨k, hk, he⟩ := hG.all ha
  obtain ⟨m, hm, hf⟩ := hG.all hb
  rw [← Bool.not_eq_true]
  intro h2
  have h3 := prec_before hG a m hm (by rw [hf]; exact h1)
  have h4 := prec_before hG b k hk (by rw [he]; exact h2)
  rw [List.mem_take_iff_getElem] at h3 h4
  obtain ⟨q, hq, hqa⟩ := h3
  obtain ⟨r, hr, hrb⟩ := h4
  have e1 := sorted_inj (m := k) (k := q) (by omega) hk (by rw [hqa, he])
  have e2 := sorted_inj (m := m) (k := r) (by omega) hm (by rw [hrb, hf])
  omega
end Go.Proofs.YteiboodeepjanaaGreat
