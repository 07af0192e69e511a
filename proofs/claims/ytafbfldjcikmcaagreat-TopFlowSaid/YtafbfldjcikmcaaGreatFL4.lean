/- Texts in one file: TD TE FwK FwP TF TQ S1 W4 W5 W6 W7 WJ SR TH FwQ TI TJ TK TL FwR. -/
import Derived.Test.YtafbfldjcikmcaaGreatFL3
import Derived.Test.YtafbfldjcikmcaaGreatFL2
set_option maxRecDepth 100000
set_option maxHeartbeats 8000000
namespace Go.Proofs.YtafbfldjcikmcaaGreat
open Go.RowKit
def bitsN (s : List Nat) : Nat := s.foldl (fun b a => b ||| 2 ^ a) 0
theorem bits_from : ∀ (s : List Nat) (b k : Nat), (s.foldl (fun b a => b ||| 2 ^ a) b).testBit k = (b.testBit k || decide (k ∈ s))
 | [], b, k => by simp
 | a :: s, b, k => by
  rw [List.foldl_cons, bits_from s, Nat.testBit_or, Nat.testBit_two_pow]
  by_cases h : a = k
  ·subst h; simp
  ·have : ¬ k = a := fun h' => h h'.symm
   simp [h, this]
theorem bits_test (s : List Nat) (k : Nat) : (bitsN s).testBit k = decide (k ∈ s) := by
 unfold bitsN
 rw [bits_from]
 simp
theorem bits_lt {s : List Nat} {n : Nat} (h : ∀ a ∈ s, a < n) : bitsN s < 2 ^ n := by
 apply Nat.lt_pow_two_of_testBit
 intro i hi
 rw [bits_test]
 refine decide_eq_false fun hm => ?_
 have := h i hm
 omega
theorem bits_all {s : List Nat} {n : Nat} (h : ∀ a, a ∈ s ↔ a < n) : bitsN s = 2 ^ n - 1 := by
 apply Nat.eq_of_testBit_eq
 intro k
 rw [bits_test, Nat.testBit_two_pow_sub_one]
 exact decide_eq_decide.2 (h k)
theorem bits_snoc (s : List Nat) (a : Nat) : bitsN (s ++ [a]) = bitsN s ||| 2 ^ a := by
 unfold bitsN
 rw [List.foldl_append]
 rfl
theorem or_gt {s i : Nat} (h : s.testBit i = false) : s < s ||| 2 ^ i := by
 have h1 : s ≤ s ||| 2 ^ i := Nat.left_le_or
 rcases Nat.lt_or_ge s (s ||| 2 ^ i) with h2 | h2
 ·exact h2
 ·have h3 : s = s ||| 2 ^ i := Nat.le_antisymm h1 h2
  have h4 := congrArg (fun n => Nat.testBit n i) h3
  simp [Nat.testBit_or, h] at h4

def opZ : Opn := ⟨ByteArray.empty, 0, 0, [], []⟩
def befN (o : Opn) : Nat := bitsN (o.after.map Int.toNat)
def lstI (l : List Opn) (st : List Int) (c lim : Int) (s : Nat) (f : Int) (E : List Int) (i : Nat) : List Int :=
 if s.testBit i = true ∨ ¬ less (befN (l.getD i opZ)) s = 0 then E else
 if adB f c (l.getD i opZ).minutes (st.getD i 0) = true ∧ adV f c (l.getD i opZ).minutes (st.getD i 0) ≤ lim ∧ (E.getD (s ||| 2 ^ i) 0 < 0 ∨ adV f c (l.getD i opZ).minutes (st.getD i 0) < E.getD (s ||| 2 ^ i) 0) then E.set (s ||| 2 ^ i) (adV f c (l.getD i opZ).minutes (st.getD i 0)) else E
def lstS (l : List Opn) (st : List Int) (c lim : Int) (E : List Int) (s : Nat) : List Int := if E.getD s 0 < 0 then E else (List.range l.length).foldl (lstI l st c lim s (E.getD s 0)) E
def lstE (l : List Opn) (st : List Int) (c lim : Int) : List Int := (List.range (2 ^ l.length)).foldl (lstS l st c lim) ((List.replicate (2 ^ l.length) (-1)).set 0 0)
theorem lstI_len {l : List Opn} {st : List Int} {c lim f : Int} {s i : Nat} {E : List Int} : (lstI l st c lim s f E i).length = E.length := by
 unfold lstI
 split
 ·rfl
 ·split
  ·exact List.length_set
  ·rfl
theorem foldl_len {α : Type} {g : List Int → α → List Int} (h : ∀ E a, (g E a).length = E.length) : ∀ (xs : List α) (E : List Int), (xs.foldl g E).length = E.length
 | [], _ => rfl
 | a :: xs, E => by rw [List.foldl_cons, foldl_len h xs, h]
theorem lstS_len {l : List Opn} {st : List Int} {c lim : Int} {s : Nat} {E : List Int} : (lstS l st c lim E s).length = E.length := by
 unfold lstS
 split
 ·rfl
 ·exact foldl_len (fun E a => lstI_len) _ _
theorem getD_set {E : List Int} {x y : Nat} {v d : Int} (hx : x < E.length) : (E.set x v).getD y d = if x = y then v else E.getD y d := by
 rw [List.getD_eq_getElem?_getD, List.getElem?_set, List.getD_eq_getElem?_getD]
 by_cases h : x = y
 ·rw [if_pos h, if_pos hx, if_pos h]; rfl
 ·rw [if_neg h, if_neg h]
/-- What a step leaves: an entry that was filled is filled, and no greater. -/
theorem lstI_keep {l : List Opn} {st : List Int} {c lim f B : Int} {s i x : Nat} {E : List Int} (hf : 0 ≤ adV f c (l.getD i opZ).minutes (st.getD i 0)) (hn : s ||| 2 ^ i < E.length) (h : 0 ≤ E.getD x 0 ∧ E.getD x 0 ≤ B) : 0 ≤ (lstI l st c lim s f E i).getD x 0 ∧ (lstI l st c lim s f E i).getD x 0 ≤ B := by
 unfold lstI
 split
 ·exact h
 split
 ·rename_i h2
  rw [getD_set hn]
  split
  ·rename_i hx
   rw [hx] at h2
   omega
  ·exact h
 ·exact h
theorem lstI_hit {l : List Opn} {st : List Int} {c lim f B : Int} {s i : Nat} {E : List Int} (hs : s.testBit i = false) (hb : less (befN (l.getD i opZ)) s = 0) (hf : 0 ≤ adV f c (l.getD i opZ).minutes (st.getD i 0)) (hB : adV f c (l.getD i opZ).minutes (st.getD i 0) ≤ B) (hl : B ≤ lim) (ha : adB f c (l.getD i opZ).minutes (st.getD i 0) = true) (hn : s ||| 2 ^ i < E.length) :
  0 ≤ (lstI l st c lim s f E i).getD (s ||| 2 ^ i) 0 ∧ (lstI l st c lim s f E i).getD (s ||| 2 ^ i) 0 ≤ B := by
 unfold lstI
 rw [if_neg (by rw [hs, hb]; simp)]
 by_cases h2 : E.getD (s ||| 2 ^ i) 0 < 0 ∨ adV f c (l.getD i opZ).minutes (st.getD i 0) < E.getD (s ||| 2 ^ i) 0
 ·rw [if_pos ⟨ha, by omega, h2⟩, getD_set hn, if_pos rfl]
  exact ⟨hf, hB⟩
 ·rw [if_neg (fun h => h2 h.2.2)]
  omega
/-- A free operation that begins at f ≤ k cycles ends by k + 1 cycles, in its station. -/
theorem ad_free {f c m k : Int} (hf : 0 ≤ f) (hk : f ≤ k * c) (_hk0 : 0 ≤ k) (hc : 1 ≤ c) (hm : 1 ≤ m ∧ m ≤ c) : 1 ≤ adV f c m (-1) ∧ adV f c m (-1) ≤ (k + 1) * c ∧ adB f c m (-1) = true := by
 have h1 := Int.mul_ediv_add_emod f c
 have h2 := Int.emod_nonneg f (b := c) (by omega)
 have h3 := Int.emod_lt_of_pos f (b := c) (by omega)
 have hq : 0 ≤ f / c := Int.ediv_nonneg hf (by omega)
 rw [Int.mul_comm] at h1
 have e1 : (f / c + 1) * c = f / c * c + c := by rw [Int.add_mul, Int.one_mul]
 have e2 : (f / c + 1 + 1) * c = f / c * c + c + c := by rw [Int.add_mul, Int.add_mul, Int.one_mul]
 have e3 : (k + 1) * c = k * c + c := by rw [Int.add_mul, Int.one_mul]
 have hqk : f / c ≤ k := by
  have : f / c ≤ k * c / c := Int.ediv_le_ediv (by omega) hk
  rwa [Int.mul_ediv_cancel _ (by omega)] at this
 have hqc : f / c * c ≤ k * c := Int.mul_le_mul_of_nonneg_right hqk (by omega)
 by_cases h : f + m > (f / c + 1) * c
 ·have hS : adS f c m (-1) = f / c + 1 := by unfold adS; rw [if_pos rfl, if_pos h]
  have hV : adV f c m (-1) = (f / c + 1) * c + m := by unfold adV; rw [hS]; omega
  have hne : f / c ≠ k := fun hk' => by
   rw [hk'] at e1 h
   omega
  have hlt : (f / c + 1) * c ≤ k * c := Int.mul_le_mul_of_nonneg_right (by omega) (by omega)
  refine ⟨by omega, by omega, ?_⟩
  unfold adB
  rw [hV, hS]
  exact decide_eq_true (by omega)
 ·have hS : adS f c m (-1) = f / c := by unfold adS; rw [if_pos rfl, if_neg h]
  have hV : adV f c m (-1) = f + m := by unfold adV; rw [hS]; omega
  refine ⟨by omega, by omega, ?_⟩
  unfold adB
  rw [hV, hS]
  exact decide_eq_true (by omega)
section
variable {l : List Opn} {c : Int} {so : List Nat}
theorem st_free {n i : Nat} (h : i < n) : (List.replicate n (-1 : Int)).getD i 0 = -1 := by
 rw [List.getD_eq_getElem?_getD, List.getElem?_replicate, if_pos h]
 rfl
theorem fold_keep {lim f B : Int} {s x : Nat} (hc : 1 ≤ c) (hf : 0 ≤ f) (hs : s < 2 ^ l.length) (hm : ∀ i, i < l.length → 1 ≤ (l.getD i opZ).minutes ∧ (l.getD i opZ).minutes ≤ c) : ∀ (is : List Nat) (E : List Int), (∀ i ∈ is, i < l.length) → E.length = 2 ^ l.length → (0 ≤ E.getD x 0 ∧ E.getD x 0 ≤ B) → 0 ≤ (is.foldl (lstI l (List.replicate l.length (-1)) c lim s f) E).getD x 0 ∧ (is.foldl (lstI l (List.replicate l.length (-1)) c lim s f) E).getD x 0 ≤ B
 | [], E, _, _, h => h
 | i :: is, E, hi, hE, h => by
  have hil := hi i List.mem_cons_self
  rw [List.foldl_cons]
  refine fold_keep hc hf hs hm is _ (fun a ha => hi a (List.mem_cons_of_mem _ ha)) (by rw [lstI_len, hE]) (lstI_keep ?_ ?_ h)
  ·rw [st_free hil]
   have h1 := ad_free (k := f) hf (by
    have := Int.mul_le_mul_of_nonneg_left hc hf
    omega) hf hc (hm i hil)
   omega
  ·rw [hE]
   exact Nat.or_lt_two_pow hs (Nat.pow_lt_pow_right (by decide) hil)
theorem lst_chain (hc : 1 ≤ c) (hlen : so.length = l.length) (hmem : ∀ a ∈ so, a < l.length) (hnd : so.Nodup) (haf : ∀ j (hj : j < so.length), ∀ a ∈ (l.getD so[j] opZ).after, a.toNat ∈ so.take j) (hm : ∀ i, i < l.length → 1 ≤ (l.getD i opZ).minutes ∧ (l.getD i opZ).minutes ≤ c) :
  ∀ k, k ≤ 2 ^ l.length → ((List.range k).foldl (lstS l (List.replicate l.length (-1)) c (l.length * c)) ((List.replicate (2 ^ l.length) (-1)).set 0 0)).length = 2 ^ l.length ∧ ∀ j, j ≤ so.length → (j = 0 ∨ bitsN (so.take (j - 1)) < k) →
   0 ≤ ((List.range k).foldl (lstS l (List.replicate l.length (-1)) c (l.length * c)) ((List.replicate (2 ^ l.length) (-1)).set 0 0)).getD (bitsN (so.take j)) 0 ∧ ((List.range k).foldl (lstS l (List.replicate l.length (-1)) c (l.length * c)) ((List.replicate (2 ^ l.length) (-1)).set 0 0)).getD (bitsN (so.take j)) 0 ≤ j * c
 | 0, _ => by
  have hp : 0 < 2 ^ l.length := Nat.pow_pos (by decide)
  refine ⟨by simp, fun j hj h => ?_⟩
  rcases h with rfl | h
  ·show 0 ≤ (List.set _ 0 0).getD 0 0 ∧ (List.set _ 0 0).getD 0 0 ≤ _
   rw [getD_set (by simpa using hp), if_pos rfl]
   exact ⟨by decide, by simp⟩
  ·omega
 | k + 1, hk => by
  obtain ⟨hL, hI⟩ := lst_chain hc hlen hmem hnd haf hm k (by omega)
  rw [List.range_succ, List.foldl_append, List.foldl_cons, List.foldl_nil]
  generalize (List.range k).foldl (lstS l (List.replicate l.length (-1)) c (l.length * c)) ((List.replicate (2 ^ l.length) (-1)).set 0 0) = E at hL hI
  refine ⟨by rw [lstS_len, hL], fun j hj h => ?_⟩
  have hnew : ∀ m (hm1 : m < so.length), bitsN (so.take m) < bitsN (so.take (m + 1)) ∧ bitsN (so.take (m + 1)) = bitsN (so.take m) ||| 2 ^ so[m] ∧ (bitsN (so.take m)).testBit so[m] = false := fun m hm1 => by
   have e1 : bitsN (so.take (m + 1)) = bitsN (so.take m) ||| 2 ^ so[m] := by rw [List.take_succ_eq_append_getElem hm1, bits_snoc]
   have e2 : (bitsN (so.take m)).testBit so[m] = false := by
    rw [bits_test]
    refine decide_eq_false fun hx => ?_
    obtain ⟨q, hq, he⟩ := List.getElem_of_mem hx
    rw [List.getElem_take] at he
    rw [List.length_take] at hq
    exact List.pairwise_iff_getElem.1 hnd q m (by omega) hm1 (by omega) he
   exact ⟨by rw [e1]; exact or_gt e2, e1, e2⟩
  unfold lstS
  by_cases hf : E.getD k 0 < 0
  ·rw [if_pos hf]
   rcases h with h | h
   ·exact hI j hj (.inl h)
   rcases Nat.lt_or_ge (bitsN (so.take (j - 1))) k with h1 | h1
   ·exact hI j hj (.inr h1)
   rcases Nat.eq_zero_or_pos j with h0 | h0
   ·exact hI j hj (.inl h0)
   have hP : bitsN (so.take (j - 1)) = k := by omega
   have := (hI (j - 1) (by omega) (by
    rcases Nat.eq_zero_or_pos (j - 1) with h2 | h2
    ·exact .inl h2
    ·refine .inr ?_
     have := (hnew (j - 1 - 1) (by omega)).1
     rw [show j - 1 - 1 + 1 = j - 1 by omega, hP] at this
     exact this)).1
   rw [hP] at this
   omega
  ·rw [if_neg hf]
   have hf0 : 0 ≤ E.getD k 0 := by omega
   have hks : k < 2 ^ l.length := by omega
   by_cases hold : j = 0 ∨ bitsN (so.take (j - 1)) < k
   ·exact fold_keep hc hf0 hks hm _ _ (fun i hi => List.mem_range.1 hi) hL (hI j hj hold)
   ·have hj0 : 0 < j := by omega
    have hP : bitsN (so.take (j - 1)) = k := by omega
    have hpre := hI (j - 1) (by omega) (by
     rcases Nat.eq_zero_or_pos (j - 1) with h2 | h2
     ·exact .inl h2
     ·refine .inr ?_
      have := (hnew (j - 1 - 1) (by omega)).1
      rw [show j - 1 - 1 + 1 = j - 1 by omega, hP] at this
      exact this)
    rw [hP] at hpre
    obtain ⟨_, e1, e2⟩ := hnew (j - 1) (by omega)
    rw [show j - 1 + 1 = j by omega, hP] at e1
    rw [hP] at e2
    have hi0 : so[j - 1] < l.length := hmem _ (List.getElem_mem _)
    obtain ⟨xs, ys, hxy⟩ := List.append_of_mem (List.mem_range.2 hi0)
    have hall : ∀ i ∈ xs ++ so[j - 1] :: ys, i < l.length := fun i hi => by
     rw [← hxy] at hi
     exact List.mem_range.1 hi
    rw [hxy, List.foldl_append, List.foldl_cons, e1]
    have hlen1 : (xs.foldl (lstI l (List.replicate l.length (-1)) c (l.length * c) k (E.getD k 0)) E).length = 2 ^ l.length := by rw [foldl_len (fun E a => lstI_len), hL]
    have had := ad_free (k := ((j - 1 : Nat) : Int)) hf0 hpre.2 (by omega) hc (hm _ hi0)
    have hjc : (((j - 1 : Nat) : Int) + 1) * c = j * c := by rw [show ((j - 1 : Nat) : Int) + 1 = j by omega]
    rw [hjc] at had
    refine fold_keep hc hf0 hks hm _ _ (fun i hi => hall i (by simp [hi])) (by rw [lstI_len, hlen1]) (lstI_hit e2 ?_ ?_ ?_ ?_ ?_ ?_)
    ·refine less_zero.2 fun x hx => ?_
     unfold befN at hx
     rw [bits_test] at hx
     obtain ⟨a, ha, rfl⟩ := List.mem_map.1 (of_decide_eq_true hx)
     rw [← hP, bits_test]
     exact decide_eq_true (haf (j - 1) (by omega) a ha)
    ·rw [st_free hi0]; omega
    ·rw [st_free hi0]; omega
    ·exact Int.mul_le_mul_of_nonneg_right (by omega) (by omega)
    ·rw [st_free hi0]; exact had.2.2
    ·rw [hlen1]
     exact Nat.or_lt_two_pow hks (Nat.pow_lt_pow_right (by decide) hi0)
/-- With all operations free and as many stations as operations there is an arrangement. -/
theorem lst_free (hc : 1 ≤ c) (hlen : so.length = l.length) (hmem : ∀ a, a ∈ so ↔ a < l.length) (hnd : so.Nodup) (haf : ∀ j (hj : j < so.length), ∀ a ∈ (l.getD so[j] opZ).after, a.toNat ∈ so.take j) (hm : ∀ i, i < l.length → 1 ≤ (l.getD i opZ).minutes ∧ (l.getD i opZ).minutes ≤ c) :
  0 ≤ (lstE l (List.replicate l.length (-1)) c (l.length * c)).getD (2 ^ l.length - 1) 0 ∧ (lstE l (List.replicate l.length (-1)) c (l.length * c)).getD (2 ^ l.length - 1) 0 ≤ l.length * c := by
 obtain ⟨_, hI⟩ := lst_chain hc hlen (fun a h => (hmem a).1 h) hnd haf hm (2 ^ l.length) (Nat.le_refl _)
 have h1 := hI so.length (Nat.le_refl _) (by
  rcases Nat.eq_zero_or_pos so.length with h | h
  ·exact .inl h
  ·exact .inr (bits_lt fun a ha => (hmem a).1 (List.mem_of_mem_take ha)))
 rw [List.take_length, bits_all hmem, hlen] at h1
 exact h1
theorem adV_pos {f c m st : Int} (hf : 0 ≤ f) (hm : 1 ≤ m) : 1 ≤ adV f c m st := by
 unfold adV
 omega
def Full0 (E : List Int) : Prop := ∀ x, ¬ x = 0 → x < E.length → ¬ E.getD x 0 = 0
theorem lstI_pos {st : List Int} {lim f : Int} {s i : Nat} {E : List Int} (hf : 0 ≤ f) (hm : 1 ≤ (l.getD i opZ).minutes) (h : Full0 E) : Full0 (lstI l st c lim s f E i) := by
 intro x hx hxl
 rw [lstI_len] at hxl
 have h0 := h x hx hxl
 unfold lstI
 split
 ·exact h0
 split
 ·rw [List.getD_eq_getElem?_getD, List.getElem?_set]
  split
  ·split
   ·have := adV_pos (c := c) (st := st.getD i 0) hf hm
    show ¬ adV _ _ _ _ = 0
    omega
   ·omega
  ·rw [← List.getD_eq_getElem?_getD]
   exact h0
 ·exact h0
theorem foldI_pos {st : List Int} {lim f : Int} {s : Nat} (hf : 0 ≤ f) : ∀ (is : List Nat) (E : List Int), (∀ i ∈ is, 1 ≤ (l.getD i opZ).minutes) → Full0 E → Full0 (is.foldl (lstI l st c lim s f) E)
 | [], _, _, h => h
 | i :: is, E, hi, h => by
  rw [List.foldl_cons]
  exact foldI_pos hf is _ (fun a ha => hi a (List.mem_cons_of_mem _ ha)) (lstI_pos hf (hi i List.mem_cons_self) h)
theorem foldS_pos {st : List Int} {lim : Int} (hm : ∀ i, i < l.length → 1 ≤ (l.getD i opZ).minutes) : ∀ (ss : List Nat) (E : List Int), Full0 E → Full0 (ss.foldl (lstS l st c lim) E)
 | [], _, h => h
 | s :: ss, E, h => by
  rw [List.foldl_cons]
  refine foldS_pos hm ss _ ?_
  unfold lstS
  split
  ·exact h
  ·exact foldI_pos (by omega) _ _ (fun i hi => hm i (List.mem_range.1 hi)) h
theorem lstE_len {st : List Int} {lim : Int} : (lstE l st c lim).length = 2 ^ l.length := by
 unfold lstE
 rw [foldl_len (fun E a => lstS_len)]
 simp
theorem lstE_pos {st : List Int} {lim : Int} (hm : ∀ i, i < l.length → 1 ≤ (l.getD i opZ).minutes) (hn : 0 < l.length) : ¬ (lstE l st c lim).getD (2 ^ l.length - 1) 0 = 0 := by
 have hp : 2 ≤ 2 ^ l.length := by
  have := Nat.pow_le_pow_right (n := 2) (by decide) hn
  simpa using this
 refine foldS_pos hm _ _ ?_ (2 ^ l.length - 1) (by omega) ?_
 ·intro x hx hxl
  rw [List.getD_eq_getElem?_getD, List.getElem?_set, if_neg (fun h => hx h.symm), List.getElem?_replicate, if_pos (by simpa using hxl)]
  decide
 ·have := lstE_len (l := l) (c := c) (st := st) (lim := lim)
  unfold lstE at this
  rw [this]
  omega
end
def befL (l : List Opn) (k : Nat) : List Nat := (l.take k).map befN ++ List.replicate (l.length - k) 0
theorem befL_len {l : List Opn} {k : Nat} (hk : k ≤ l.length) : (befL l k).length = l.length := by
 unfold befL
 rw [List.length_append, List.length_map, List.length_take, List.length_replicate]
 omega
theorem befL_next {l : List Opn} {k : Nat} (hk : k < l.length) : (befL l k).set k (befN l[k]) = befL l (k + 1) := by
 unfold befL
 have h1 : ((l.take k).map befN).length = k := by rw [List.length_map, List.length_take]; omega
 rw [List.set_append_right _ _ (by omega), h1, Nat.sub_self, show l.length - k = l.length - (k + 1) + 1 by omega, List.replicate_succ, List.set_cons_zero, List.take_succ_eq_append_getElem hk, List.map_append]
 simp
theorem befL_same {l : List Opn} {k : Nat} (hk : k < l.length) : (befL l k).set k 0 = befL l k := by
 unfold befL
 have h1 : ((l.take k).map befN).length = k := by rw [List.length_map, List.length_take]; omega
 rw [List.set_append_right _ _ (by omega), h1, Nat.sub_self, show l.length - k = l.length - (k + 1) + 1 by omega, List.replicate_succ, List.set_cons_zero]
theorem befL_all (l : List Opn) : befL l l.length = l.map befN := by
 unfold befL
 rw [List.take_length, Nat.sub_self, List.replicate_zero, List.append_nil]
def filL (n k : Nat) : List Int := List.replicate k (-1) ++ List.replicate (n - k) 0
theorem filL_len {n k : Nat} (h : k ≤ n) : (filL n k).length = n := by
 unfold filL
 rw [List.length_append, List.length_replicate, List.length_replicate]
 omega
theorem filL_next {n k : Nat} (h : k < n) : (filL n k).set k (-1) = filL n (k + 1) := by
 unfold filL
 rw [List.set_append_right _ _ (by simp), List.length_replicate, Nat.sub_self, show n - k = n - (k + 1) + 1 by omega, List.replicate_succ, List.set_cons_zero, List.replicate_succ']
 simp
/-- No entry of the table is above the limit. -/
def Top (M : Int) (E : List Int) : Prop := ∀ x, E.getD x 0 ≤ M
theorem lstI_top {l : List Opn} {c M : Int} {st : List Int} {lim f : Int} {s i : Nat} {E : List Int} (hM : lim ≤ M) (h : Top M E) : Top M (lstI l st c lim s f E i) := by
 intro x
 have h0 := h x
 unfold lstI
 split
 ·exact h0
 split
 ·rename_i h2
  rw [List.getD_eq_getElem?_getD, List.getElem?_set]
  split
  ·split
   ·show adV _ _ _ _ ≤ M
    omega
   ·rw [List.getD_eq_getElem?_getD] at h0
    rename_i h3 h4
    rw [List.getElem?_eq_none (by omega)] at h0
    exact h0
  ·rw [← List.getD_eq_getElem?_getD]
   exact h0
 ·exact h0
theorem foldI_top {l : List Opn} {c M : Int} {st : List Int} {lim f : Int} {s : Nat} (hM : lim ≤ M) : ∀ (is : List Nat) (E : List Int), Top M E → Top M (is.foldl (lstI l st c lim s f) E)
 | [], _, h => h
 | i :: is, E, h => by
  rw [List.foldl_cons]
  exact foldI_top hM is _ (lstI_top hM h)
theorem foldS_top {l : List Opn} {c M : Int} {st : List Int} {lim : Int} (hM : lim ≤ M) : ∀ (ss : List Nat) (E : List Int), Top M E → Top M (ss.foldl (lstS l st c lim) E)
 | [], _, h => h
 | s :: ss, E, h => by
  rw [List.foldl_cons]
  refine foldS_top hM ss _ ?_
  unfold lstS
  split
  ·exact h
  ·exact foldI_top hM _ _ h
section
variable {P : Program} {ops : Array Oper} {N : Nat} {w0 : World} {L : List Res} {e : Env} {o : Oper} {t : TypeId} {x y : Operand}
theorem det_andT {i r : Nat} {yt : TypeId} (hop : o.op = .binOp .and t x y yt) (hw : wantedE N ops e o = true) (hx : ev N e x = .int .i64 (i : Int)) (hy : ev N e y = .int .i64 1) (hi : i < 65536) (hr : i % 2 = r) : Det P ops N w0 L o e (.int .i64 (r : Int)) := by
 subst hr
 exact det_and1 hop hw hx hy hi
end
def vN (b : Nat) : Value := .int .i64 (b : Int)
theorem pow16 {k : Nat} (h : k < 16) : 2 ^ k < 65536 := by
 have := Nat.pow_lt_pow_right (a := 2) (by decide) h
 simpa using this
theorem bef_lt {l : List Opn} {o : Opn} (h16 : l.length ≤ 16) (h : areIx o.after l.length = true) (j : Nat) : bitsN ((o.after.take j).map Int.toNat) < 65536 := by
 have : bitsN ((o.after.take j).map Int.toNat) < 2 ^ 16 := bits_lt fun a ha => by
  obtain ⟨x, hx, rfl⟩ := List.mem_map.1 ha
  have := areIx_at h x (List.mem_of_mem_take hx)
  omega
 simpa using this
theorem least_ok (w : World) (v vs : Value) (l : List Opn) (st : List Int) (c lim : Int) (hl : Sl rOp w w.heap.size v l) (hs : Sl rInt w w.heap.size vs st) (hsl : st.length = l.length) (hsr : ∀ i, i < l.length → -1 ≤ st.getD i 0 ∧ st.getD i 0 ≤ 100) (hc : 1 ≤ c ∧ c ≤ 1000000) (hlim : lim ≤ 16000000) (hlist : listE l (-1) = 0) :
  Ok Tryz.prog 16 [v, .int .i64 c, vs, .int .i64 lim].toArray w fun r _ => r = .tuple #[.int .i64 (if (lstE l st c lim).getD (2 ^ l.length - 1) 0 < 0 then 0 else (lstE l st c lim).getD (2 ^ l.length - 1) 0), .bool (decide (0 ≤ (lstE l st c lim).getD (2 ^ l.length - 1) 0))] := by
 obtain ⟨h16, hop⟩ := list_minutes hlist
 obtain ⟨A, ca, rfl, hlc, hlm⟩ := len_small hl
 have hpn : 2 ^ l.length ≤ 65536 := by
  have := Nat.pow_le_pow_right (n := 2) (by decide) h16
  simpa using this
 have hpp : 0 < 2 ^ l.length := Nat.pow_pos (by decide)
 refine ok_enter Tryz.func16 rfl Tryz.ntmps16 rfl ?_
 (refine gV ?_; (iterate 2 refine gM ?_); refine gN ?_; refine gM ?_; refine gL ?_; apply gw_d; exact det_shl (r := ((2 ^ l.length : Nat) : Int)) rfl rfl rfl rfl (by omega) (by rw [Int.one_mul, show min ((l.length : Int)).toNat IntKind.i64.bits = l.length from (by show min ((l.length : Int)).toNat 64 = _; omega), two_pow_cast, wrap_in (by omega)]); refine gA ?_; refine gM ?_; refine gN ?_; refine gM ?_; refine gL ?_)
 refine gw_make1 (n := l.length) rfl rfl rfl rfl rfl (by omega) (by omega) rfl (fun bb => ?_)
 rw [show Array.replicate l.length ((Value.int .i64 0).cells.getD 0 undef) = ((befL l 0).map vN).toArray from row_make vN l.length 0]
 (refine gM ?_; refine gO ?_; refine gQ ?_; refine gV ?_; refine gM ?_; refine gL ?_; refine gM ?_; refine gO ?_; refine gB ?_)
 refine gc_loop1 (σ := Nat) [35, 36, 37, 38, 13, 12, 39, 40, 41, 42, 43, 44, 45, 15, 46, 47, 48, 49, 50, 51, 52, 53, 54, 55, 34] (fun k => [(34, .int .i64 k)]) (fun k => Box bb 3 ((befL l k).map vN).toArray) (fun k => k ≤ l.length) (fun k => l.length - k) 0 (Nat.zero_le _) ⟨rfl, trivial⟩ rfl ?_
 rintro k base hk
 (refine gV ?_; refine gC ?_; refine gO ?_; refine gQ ?_)
 refine gc_if_dec rfl (fun h => ?_) (fun h => ?_)
 ·have hlt : k < l.length := by omega
  obtain ⟨ad, _, hv, _, _, hb1, hcell⟩ := hl.at' 5 rfl (by omega)
  injection hv with e1 e2 e3
  subst e1 e3
  obtain ⟨cs', hce, Aa, ca2, Au, cu, rfl, hnm, q1, q2⟩ := hcell k hlt
  (refine gK ?_; refine gX ?_; refine gQ ?_; refine gB ?_; refine gV ?_; refine gM ?_; apply gw_d; exact w_index rfl rfl rfl rfl (by with_reducible exact rfl) (by omega); apply gw_d; exact w_load_elem rfl rfl rfl (by assumption) (by assumption) (by rfl); refine w_alloc rfl (fun _ => ?_); refine gM ?_; refine w_store_all rfl rfl rfl rfl rfl .here rfl ?_; refine gN ?_; refine gF ?_; refine gW .here ?_; refine gL ?_; refine gM ?_; refine gO ?_; refine gB ?_)
  have hix := (hop k hlt).2.2.2.2
  have hbl := bef_lt (o := l[k]) h16 hix
  obtain ⟨A4, c4, hv4, hc4, hm4, hcell4⟩ := (show Sl rInt w w.heap.size (.slice Aa l[k].after.length ca2) l[k].after from q1).int
  injection hv4 with f1 f2 f3
  subst f1 f3
  rename_i bo
  refine gc_ent (K := [Box bb 3 (((befL l k).set k (bitsN ((l[k].after.take 0).map Int.toNat))).map vN).toArray, Box bo 59 #[.string l[k].name, .int .i64 l[k].machine, .int .i64 l[k].minutes, .slice Aa l[k].after.length ca2, .slice Au l[k].uses.length cu]]) ?_ ?_
  ·rw [show (befL l k).set k (bitsN ((l[k].after.take 0).map Int.toNat)) = befL l k from befL_same hlt]
   exact Sub.ent (.cons (.there .here) (.cons .here .nil))
  refine gc_loop1 (σ := Nat) [43, 44, 45, 15, 46, 47, 48, 49, 50, 51, 52, 53, 54, 42] (fun j => [(42, .int .i64 j)]) (fun j => Box bb 3 (((befL l k).set k (bitsN ((l[k].after.take j).map Int.toNat))).map vN).toArray) (fun j => j ≤ l[k].after.length) (fun j => l[k].after.length - j) 0 (Nat.zero_le _) ⟨rfl, trivial⟩ rfl ?_
  rintro j base2 hj
  (refine gV ?_; refine gC ?_; refine gO ?_; refine gQ ?_)
  refine gc_if_dec rfl (fun h2 => ?_) (fun h2 => ?_)
  ·have hjl : j < l[k].after.length := by omega
   obtain ⟨ad5, rfl, hb5, hce5, _⟩ := hcell4 j hjl
   obtain ⟨a, ha⟩ : ∃ a : Nat, l[k].after[j] = (a : Int) := ⟨l[k].after[j].toNat, by have := areIx_at hix _ (List.getElem_mem hjl); omega⟩
   have hal : a < l.length := by have := areIx_at hix _ (List.getElem_mem hjl); omega
   have hbj := hbl j
   have hnext : bitsN ((l[k].after.take (j + 1)).map Int.toNat) = bitsN ((l[k].after.take j).map Int.toNat) ||| 2 ^ a := by
    rw [List.take_succ_eq_append_getElem hjl, List.map_append, List.map_cons, List.map_nil, bits_snoc, ha, Int.toNat_natCast]
   generalize bitsN ((l[k].after.take j).map Int.toNat) = b at hbj hnext
   rw [ha] at hce5
   have hlen5 : ((befL l k).set k b).length = l.length := by rw [List.length_set, befL_len (by omega)]
   have hrow : (((befL l k).set k b).map vN).toArray[k * 1]? = some (.int .i64 (b : Int)) := by
    rw [row_get vN 0 (by omega)]
    rw [List.getD_eq_getElem?_getD, List.getElem?_set, if_pos rfl, if_pos (by rw [befL_len (by omega)]; omega)]
    rfl
   have h2l : 2 ^ a < 65536 := pow16 (by omega)
   have h2a : IntKind.i64.wrap (1 * 2 ^ (min ((a : Int)).toNat IntKind.i64.bits)) = ((2 ^ a : Nat) : Int) := by
    have e1 : (1 : Int) * 2 ^ (min ((a : Int)).toNat IntKind.i64.bits) = ((2 ^ a : Nat) : Int) := by
     rw [Int.one_mul, show min ((a : Int)).toNat IntKind.i64.bits = a from (by show min ((a : Int)).toNat 64 = _; omega), two_pow_cast]
    rw [e1]
    generalize 2 ^ a = z at h2l ⊢
    exact wrap_in (z := (z : Int)) (by omega)
   (refine gK ?_; refine gX ?_; refine gQ ?_; refine gB ?_; refine gV ?_; apply gw_d; exact w_index rfl rfl rfl rfl (by with_reducible exact rfl) (by omega); apply gw_d; exact w_load_at rfl rfl rfl (by assumption) (by assumption); refine gM ?_; refine gO ?_)
   refine gc_draw 7 (by kernel_rfl) (by kernel_rfl) ?_
   ((iterate 2 refine dM ?_); apply gd_d; exact w_index (m := k) rfl rfl rfl rfl rfl hlt; apply gd_d; exact w_load_row rfl rfl rfl .here hrow; refine dM ?_; apply gd_d; exact det_shl rfl rfl rfl rfl (by omega) h2a; apply gd_d; exact det_orI rfl rfl rfl rfl hbj h2l; refine gd_nil ?_; apply gw_d; exact w_index (m := k) rfl rfl rfl rfl rfl hlt)
   refine w_store_row (n := 1) (v := vN (b ||| 2 ^ a)) rfl rfl rfl rfl rfl .here (by rw [List.size_toArray, List.length_map, hlen5]; exact Nat.succ_le_of_lt (by rw [Nat.mul_one]; exact hlt)) (row_set vN (by rw [hlen5]; exact hlt) (b ||| 2 ^ a)) ?_
   (refine gw_nil ?_; refine gH ?_; refine gX ?_; refine gG ?_; refine gA ?_; refine gM ?_; refine gw_nil ?_)
   refine gx_round (j + 1) (by omega) (by omega) kK ⟨rfl, trivial⟩ ?_
   rw [hnext, List.set_set]
   exact Sub.all _
  ·obtain rfl : j = l[k].after.length := by omega
   rw [List.take_length]
   change GC _ _ _ _ (Box bb _ ((((befL l k).set k (befN l[k])).map vN).toArray) :: _) _ _
   rw [befL_next hlt]
   (refine gI ?_; (iterate 2 refine gZ ?_); refine gJ ?_; refine gH ?_; refine gX ?_; refine gG ?_; refine gA ?_; refine gM ?_; refine gw_nil ?_)
   exact gx_round (k + 1) (by omega) (by omega) kK ⟨rfl, trivial⟩ (.cons .here Sub.tail)
 ·obtain rfl : k = l.length := by omega
  rw [befL_all]
  (refine gI ?_; (iterate 2 refine gZ ?_); refine gJ ?_; refine gX ?_; refine gV ?_; refine gM ?_; refine gA ?_)
  refine gw_make1 (n := 2 ^ l.length) rfl rfl rfl (by omega) (by omega) (by omega) (by omega) rfl (fun be => ?_)
  rw [show Array.replicate (2 ^ l.length) ((Value.int .i64 0).cells.getD 0 undef) = ((filL (2 ^ l.length) 0).map (Value.int .i64)).toArray from row_make (Value.int .i64) (2 ^ l.length) 0]
  (refine gM ?_; refine gO ?_; refine gQ ?_; refine gV ?_; refine gM ?_; refine gL ?_; refine gM ?_; refine gO ?_; refine gB ?_)
  refine gc_loop1 (σ := Nat) [62, 63, 17, 64, 65, 66, 67, 61] (fun k => [(61, .int .i64 k)]) (fun k => Box be 3 ((filL (2 ^ l.length) k).map (Value.int .i64)).toArray) (fun k => k ≤ 2 ^ l.length) (fun k => 2 ^ l.length - k) 0 (Nat.zero_le _) ⟨rfl, trivial⟩ rfl ?_
  rintro k2 base2 hk2
  have hfl := filL_len hk2
  (refine gV ?_; refine gC ?_; refine gO ?_; refine gQ ?_)
  refine gc_if_dec rfl (fun h2 => ?_) (fun h2 => ?_)
  ·have hlt2 : k2 < 2 ^ l.length := by omega
   (refine gK ?_; refine gX ?_; refine gQ ?_; refine gB ?_; refine gV ?_; (iterate 2 refine gM ?_); refine gO ?_; refine gG ?_; (iterate 2 refine gM ?_); apply gw_d; exact w_index (m := k2) rfl rfl rfl rfl rfl hlt2)
   refine w_store_row (n := 1) (v := .int .i64 (-1)) rfl rfl rfl rfl rfl .here (by rw [List.size_toArray, List.length_map, hfl]; omega) (row_set (Value.int .i64) (by rw [hfl]; exact hlt2) (-1)) ?_
   rw [filL_next hlt2]
   (refine gw_nil ?_; refine gH ?_; refine gX ?_; refine gG ?_; refine gA ?_; refine gM ?_; refine gw_nil ?_)
   exact gx_round (k2 + 1) (by omega) (by omega) kK ⟨rfl, trivial⟩ (Sub.all _)
  ·obtain rfl : k2 = 2 ^ l.length := by omega
   rw [show filL (2 ^ l.length) (2 ^ l.length) = List.replicate (2 ^ l.length) (-1) from by unfold filL; rw [Nat.sub_self, List.replicate_zero, List.append_nil]]
   (refine gI ?_; (iterate 2 refine gZ ?_); refine gJ ?_; refine gX ?_; refine gV ?_; refine gM ?_; apply gw_d; exact w_index (m := 0) rfl rfl rfl rfl rfl hpp)
   refine w_store_row (n := 1) (v := .int .i64 0) rfl rfl rfl rfl rfl .here (by rw [List.size_toArray, List.length_map, List.length_replicate]; omega) (row_set (Value.int .i64) (by rw [List.length_replicate]; exact hpp) 0) ?_
   (refine gO ?_; refine gQ ?_; refine gV ?_; refine gM ?_; refine gL ?_; refine gM ?_; refine gO ?_; refine gB ?_)
   refine gc_loop1 (σ := Nat) [73, 74, 75, 76, 18, 19, 77, 78, 79, 80, 81, 82, 83, 84, 85, 21, 20, 86, 87, 88, 89, 90, 91, 92, 93, 94, 95, 96, 97, 98, 99, 100, 101, 102, 103, 22, 105, 106, 107, 108, 109, 110, 111, 112, 113, 104, 114, 115, 23, 24, 116, 117, 118, 119, 120, 121, 122, 123, 124, 125, 126, 127, 128, 129, 130, 131, 132, 133, 134, 135, 136, 137, 138, 139, 140, 141, 142, 72] (fun k => [(72, .int .i64 k)]) (fun k => Box be 3 (((List.range k).foldl (lstS l st c lim) ((List.replicate (2 ^ l.length) (-1)).set 0 0)).map (Value.int .i64)).toArray) (fun k => k ≤ 2 ^ l.length) (fun k => 2 ^ l.length - k) 0 (Nat.zero_le _) ⟨rfl, trivial⟩ rfl ?_
   rintro k3 base3 hk3
   have hEl : ((List.range k3).foldl (lstS l st c lim) ((List.replicate (2 ^ l.length) (-1)).set 0 0)).length = 2 ^ l.length := by
    rw [foldl_len (fun E a => lstS_len)]
    simp
   have hEn : (List.range (k3 + 1)).foldl (lstS l st c lim) ((List.replicate (2 ^ l.length) (-1)).set 0 0) = lstS l st c lim ((List.range k3).foldl (lstS l st c lim) ((List.replicate (2 ^ l.length) (-1)).set 0 0)) k3 := by rw [List.range_succ, List.foldl_append, List.foldl_cons, List.foldl_nil]
   have hET : k3 = 2 ^ l.length → lstE l st c lim = (List.range k3).foldl (lstS l st c lim) ((List.replicate (2 ^ l.length) (-1)).set 0 0) := fun h => by rw [h]; rfl
   have hEM : Top 16000000 ((List.range k3).foldl (lstS l st c lim) ((List.replicate (2 ^ l.length) (-1)).set 0 0)) := by
    refine foldS_top hlim _ _ fun x => ?_
    rw [List.getD_eq_getElem?_getD, List.getElem?_set]
    split
    ·split <;> decide
    ·rw [List.getElem?_replicate]
     split <;> decide
   generalize (List.range k3).foldl (lstS l st c lim) ((List.replicate (2 ^ l.length) (-1)).set 0 0) = E at hEl hEn hET hEM
   (refine gV ?_; refine gC ?_; refine gO ?_; refine gQ ?_)
   refine gc_if_dec rfl (fun h3 => ?_) (fun h3 => ?_)
   ·have hlt3 : k3 < 2 ^ l.length := by omega
    have hrow3 : (E.map (Value.int .i64)).toArray[k3 * 1]? = some (.int .i64 (E.getD k3 0)) := row_get (Value.int .i64) 0 (by omega)
    (refine gK ?_; refine gX ?_; refine gQ ?_; refine gB ?_; refine gV ?_; refine gM ?_; apply gw_d; exact w_index (m := k3) rfl rfl rfl rfl rfl hlt3; apply gw_d; exact w_load_row rfl rfl rfl .here hrow3; (iterate 2 refine gM ?_); refine gO ?_; refine gQ ?_; refine gV ?_; refine gM ?_; refine gC ?_; refine gO ?_)
    refine gc_if_dec rfl (fun h4 => ?_) (fun h4 => ?_)
    ·have hsame : lstS l st c lim E k3 = E := by unfold lstS; rw [if_pos h4]
     (refine gI ?_; refine gZ ?_; refine gJ ?_; refine gX ?_; refine gG ?_; refine gA ?_; refine gM ?_; refine gw_nil ?_)
     refine gx_round (k3 + 1) (by omega) (by omega) kK ⟨rfl, trivial⟩ ?_
     rw [hEn, hsame]
     exact Sub.all _
    ·have hf0 : 0 ≤ E.getD k3 0 := by omega
     have hfM := hEM k3
     have hfin : lstS l st c lim E k3 = (List.range l.length).foldl (lstI l st c lim k3 (E.getD k3 0)) E := by unfold lstS; rw [if_neg h4]
     generalize E.getD k3 0 = f at hf0 hfM hfin
     (refine gK ?_; refine gX ?_; refine gV ?_; refine gM ?_; refine gL ?_; refine gM ?_; refine gO ?_; refine gB ?_)
     refine gc_loop1 (σ := Nat) [82, 83, 84, 85, 21, 20, 86, 87, 88, 89, 90, 91, 92, 93, 94, 95, 96, 97, 98, 99, 100, 101, 102, 103, 22, 105, 106, 107, 108, 109, 110, 111, 112, 113, 104, 114, 115, 23, 24, 116, 117, 118, 119, 120, 121, 122, 123, 124, 125, 126, 127, 128, 129, 130, 131, 132, 133, 134, 135, 136, 137, 138, 139, 140, 141, 81] (fun i => [(81, .int .i64 i)]) (fun i => Box be 3 (((List.range i).foldl (lstI l st c lim k3 f) E).map (Value.int .i64)).toArray) (fun i => i ≤ l.length) (fun i => l.length - i) 0 (Nat.zero_le _) ⟨rfl, trivial⟩ rfl ?_
     rintro i base4 hi4
     (refine gV ?_; refine gC ?_; refine gO ?_; refine gQ ?_)
     refine gc_if_dec rfl (fun h5 => ?_) (fun h5 => ?_)
     ·have hlt5 : i < l.length := by omega
      obtain ⟨ad6, _, hv6, _, _, hb6, hcell6⟩ := hl.at' 5 rfl (by omega)
      injection hv6 with e1 e2 e3
      subst e1 e3
      obtain ⟨cs6, hce6, Aa, ca2, Au, cu, rfl, hnm, q1, q2⟩ := hcell6 i hlt5
      have hoi := hop i hlt5
      have hbi : befN l[i] < 65536 := by have := bef_lt (o := l[i]) h16 hoi.2.2.2.2 l[i].after.length; rw [List.take_length] at this; exact this
      have hrow6 : ((l.map befN).map vN).toArray[i * 1]? = some (.int .i64 (befN l[i] : Int)) := by
       rw [row_get vN 0 (by rw [List.length_map]; exact hlt5), List.getD_eq_getElem?_getD, List.getElem?_map, List.getElem?_eq_getElem hlt5]
       rfl
      have hin : (List.range (i + 1)).foldl (lstI l st c lim k3 f) E = lstI l st c lim k3 f ((List.range i).foldl (lstI l st c lim k3 f) E) i := by rw [List.range_succ, List.foldl_append, List.foldl_cons, List.foldl_nil]
      have hFl : ((List.range i).foldl (lstI l st c lim k3 f) E).length = 2 ^ l.length := by rw [foldl_len (fun E a => lstI_len), hEl]
      generalize (List.range i).foldl (lstI l st c lim k3 f) E = F at hin hFl
      (refine gK ?_; refine gX ?_; refine gQ ?_; refine gB ?_; refine gV ?_; refine gM ?_; apply gw_d; exact w_index rfl rfl rfl rfl (by with_reducible exact rfl) (by omega); apply gw_d; exact w_load_elem rfl rfl rfl (by assumption) (by assumption) (by rfl); refine w_alloc rfl (fun _ => ?_); refine gM ?_; refine w_store_all rfl rfl rfl rfl rfl .here rfl ?_; refine gO ?_; refine gQ ?_; refine gV ?_; (iterate 2 refine gM ?_))
      have hgi : l.getD i opZ = l[i] := by rw [List.getD_eq_getElem?_getD, List.getElem?_eq_getElem hlt5]; rfl
      have hi64 : min ((i : Int)).toNat IntKind.i64.bits = i := by show min ((i : Int)).toNat 64 = _; omega
      have hshr : (k3 : Int).fdiv (2 ^ (min ((i : Int)).toNat IntKind.i64.bits)) = ((k3 / 2 ^ i : Nat) : Int) := by
       rw [hi64, two_pow_cast]
       exact fdiv_nat _ _
      have hq : k3 / 2 ^ i < 65536 := Nat.lt_of_le_of_lt (Nat.div_le_self _ _) (by omega)
      by_cases hb1 : k3.testBit i = true
      ·have hm1 : k3 / 2 ^ i % 2 = 1 := by rw [Nat.testBit_eq_decide_div_mod_eq] at hb1; simpa using hb1
       have hsame : lstI l st c lim k3 f F i = F := by unfold lstI; rw [if_pos (.inl hb1)]
       rw [hsame] at hin
       generalize k3 / 2 ^ i = q at hshr hq hm1
       (apply gw_d; exact det_shr rfl rfl rfl rfl (by omega) hshr; apply gw_d; exact det_andT rfl rfl rfl rfl hq hm1; refine gC ?_; refine gM ?_; (iterate 7 refine gU ?_); refine gPp ?_; refine gO ?_; refine gc_if_true rfl ?_; refine gI ?_; refine gZ ?_; refine gJ ?_; refine gX ?_; refine gG ?_; refine gA ?_; refine gM ?_; refine gw_nil ?_)
       refine gx_round (i + 1) (by omega) (by omega) kK ⟨rfl, trivial⟩ ?_
       rw [hin]
       exact Sub.tail
      ·have hm1 : k3 / 2 ^ i % 2 = 0 := by rw [Nat.testBit_eq_decide_div_mod_eq] at hb1; simp at hb1; omega
       have hk6 : k3 < 65536 := by omega
       generalize k3 / 2 ^ i = q at hshr hq hm1
       (apply gw_d; exact det_shr rfl rfl rfl rfl (by omega) hshr; apply gw_d; exact det_andT rfl rfl rfl rfl hq hm1; refine gC ?_; (iterate 3 refine gM ?_); apply gw_d; exact w_index (m := i) rfl rfl rfl rfl rfl hlt5; apply gw_d; exact w_load_row rfl rfl rfl (.there (.there .here)) hrow6; refine gM ?_; apply gw_d; exact det_andNotI rfl rfl rfl rfl hbi hk6; refine gC ?_; refine gPq ?_; refine gO ?_)
       refine gc_if_dec rfl (fun hb2 => ?_) (fun hb2 => ?_)
       ·have hsame : lstI l st c lim k3 f F i = F := by unfold lstI; rw [if_pos (.inr (by rw [hgi]; omega))]
        rw [hsame] at hin
        (refine gI ?_; refine gZ ?_; refine gJ ?_; refine gX ?_; refine gG ?_; refine gA ?_; refine gM ?_; refine gw_nil ?_)
        refine gx_round (i + 1) (by omega) (by omega) kK ⟨rfl, trivial⟩ ?_
        rw [hin]
        exact Sub.tail
       ·have hlow : ¬ (k3.testBit i = true ∨ ¬ less (befN (l.getD i opZ)) k3 = 0) := by
         rw [hgi]
         intro hc
         rcases hc with hc | hc
         ·exact hb1 hc
         ·exact hb2 (by omega)
        have h2l : 2 ^ i < 65536 := pow16 (by omega)
        have h2a : IntKind.i64.wrap (1 * 2 ^ (min ((i : Int)).toNat IntKind.i64.bits)) = ((2 ^ i : Nat) : Int) := by
         have e1 : (1 : Int) * 2 ^ (min ((i : Int)).toNat IntKind.i64.bits) = ((2 ^ i : Nat) : Int) := by
          rw [Int.one_mul, hi64, two_pow_cast]
         rw [e1]
         generalize 2 ^ i = z at h2l ⊢
         exact wrap_in (z := (z : Int)) (by omega)
        have hnx : k3 ||| 2 ^ i < 2 ^ l.length := Nat.or_lt_two_pow hlt3 (Nat.pow_lt_pow_right (by decide) hlt5)
        have hst := hsr i hlt5
        obtain ⟨A8, c8, hv8, hc8, hm8, hcell8⟩ := hs.int
        rw [hv8]
        (refine gK ?_; refine gX ?_; refine gV ?_; (iterate 2 refine gM ?_); apply gw_d; exact det_shl rfl rfl rfl rfl (by omega) h2a; apply gw_d; exact det_orI rfl rfl rfl rfl hk6 h2l; refine gM ?_; refine gO ?_; refine gQ ?_)
        have hsi : st.getD i 0 = st[i] := by rw [List.getD_eq_getElem?_getD, List.getElem?_eq_getElem (by omega)]; rfl
        obtain ⟨ad8, rfl, hb8, hce8, _⟩ := hcell8 i (by omega)
        have hAd : ∀ L w', St w L w' → Ok Tryz.prog 32 [.int .i64 f, .int .i64 c, .int .i64 l[i].minutes, .int .i64 st[i]].toArray w' fun r _ => r = .tuple #[.int .i64 (adV f c l[i].minutes st[i]), .bool (adB f c l[i].minutes st[i])] := fun L w' _ => add_ok w' f c _ _ ⟨hf0, by omega⟩ hc ⟨by omega, by omega⟩ (by rw [← hsi]; exact hst)
        have hfold : lstI l st c lim k3 f F i = if adB f c l[i].minutes st[i] = true ∧ adV f c l[i].minutes st[i] ≤ lim ∧ (F.getD (k3 ||| 2 ^ i) 0 < 0 ∨ adV f c l[i].minutes st[i] < F.getD (k3 ||| 2 ^ i) 0) then F.set (k3 ||| 2 ^ i) (adV f c l[i].minutes st[i]) else F := by
         unfold lstI
         rw [if_neg hlow, hgi, hsi]
        refine gc_draw 14 (by kernel_rfl) (by kernel_rfl) ?_
        ((iterate 2 refine dM ?_); apply gd_d; exact w_field rfl rfl rfl; apply gd_d; exact w_load_box rfl rfl rfl .here rfl; (iterate 2 refine dM ?_); apply gd_d; exact w_index (m := i) rfl rfl rfl rfl rfl (by omega); apply gd_d; exact w_load_at rfl rfl rfl (by assumption) (by assumption); apply gd_d; exact w_call rfl rfl (hAd _) rfl; refine dM ?_; apply gd_d; exact det_extract rfl rfl rfl (by conv => (lhs; whnf)); apply gd_d; exact det_extract rfl rfl rfl (by conv => (lhs; whnf)); (iterate 2 refine dM ?_); refine gd_nil ?_; refine gN ?_; (iterate 2 refine gM ?_))
        generalize k3 ||| 2 ^ i = nx at hnx hfold
        generalize adV f c l[i].minutes st[i] = V at hfold
        generalize adB f c l[i].minutes st[i] = Y at hfold
        have hrow7 : (F.map (Value.int .i64)).toArray[nx * 1]? = some (.int .i64 (F.getD nx 0)) := row_get (Value.int .i64) 0 (by omega)
        generalize F.getD nx 0 = X at hrow7 hfold
        cases Y with
        | false =>
         rw [if_neg (by simp)] at hfold
         rw [hfold] at hin
         ((iterate 3 refine gU ?_); refine gPq ?_; refine gM ?_; (iterate 13 refine gU ?_); refine gPq ?_; refine gO ?_; refine gc_if_false rfl ?_; refine gK ?_; refine gH ?_; refine gX ?_; refine gG ?_; refine gA ?_; refine gM ?_; refine gw_nil ?_)
         refine gx_round (i + 1) (by omega) (by omega) kK ⟨rfl, trivial⟩ ?_
         rw [hin]
         exact Sub.tail
        | true =>
         by_cases hset : V ≤ lim ∧ (X < 0 ∨ V < X)
         ·rw [if_pos ⟨rfl, hset⟩] at hfold
          rw [hfold] at hin
          focus ((iterate 2 refine gM ?_); refine gC ?_; refine gPp ?_; refine gM ?_; refine gD (fun _ => ?_) (fun _ => ?_); (iterate 2 refine gM ?_); apply gw_d; exact w_index (m := nx) rfl rfl rfl rfl rfl hnx; apply gw_d; exact w_load_row rfl rfl rfl (.there .here) hrow7; refine gC ?_; refine gM ?_; refine gD (fun _ => ?_) (fun _ => ?_); (iterate 6 refine gU ?_); (iterate 2 refine gPp ?_); refine gO ?_; refine gc_if_true rfl ?_; refine gG ?_; (iterate 3 refine gM ?_); apply gw_d; exact w_index (m := nx) rfl rfl rfl rfl rfl hnx; rotate_left; (iterate 3 refine gM ?_); apply gw_d; exact w_index (m := nx) rfl rfl rfl rfl rfl hnx; apply gw_d; exact w_load_row rfl rfl rfl (.there .here) hrow7; refine gC ?_; refine gPq ?_; refine gPp ?_; refine gO ?_; refine gc_if_dec rfl (fun _ => ?_) (fun _ => ?_); refine gG ?_; (iterate 3 refine gM ?_); apply gw_d; exact w_index (m := nx) rfl rfl rfl rfl rfl hnx; rotate_left; refine gK ?_; refine gH ?_; refine gX ?_; refine gG ?_; refine gA ?_; refine gM ?_; refine gw_nil ?_; rotate_left; (iterate 13 refine gU ?_); refine gPq ?_; refine gO ?_; refine gc_if_false rfl ?_; refine gK ?_; refine gH ?_; refine gX ?_; refine gG ?_; refine gA ?_; refine gM ?_; refine gw_nil ?_; rotate_left)
          all_goals first | (exfalso; omega) | skip
          all_goals (refine w_store_row (n := 1) (v := .int .i64 V) rfl rfl rfl rfl rfl (.there .here) (by rw [List.size_toArray, List.length_map, hFl]; omega) (row_set (Value.int .i64) (by rw [hFl]; exact hnx) V) ?_)
          all_goals (refine gw_nil ?_; refine gH ?_; refine gX ?_; refine gG ?_; refine gA ?_; refine gM ?_; refine gw_nil ?_)
          all_goals refine gx_round (i + 1) (by omega) (by omega) kK ⟨rfl, trivial⟩ ?_
          all_goals rw [hin]
          all_goals exact (.cons .here (.cons (.there .here) .nil))
         ·rw [if_neg (fun h => hset h.2)] at hfold
          rw [hfold] at hin
          focus ((iterate 2 refine gM ?_); refine gC ?_; refine gPp ?_; refine gM ?_; refine gD (fun _ => ?_) (fun _ => ?_); (iterate 2 refine gM ?_); apply gw_d; exact w_index (m := nx) rfl rfl rfl rfl rfl hnx; apply gw_d; exact w_load_row rfl rfl rfl (.there .here) hrow7; refine gC ?_; refine gM ?_; refine gD (fun _ => ?_) (fun _ => ?_); (iterate 6 refine gU ?_); (iterate 2 refine gPp ?_); refine gO ?_; refine gc_if_true rfl ?_; refine gG ?_; (iterate 3 refine gM ?_); apply gw_d; exact w_index (m := nx) rfl rfl rfl rfl rfl hnx; rotate_left; (iterate 3 refine gM ?_); apply gw_d; exact w_index (m := nx) rfl rfl rfl rfl rfl hnx; apply gw_d; exact w_load_row rfl rfl rfl (.there .here) hrow7; refine gC ?_; refine gPq ?_; refine gPp ?_; refine gO ?_; refine gc_if_dec rfl (fun _ => ?_) (fun _ => ?_); refine gG ?_; (iterate 3 refine gM ?_); apply gw_d; exact w_index (m := nx) rfl rfl rfl rfl rfl hnx; rotate_left; refine gK ?_; refine gH ?_; refine gX ?_; refine gG ?_; refine gA ?_; refine gM ?_; refine gw_nil ?_; rotate_left; (iterate 13 refine gU ?_); refine gPq ?_; refine gO ?_; refine gc_if_false rfl ?_; refine gK ?_; refine gH ?_; refine gX ?_; refine gG ?_; refine gA ?_; refine gM ?_; refine gw_nil ?_; rotate_left)
          all_goals first | (exfalso; omega) | skip
          all_goals refine gx_round (i + 1) (by omega) (by omega) kK ⟨rfl, trivial⟩ ?_
          all_goals rw [hin]
          all_goals exact Sub.tail
     ·obtain rfl : i = l.length := by omega
      rw [← hfin]
      (refine gI ?_; (iterate 2 refine gZ ?_); refine gJ ?_; refine gH ?_; refine gX ?_; refine gG ?_; refine gA ?_; refine gM ?_; refine gw_nil ?_)
      refine gx_round (k3 + 1) (by omega) (by omega) kK ⟨rfl, trivial⟩ ?_
      rw [hEn]
      exact Sub.all _
   ·have hk4 : k3 = 2 ^ l.length := by omega
    rw [hET hk4]
    have hrow4 : (E.map (Value.int .i64)).toArray[(2 ^ l.length - 1) * 1]? = some (.int .i64 (E.getD (2 ^ l.length - 1) 0)) := row_get (Value.int .i64) 0 (by omega)
    (refine gI ?_; (iterate 2 refine gZ ?_); refine gJ ?_; refine gX ?_; refine gQ ?_; refine gV ?_; (iterate 2 refine gM ?_); apply gw_d; exact w_index (m := 2 ^ l.length - 1) rfl rfl rfl rfl (by omega) (by omega); apply gw_d; exact w_load_row rfl rfl rfl .here hrow4; refine gC ?_; refine gO ?_)
    refine gc_if_dec rfl (fun h4 => ?_) (fun h4 => ?_)
    ·rw [if_pos h4, decide_eq_false (by omega)]
     (refine gV ?_; (iterate 2 refine gM ?_); refine gO ?_; refine gR ?_; refine gT ?_)
     exact gx_ret2 (u := .int _ _) (v := .bool _) rfl rfl rfl (fun w' s => rfl)
    ·rw [if_neg h4, decide_eq_true (by omega)]
     (refine gK ?_; refine gX ?_; refine gV ?_; (iterate 2 refine gM ?_); apply gw_d; exact w_index (m := 2 ^ l.length - 1) rfl rfl rfl rfl (by omega) (by omega); apply gw_d; exact w_load_row rfl rfl rfl .here hrow4; (iterate 2 refine gM ?_); refine gO ?_; refine gR ?_)
     exact gx_ret2 (u := .int _ _) (v := .bool _) rfl rfl rfl (fun w' s => rfl)
section
variable {κ : Type} [DecidableEq κ] {P : Program} {kt n : Nat} [CInts P kt n] {f : κ → List Int}
end

section
variable {P : Program} {ops : Array Oper} {Q : Exit → Act → World → Prop} {N : Nat} {w0 : World} {L L' : List Res} {rest : List Oper} {e : Env} {o : Oper} {t : TypeId} {x : Operand} {v : Value} {n : Nat}
theorem w_load_rowN [CAgg P t n] {b i : Nat} {bt : TypeId} {cs : Array Value} {l : List Value} (hop : o.op = .load t x) (hw : wantedE N ops e o = true) (hx : ev N e x = .pointer (some ((⟨b, 0, none⟩ : Addr).add i))) (hp : Pick L (Box b bt cs) L') (hc : (cs.toList.drop i).take n = l) (hn : l.length = n) :
  Det P ops N w0 L o e (.agg l.toArray) := w_load_part (i := i) hop hw (by rw [hx, add_zero]) hp hc hn
theorem w_load_rowF [CNotAgg P t] {b i j : Nat} {ty : TypeId} {cs : Array Value} (hop : o.op = .load t x) (hw : wantedE N ops e o = true) (hx : ev N e x = .pointer (some (((⟨b, 0, none⟩ : Addr).add i).add j))) (hp : Pick L (Box b ty cs) L') (hc : cs[i + j]? = some v) : Det P ops N w0 L o e v :=
 w_load_row hop hw (by rw [hx, add_add]) hp hc
end
theorem cells_chunk {α : Type} {enc : α → List Value} {sz n : Nat} {cs : Array Value} {l : List α} (h : cs.toList.take (n * sz) = l.flatMap enc) (hl : ∀ x ∈ l, (enc x).length = sz) (hn : n = l.length) {k : Nat} (hk : k < l.length) : (cs.toList.drop (k * sz)).take sz = enc l[k] := by
 have he := hl _ (List.getElem_mem hk)
 apply List.ext_getElem?
 intro j
 rw [List.getElem?_take]
 by_cases hj : j < sz
 ·rw [if_pos hj, List.getElem?_drop, ← flat_get l hl k hk j hj, ← h, List.getElem?_take, if_pos]
  subst hn
  have : (k + 1) * sz ≤ l.length * sz := Nat.mul_le_mul_right _ hk
  rw [Nat.add_mul, Nat.one_mul] at this
  omega
 ·rw [if_neg hj, List.getElem?_eq_none (by omega)]
theorem cells_at {α : Type} {enc : α → List Value} {sz n : Nat} {cs : Array Value} {l : List α} (h : cs.toList.take (n * sz) = l.flatMap enc) (hl : ∀ x ∈ l, (enc x).length = sz) (hn : n = l.length) {k : Nat} (hk : k < l.length) (j : Nat) (hj : j < sz) : cs[k * sz + j]? = (enc l[k])[j]? := by
 rw [← cells_chunk h hl hn hk, List.getElem?_take, if_pos hj, List.getElem?_drop, Array.getElem?_toList]
section
variable {P : Program} {ops : Array Oper} {Q : Exit → Act → World → Prop} {N : Nat} {w0 : World} {L L' : List Res} {rest : List Oper} {e : Env} {o : Oper} {t : TypeId} {x ix : Operand} {v : Value} {n c el sz : Nat} {A : Option Addr} {xs : List Value}
def adr (A : Option Addr) : Addr := A.getD ⟨0, 0, none⟩
theorem own_some {w : World} {el' : TypeId} {sz' : Nat} (s : St w0 L w) (hp : Pick L (Own A n c el' sz' xs) L') (hn : 0 < n) : ∃ g cs, A = some ⟨g, 0, none⟩ ∧ w.heap[g]? = some (.cells cs el' (0, 0)) ∧ cs.toList.take (n * sz') = xs := by
 have hown : w.ownsRow 0 el' sz' (.slice A n c) n xs := (s.pick hp).head
 rcases hown.2 with ⟨_, h0⟩ | ⟨g, cap, cur, hv, _, hg, h1, h2, h3, h4⟩
 ·omega
 ·injection hv with e1 e2 e3
  subst e1 e3
  exact ⟨g, cur, rfl, hg, h4⟩
theorem own_cell {w : World} {el' : TypeId} {sz' i : Nat} {u : Value} (s : St w0 L w) (hp : Pick L (Own A n c el' sz' xs) L') (hn : 0 < n) (hu : xs[i]? = some u) : w.cell? ((adr A).add i) = some u := by
 obtain ⟨g, cs, rfl, hg, ht⟩ := own_some s hp hn
 show w.cell? ((⟨g, 0, none⟩ : Addr).add i) = some u
 rw [add_zero]
 simp only [World.cell?, hg]
 rw [← ht, List.getElem?_take] at hu
 split at hu
 ·simpa using hu
 ·cases hu
theorem w_indexO [CSlice P t el sz] {el' : TypeId} {sz' m : Nat} {k : IntKind} {z : Int} (hop : o.op = .indexAddr t x ix) (hw : wantedE N ops e o = true) (hx : ev N e x = .slice A n c) (hi : ev N e ix = .int k z) (hz : z = (m : Int)) (hm : m < n) (hp : Pick L (Own A n c el' sz' xs) L') :
  Det P ops N w0 L o e (.pointer (some ((adr A).add (m * sz)))) :=
 .inl ⟨hw, fun w s => by
  obtain ⟨g, cs, rfl, _, _⟩ := own_some s hp (by omega)
  rcases w_index (P := P) (ops := ops) (N := N) (w0 := w0) (L := L) (e := e) (o := o) hop hw hx hi hz hm with h | h
  ·exact h.2 w s
  ·rw [hw] at h; cases h.1⟩
theorem w_loadOF [CNotAgg P t] {el' : TypeId} {sz' i j : Nat} (hop : o.op = .load t x) (hw : wantedE N ops e o = true) (hx : ev N e x = .pointer (some (((adr A).add i).add j))) (hp : Pick L (Own A n c el' sz' xs) L') (hn : 0 < n) (hc : xs[i + j]? = some v) : Det P ops N w0 L o e v :=
 det_load hop hw hx fun w s => run_loadVar1 CNotAgg.h (by rw [add_add]; exact own_cell s hp hn hc)
theorem w_loadON {n' : Nat} [CAgg P t n'] {el' : TypeId} {sz' i : Nat} {l : List Value} (hop : o.op = .load t x) (hw : wantedE N ops e o = true) (hx : ev N e x = .pointer (some ((adr A).add i))) (hp : Pick L (Own A n c el' sz' xs) L') (hn : 0 < n) (hc : ∀ j u, l[j]? = some u → xs[i + j]? = some u) (hl : l.length = n') : Det P ops N w0 L o e (.agg l.toArray) :=
 det_load hop hw hx fun w s => run_loadVarN (by rw [hl]; exact CAgg.h) fun j u hu => by rw [add_add]; exact own_cell s hp hn (hc j u hu)
end
theorem flat_at {α : Type} {enc : α → List Value} {sz : Nat} {l : List α} (hl : ∀ x ∈ l, (enc x).length = sz) {k : Nat} (hk : k < l.length) : ∀ j u, (enc l[k])[j]? = some u → (l.flatMap enc)[k * sz + j]? = some u := fun j u hu => by
 have hj : j < (enc l[k]).length := (List.getElem?_eq_some_iff.1 hu).1
 rw [flat_get l hl k hk j (by rw [← hl _ (List.getElem_mem hk)]; exact hj)]
 exact hu
/-- From w to w' nothing that was there has turned but block b. -/
structure TurnAt (b : Nat) (w w' : World) : Prop where
 size : w.heap.size ≤ w'.heap.size
 os : w'.os = w.os
 tape : w'.tape = w.tape
 output : w'.output = w.output
 block : ∀ k, k < w.heap.size → ¬ k = b → w'.heap[k]? = w.heap[k]?
/-- A call that returns, keeps all that was there but block b, in which it leaves cells; φ tells the result and the cells. -/
def OkB (P : Program) (f : FuncId) (args : Array Value) (w : World) (b : Nat) (bt : TypeId) (φ : Value → Array Value → Prop) : Prop :=
 Calls P f args w fun x w' => ∃ v cs, x = .returned v ∧ TurnAt b w w' ∧ w'.heap[b]? = some (.cells cs bt (0, 0)) ∧ φ v cs
theorem OkB.mono {P : Program} {f : FuncId} {args : Array Value} {w : World} {b : Nat} {bt : TypeId} {φ ψ : Value → Array Value → Prop} (h : OkB P f args w b bt φ) (k : ∀ v cs, φ v cs → ψ v cs) : OkB P f args w b bt ψ :=
 Calls.mono h fun _ _ ⟨v, cs, e, t, hb, p⟩ => ⟨v, cs, e, t, hb, k v cs p⟩
/-- The world without block b and what came after it. -/
def cut (w : World) (b : Nat) : World := { w with heap := w.heap.extract 0 b }
theorem cut_size {w : World} {b : Nat} (h : b ≤ w.heap.size) : (cut w b).heap.size = b := by
 show (w.heap.extract 0 b).size = b
 rw [Array.size_extract]
 omega
theorem cut_get {w : World} {b k : Nat} (h : b ≤ w.heap.size) (hk : k < b) : (cut w b).heap[k]? = w.heap[k]? := by
 show (w.heap.extract 0 b)[k]? = w.heap[k]?
 rw [Array.getElem?_extract, if_pos (by omega), Nat.zero_add]
/-- What came after block b. -/
def Rest (w : World) (b : Nat) : Res := ⟨fun x => b < x ∧ x < w.heap.size, fun w' => ∀ x, b < x → x < w.heap.size → w'.heap[x]? = w.heap[x]?, fun _ _ h p x h1 h2 => (h x ⟨h1, h2⟩).trans (p x h1 h2)⟩
theorem cut_st {w : World} {b : Nat} {bt : TypeId} {cs : Array Value} (hb : w.heap[b]? = some (.cells cs bt (0, 0))) : St (cut w b) [Box b bt cs, Rest w b] w := by
 have hlt : b < w.heap.size := (Array.getElem?_eq_some_iff.1 hb).1
 have hsz := cut_size (w := w) (b := b) (by omega)
 refine ⟨⟨rfl, rfl, rfl, by omega, fun k hk => ?_⟩, hb, fun x hx => ?_, fun x hx q hq => ?_, fun x h1 h2 => rfl, fun x hx => ?_, fun x hx q hq => absurd hq List.not_mem_nil, trivial⟩
 ·rw [hsz] at hk
  exact (cut_get (by omega) hk).symm
 ·obtain rfl : x = b := hx
  rw [hsz]
  omega
 ·obtain rfl : x = b := hx
  rw [List.mem_singleton] at hq
  subst hq
  intro h
  have : x < x ∧ x < w.heap.size := h
  omega
 ·have : b < x ∧ x < w.heap.size := hx
  rw [hsz]
  omega
def PostB (P : Program) (fn : Func) (w : World) (b : Nat) (bt : TypeId) (φ : Value → Array Value → Prop) : Exit → Act → World → Prop :=
 bodyPost P fn fun x w' => ∃ v cs, x = .returned v ∧ TurnAt b w w' ∧ w'.heap[b]? = some (.cells cs bt (0, 0)) ∧ φ v cs
theorem results_none {fn : Func} {tmps : Array Value} {P : Program} {w : World} (h : fn.results = #[]) : (results fn tmps).run P w = .ok (.tuple #[]) w := by
 simp [results, h]
section
variable {P : Program} {ops : Array Oper} {Q : Exit → Act → World → Prop} {N : Nat} {w0 : World} {L L' : List Res} {rest : List Oper} {e : Env} {o : Oper}
theorem okB_enter {f : FuncId} {fn : Func} {c : Code} {l : List Value} {w : World} {b : Nat} {bt : TypeId} {cs : Array Value} {φ : Value → Array Value → Prop} (hbox : w.heap[b]? = some (.cells cs bt (0, 0))) (hf : P.funcs[f]? = some fn) (hb : fn.body = some c) (hN : fn.ntmps = N) (hs : Nat.ble l.length N = true)
  (h : GC P (PostB P fn w b bt φ) N (cut w b) [Box b bt cs, Rest w b] c (argE 0 l)) : OkB P f l.toArray w b bt φ := by
 refine calls_of_wp hf hb ?_
 have hle : l.toArray.size ≤ N := by simpa using Nat.le_of_ble_eq_true hs
 rw [hN, mk_args N l.toArray hle]
 have he : (fun i => l.toArray.getD i undef) = argE 0 l := by
  funext i
  rw [argE_apply]
  simp
 rw [he]
 exact h.h w (cut_st hbox)
theorem gxB_ret {fn : Func} {w : World} {b : Nat} {bt : TypeId} {cs : Array Value} {φ : Value → Array Value → Prop} {v : Value} (hb : b < w.heap.size) (hr : ∀ w', St (cut w b) L w' → (results fn (mk N e).tmps).run P w' = .ok v w') (hs : Sub L [Box b bt cs, Rest w b]) (h : φ v cs) :
  GX (PostB P fn w b bt φ) N (cut w b) L .ret e := ⟨fun w' s => by
 have s1 := St.sub hs s
 have hsz := cut_size (w := w) (b := b) (by omega)
 have hbox : w'.heap[b]? = some (.cells cs bt (0, 0)) := s1.head
 have hrest : ∀ x, b < x → x < w.heap.size → w'.heap[x]? = w.heap[x]? := s1.drop.head
 have hlt : b < w'.heap.size := (Array.getElem?_eq_some_iff.1 hbox).1
 refine ⟨rfl, v, hr w' s, v, cs, rfl, ⟨?_, s1.below.os, s1.below.tape, s1.below.output, fun k hk hne => ?_⟩, hbox, h⟩
 ·rcases Nat.lt_or_ge (b + 1) w.heap.size with h1 | h1
  ·have h2 := (s1.drop.sep.fp _ List.mem_cons_self (w.heap.size - 1) (show b < w.heap.size - 1 ∧ w.heap.size - 1 < w.heap.size by omega)).2
   omega
  ·omega
 ·rcases Nat.lt_trichotomy k b with h1 | h1 | h1
  ·exact (s1.below.block k (by omega)).trans (cut_get (by omega) h1)
  ·exact absurd h1 hne
  ·exact hrest k h1 hk⟩
theorem gxB_end {fn : Func} {w : World} {b : Nat} {bt : TypeId} {cs : Array Value} {φ : Value → Array Value → Prop} {v : Value} (hb : b < w.heap.size) (hr : ∀ w', St (cut w b) L w' → (results fn (mk N e).tmps).run P w' = .ok v w') (hs : Sub L [Box b bt cs, Rest w b]) (h : φ v cs) :
  GX (PostB P fn w b bt φ) N (cut w b) L .normal e := ⟨fun w' s => by
 have s1 := St.sub hs s
 have hsz := cut_size (w := w) (b := b) (by omega)
 have hbox : w'.heap[b]? = some (.cells cs bt (0, 0)) := s1.head
 have hrest : ∀ x, b < x → x < w.heap.size → w'.heap[x]? = w.heap[x]? := s1.drop.head
 have hlt : b < w'.heap.size := (Array.getElem?_eq_some_iff.1 hbox).1
 refine ⟨rfl, v, hr w' s, v, cs, rfl, ⟨?_, s1.below.os, s1.below.tape, s1.below.output, fun k hk hne => ?_⟩, hbox, h⟩
 ·rcases Nat.lt_or_ge (b + 1) w.heap.size with h1 | h1
  ·have h2 := (s1.drop.sep.fp _ List.mem_cons_self (w.heap.size - 1) (show b < w.heap.size - 1 ∧ w.heap.size - 1 < w.heap.size by omega)).2
   omega
  ·omega
 ·rcases Nat.lt_trichotomy k b with h1 | h1 | h1
  ·exact (s1.below.block k (by omega)).trans (cut_get (by omega) h1)
  ·exact absurd h1 hne
  ·exact hrest k h1 hk⟩
theorem gxB_ret1 {fn : Func} {w : World} {b t : Nat} {bt : TypeId} {cs : Array Value} {φ : Value → Array Value → Prop} {v : Value} (hb : b < w.heap.size) (hres : fn.results = #[.tmp t]) (hv : ev N e (.tmp t) = v) (hs : Sub L [Box b bt cs, Rest w b]) (h : φ v cs) :
  GX (PostB P fn w b bt φ) N (cut w b) L .ret e :=
 gxB_ret hb (fun w' _ => by rw [results_tmp hres, mk_getD]; exact congrArg (Result.ok · w') hv) hs h
theorem gx_end {fn : Func} {φ : Value → World → Prop} {v : Value} (hr : ∀ w, St w0 L w → (results fn (mk N e).tmps).run P w = .ok v w) (h : ∀ w, St w0 L w → φ v w) :
  GX (Post P fn w0 φ) N w0 L .normal e := ⟨fun w s => ⟨rfl, v, hr w s, v, rfl, s.below, h w s⟩⟩
variable {d : Option Nat} {op : Op} {ty : TypeId} {pos : String} {af : Array Edge} {g : Option (Nat × Bool)}
/-- A call that changes a block of the function's own. -/
theorem gw_callB {f : FuncId} [CCall P f] {ars : Array Operand} {ts : Array TypeId} {l : List Value} {b : Nat} {bt : TypeId} {cs : Array Value} {φ : Value → Array Value → Prop} (hw : wantedE N ops e ⟨d, .call { callee := .value (.func f), args := ars, argTypes := ts }, ty, pos, af, g⟩ = true)
  (hp : Pick L (Box b bt cs) L') (hC : ∀ w, St w0 (Box b bt cs :: L') w → OkB P f l.toArray w b bt φ) (hl : ars.toList.map (ev N e) = l) (k : ∀ v cs', φ v cs' → GW P ops Q N w0 (Box b bt cs' :: L') rest (updO e d v)) :
  GW P ops Q N w0 L (⟨d, .call { callee := .value (.func f), args := ars, argTypes := ts }, ty, pos, af, g⟩ :: rest) e := ⟨fun w s => by
 have s1 := s.pick hp
 refine wl_enter hw (run_call rfl CCall.h hl) (Calls.mono (hC w s1) ?_)
 rintro x w' ⟨v, cs', rfl, ht, hbox, hφ⟩
 refine ⟨v, rfl, (k v cs' hφ).h w' (s1.turn (r' := Box b bt cs') ht.size ht.os ht.tape ht.output (fun j hj hn => ht.block j hj hn) hbox fun j hj => .inl hj)⟩⟩
/-- What lies below a block of the function's own is there in the world that is cut at it. -/
theorem cut_later {w : World} {b : Nat} {bt : TypeId} {cs : Array Value} (s : St w0 L w) (hp : Pick L (Box b bt cs) L') : Ext w0 (cut w b) := by
 have h := (s.sep.fp _ ((hp.mem _).2 (.inl rfl)) b rfl)
 have hsz := cut_size (w := w) (b := b) (by omega)
 exact ⟨s.below.os, s.below.tape, s.below.output, by omega, fun k hk => (cut_get (by omega) (by omega)).trans (s.below.block k hk)⟩
end
theorem Sl.cut {α : Type} {R : Rp α} {w0 w : World} {L L' : List Res} {b : Nat} {bt : TypeId} {cs : Array Value} {v : Value} {l : List α} (s : St w0 L w) (hp : Pick L (Box b bt cs) L') (h : Sl R w0 w0.heap.size v l) : Sl R (cut w b) (cut w b).heap.size v l :=
 (h.mono (cut_later s hp)).grow (cut_later s hp).size
theorem getD_set_self {l : List Int} {i : Nat} (h : l.getD i 0 = -1) : l.set i (-1) = l := by
 apply List.ext_getElem?
 intro j
 rw [List.getElem?_set]
 split
 ·rename_i hij
  subst hij
  rw [List.getD_eq_getElem?_getD] at h
  split
  ·rename_i hlt
   rw [List.getElem?_eq_getElem hlt] at h ⊢
   simp at h
   rw [h]
  ·rw [List.getElem?_eq_none (by omega)]
 ·rfl
theorem first_ok (w : World) (b : Nat) (v : Value) (l : List Opn) (st : List Int) (c lim : Int) (i m : Nat) (hbox : w.heap[b]? = some (.cells (st.map (Value.int .i64)).toArray 3 (0, 0))) (hl : Sl rOp (cut w b) (cut w b).heap.size v l)
  (hsl : st.length = l.length) (hsr : ∀ x ∈ st, -1 ≤ x ∧ x ≤ 100) (hi : i < l.length) (hfree : st.getD i 0 = -1) (hc : 1 ≤ c ∧ c ≤ 1000000) (hm : 1 ≤ m ∧ m ≤ 16) (hlim : 0 ≤ lim ∧ lim ≤ 16000000) (hq : lim / c = (m : Int)) (hlist : listE l (-1) = 0) :
  OkB Tryz.prog 17 [v, .int .i64 c, .slice (some ⟨b, 0, none⟩) l.length l.length, .int .i64 (i : Int), .int .i64 lim].toArray w b 3 fun r cs => cs = (st.map (Value.int .i64)).toArray ∧ ∃ k : Nat, k < m ∧ r = .int .i64 (k : Int) := by
 have hlt : b < w.heap.size := (Array.getElem?_eq_some_iff.1 hbox).1
 obtain ⟨h16, hop⟩ := list_minutes hlist
 have hlst : ∀ (x : Int), -1 ≤ x → x ≤ 100 → ∀ (L : List Res) (w' : World), St (cut w b) (Box b 3 (((st.set i x).map (Value.int .i64)).toArray) :: L) w' → Ok Tryz.prog 16 [v, .int .i64 c, .slice (some ⟨b, 0, none⟩) l.length l.length, .int .i64 lim].toArray w' fun r _ => r = .tuple #[.int .i64 (if (lstE l (st.set i x) c lim).getD (2 ^ l.length - 1) 0 < 0 then 0 else (lstE l (st.set i x) c lim).getD (2 ^ l.length - 1) 0), .bool (decide (0 ≤ (lstE l (st.set i x) c lim).getD (2 ^ l.length - 1) 0))] := fun x hx1 hx2 L w' s => by
  have hall : ∀ y ∈ st.set i x, -1 ≤ y ∧ y ≤ 100 := fun y hy => by
   rcases List.mem_or_eq_of_mem_set hy with h | h
   ·exact hsr y h
   ·omega
  have hlen : (st.set i x).length = l.length := by rw [List.length_set, hsl]
  refine least_ok w' v _ l (st.set i x) c lim (hl.later s) (Sl.boxI s .here hlen.symm (Nat.le_refl _) (by omega) fun y hy => by have := hall y hy; unfold inI64; omega) hlen (fun j hj => ?_) hc hlim.2 hlist
  rw [List.getD_eq_getElem?_getD, List.getElem?_eq_getElem (by omega)]
  exact hall _ (List.getElem_mem _)
 have hself := getD_set_self hfree
 have hil : i < st.length := by omega
 refine okB_enter hbox Tryz.func17 rfl Tryz.ntmps17 rfl ?_
 (refine gV ?_; refine gM ?_; refine gN ?_; (iterate 2 refine gM ?_); apply gw_d; exact det_quo rfl rfl rfl rfl (by omega) (by omega) (by omega); refine gA ?_; refine gM ?_; refine gO ?_; refine gQ ?_; refine gV ?_; (iterate 2 refine gM ?_); refine gO ?_; refine gB ?_)
 refine gc_loop (σ := Nat × Int) [21, 22, 12, 23, 24, 25, 26, 28, 29, 30, 31, 32, 27, 33, 34, 13, 14, 35, 36, 37, 38, 39, 10, 40, 20] (fun s => [(20, .int .i64 s.1)]) (fun s => [Box b 3 (((st.set i s.2).map (Value.int .i64)).toArray), Rest w b]) (fun s => s.1 ≤ m - 1 ∧ -1 ≤ s.2 ∧ s.2 ≤ 100) (fun s => m - 1 - s.1) (0, -1) ⟨Nat.zero_le _, by decide, by decide⟩ ⟨rfl, trivial⟩ (by rw [hself]; exact Sub.all _) ?_
 rintro ⟨k, x⟩ base ⟨hk, hx1, hx2⟩
 dsimp only at hk hx1 hx2 ⊢
 have hsz : ∀ x : Int, (st.set i x).length = st.length := fun x => List.length_set
 (refine gV ?_; refine gC ?_; refine gO ?_; refine gQ ?_)
 refine gc_if_dec rfl (fun h => ?_) (fun h => ?_)
 ·have hkm : k < m - 1 := by omega
  (refine gK ?_; refine gX ?_; refine gQ ?_; refine gB ?_; refine gV ?_; (iterate 2 refine gM ?_); refine gN ?_; (iterate 3 refine gM ?_); apply gw_d; exact w_index (m := i) rfl rfl rfl rfl rfl hi)
  refine w_store_row (n := 1) (v := .int .i64 (k : Int)) rfl rfl rfl rfl rfl .here (by rw [List.size_toArray, List.length_map, hsz]; omega) (row_set (Value.int .i64) (by rw [hsz]; exact hil) (k : Int)) ?_
  rw [List.set_set]
  have hcall := hlst (k : Int) (by omega) (by omega) [Rest w b]
  (refine gN ?_; (iterate 4 refine gM ?_); apply gw_d; exact w_call rfl rfl hcall rfl; refine gM ?_; apply gw_d; exact det_extract rfl rfl rfl (by conv => (lhs; whnf)); apply gw_d; exact det_extract rfl rfl rfl (by conv => (lhs; whnf)); (iterate 2 refine gM ?_); refine gN ?_; refine gM ?_; refine gO ?_)
  refine gc_if_dec rfl (fun h2 => ?_) (fun h2 => ?_)
  ·(refine gV ?_; (iterate 2 refine gM ?_); apply gw_d; exact w_index (m := i) rfl rfl rfl rfl rfl hi)
   refine w_store_row (n := 1) (v := .int .i64 (-1)) rfl rfl rfl rfl rfl .here (by rw [List.size_toArray, List.length_map, hsz]; omega) (row_set (Value.int .i64) (by rw [hsz]; exact hil) (-1)) ?_
   rw [List.set_set, hself]
   (refine gN ?_; (iterate 2 refine gM ?_); refine gO ?_; refine gR ?_; refine gY ?_; (iterate 2 refine gT ?_); refine gY ?_; refine gT ?_)
   exact gxB_ret1 hlt rfl rfl (Sub.all _) ⟨rfl, k, by omega, rfl⟩
  ·(refine gK ?_; refine gH ?_; refine gX ?_; refine gG ?_; refine gA ?_; refine gM ?_; refine gw_nil ?_)
   exact gx_round (k + 1, (k : Int)) ⟨by dsimp only; omega, by dsimp only; omega, by dsimp only; omega⟩ (by dsimp only; omega) kK ⟨rfl, trivial⟩ (Sub.all _)
 ·have hkm : k = m - 1 := by omega
  (refine gI ?_; (iterate 2 refine gZ ?_); refine gJ ?_; refine gX ?_; refine gV ?_; (iterate 2 refine gM ?_); apply gw_d; exact w_index (m := i) rfl rfl rfl rfl rfl hi)
  refine w_store_row (n := 1) (v := .int .i64 (-1)) rfl rfl rfl rfl rfl .here (by rw [List.size_toArray, List.length_map, hsz]; omega) (row_set (Value.int .i64) (by rw [hsz]; exact hil) (-1)) ?_
  rw [List.set_set, hself]
  (refine gN ?_; (iterate 2 refine gM ?_); refine gO ?_; refine gR ?_)
  exact gxB_ret1 (v := .int .i64 (lim / c - 1)) hlt rfl rfl (Sub.all _) ⟨rfl, m - 1, by omega, by rw [show ((m - 1 : Nat) : Int) = lim / c - 1 by omega]⟩
theorem arr_ext (l : List Opn) : ∀ (f : Nat) (o : List Int), ∃ t, arr l f o = o ++ t
 | 0, o => ⟨[], by simp [arr]⟩
 | f + 1, o => by
  cases hn : nextOf l o with
  | none => exact ⟨[], by rw [arr_end hn]; simp⟩
  | some i =>
   obtain ⟨t, ht⟩ := arr_ext l f (o ++ [(i : Int)])
   exact ⟨[(i : Int)] ++ t, by rw [arr_step hn, ht, List.append_assoc]⟩
theorem arr_at (l : List Opn) : ∀ (f : Nat) (o : List Int) (k : Nat) (_ : o.length ≤ k) (hk : k < (arr l f o).length), ∃ i : Nat, (arr l f o)[k] = (i : Int) ∧ nextOf l ((arr l f o).take k) = some i
 | 0, o, k, h1, hk => by
  have : (arr l 0 o).length = o.length := rfl
  omega
 | f + 1, o, k, h1, hk => by
  cases hn : nextOf l o with
  | none =>
   rw [arr_end hn] at hk
   omega
  | some i =>
   have he := arr_step (f := f) hn
   have hk' : k < (arr l f (o ++ [(i : Int)])).length := by rw [← he]; exact hk
   obtain ⟨t, ht⟩ := arr_ext l f (o ++ [(i : Int)])
   by_cases hko : k = o.length
   ·refine ⟨i, ?_, ?_⟩
    ·have : (arr l (f + 1) o)[k]? = some (i : Int) := by
      rw [he, ht, hko, List.append_assoc, List.getElem?_append_right (Nat.le_refl _)]
      simp
     rw [List.getElem?_eq_getElem hk] at this
     exact Option.some.inj this
    ·rw [he, ht, hko, List.append_assoc, List.take_left' rfl]
     exact hn
   ·obtain ⟨j, h2, h3⟩ := arr_at l f (o ++ [(i : Int)]) k (by simp; omega) hk'
    refine ⟨j, ?_, by rw [he]; exact h3⟩
    have : (arr l (f + 1) o)[k]? = (arr l f (o ++ [(i : Int)]))[k]? := by rw [he]
    rw [List.getElem?_eq_getElem hk, List.getElem?_eq_getElem hk', h2] at this
    exact Option.some.inj this
theorem sorted_at {l : List Opn} {k : Nat} (hk : k < (sortedL l).length) : ∃ i : Nat, (sortedL l)[k] = (i : Int) ∧ i < l.length ∧ readyB l ((sortedL l).take k) i = true ∧ ∀ j, j < i → readyB l ((sortedL l).take k) j = false := by
 obtain ⟨i, h1, h2⟩ := arr_at l l.length [] k (Nat.zero_le _) hk
 refine ⟨i, h1, ?_⟩
 unfold nextOf at h2
 rw [List.find?_range_eq_some] at h2
 exact ⟨List.mem_range.1 h2.2.1, h2.1, fun j hj => by unfold sortedL; simpa using h2.2.2 j hj⟩
theorem arr_mem {l : List Opn} : ∀ (f : Nat) (o : List Int), (∀ x ∈ o, 0 ≤ x ∧ x < l.length) → ∀ x ∈ arr l f o, 0 ≤ x ∧ x < l.length
 | 0, o, h => h
 | f + 1, o, h => by
  show ∀ x ∈ (match nextOf l o with | some i => arr l f (o ++ [(i : Int)]) | none => o), _
  cases hn : nextOf l o with
  | none => exact h
  | some i =>
   have hi : i < l.length := List.mem_range.1 (List.mem_of_find?_eq_some hn)
   refine arr_mem f _ fun x hx => ?_
   rcases List.mem_append.1 hx with h1 | h1
   ·exact h x h1
   ·rw [List.mem_singleton] at h1; omega
theorem sorted_mem {l : List Opn} : ∀ x ∈ sortedL l, 0 ≤ x ∧ x < l.length := arr_mem _ _ fun x hx => by cases hx
structure Good (l : List Opn) : Prop where
 le : l.length ≤ 16
 op : ∀ i, i < l.length → opE l (-1) i = 0
 full : (sortedL l).length = l.length
theorem list_good {l : List Opn} (he : listE l (-1) = 0) : Good l := by
 have h16 : ¬ 16 < l.length := fun h => by unfold listE at he; rw [if_pos h] at he; cases he
 have hI0 : firstE (opE l (-1)) l.length = 0 := by
  unfold listE at he
  rw [if_neg h16] at he
  split at he
  ·rename_i h1; exact absurd he h1
  ·rename_i h1; simpa using h1
 refine ⟨by omega, firstE_at hI0, ?_⟩
 unfold listE at he
 rw [if_neg h16, if_neg (by rw [hI0]; decide)] at he
 split at he
 ·rename_i h1
  exact of_decide_eq_true h1
 ·cases he
theorem arr_full {l : List Opn} : ∀ (f : Nat) (o : List Int) (T : List (Int × Nat)), Arr l o T → f = l.length - o.length → ∃ T', Arr l (arr l f o) T'
 | 0, o, T, h, _ => ⟨T, h⟩
 | f + 1, o, T, h, hf => by
  cases hn : nextOf l o with
  | none => rw [arr_end hn]; exact ⟨T, h⟩
  | some i =>
   rw [arr_step hn]
   have hn' := hn
   unfold nextOf at hn'
   rw [List.find?_range_eq_some] at hn'
   have h2 := h.step (List.mem_range.1 hn'.2.1) hn'.1 fun j hj => by simpa using hn'.2.2 j hj
   exact arr_full f _ _ h2 (by simp; omega)
theorem sorted_arr (l : List Opn) : ∃ T, Arr l (sortedL l) T := by
 refine arr_full l.length [] ((ixs l.length).map fun i => (i, 0)) ⟨?_, by simp [ixs], rfl⟩ rfl
 rw [List.map_map]
 have : ((fun t : Int × Nat => t.1) ∘ fun i : Int => (i, 0)) = id := rfl
 rw [this, List.map_id]
 symm
 exact List.filter_eq_self.2 fun _ _ => rfl
theorem Good.all {l : List Opn} (h : Good l) {b : Nat} (hb : b < l.length) : ∃ k, ∃ hk : k < (sortedL l).length, (sortedL l)[k] = (b : Int) := by
 obtain ⟨T, hT⟩ := sorted_arr l
 have h1 := hT.len
 have h2 := h.full
 have h3 : T = [] := List.eq_nil_of_length_eq_zero (by omega)
 subst h3
 have h4 : hasB (sortedL l) (b : Int) = true := by
  cases hb' : hasB (sortedL l) (b : Int) with
  | true => rfl
  | false => have := (hT.mem hb).2 hb'; cases this
 obtain ⟨k, hk, he⟩ := List.getElem_of_mem (hasB_iff.1 h4)
 exact ⟨k, hk, he⟩
theorem sorted_new {l : List Opn} {k : Nat} (hk : k < (sortedL l).length) : ¬ (sortedL l)[k] ∈ (sortedL l).take k := by
 obtain ⟨i, h1, _, h3, _⟩ := sorted_at hk
 unfold readyB at h3
 rw [Bool.and_eq_true] at h3
 have : hasB ((sortedL l).take k) (i : Int) = false := by simpa using h3.1
 rw [h1]
 exact hasB_false.1 this
theorem sorted_after {l : List Opn} {k : Nat} (hk : k < (sortedL l).length) : ∀ p ∈ afterOf l (sortedL l)[k].toNat, p ∈ (sortedL l).take k := by
 obtain ⟨i, h1, _, h3, _⟩ := sorted_at hk
 unfold readyB at h3
 rw [Bool.and_eq_true] at h3
 intro p hp
 rw [h1, Int.toNat_natCast] at hp
 exact hasB_iff.1 (List.all_eq_true.1 h3.2 p hp)

theorem sorted_inj {l : List Opn} {k m : Nat} (hk : k < (sortedL l).length) (hm : m < (sortedL l).length) (h : (sortedL l)[k] = (sortedL l)[m]) : k = m := by
 rcases Nat.lt_trichotomy k m with h1 | h1 | h1
 ·exact absurd (by rw [← h, List.mem_take_iff_getElem]; exact ⟨k, by omega, rfl⟩) (sorted_new hm)
 ·exact h1
 ·exact absurd (by rw [h, List.mem_take_iff_getElem]; exact ⟨m, by omega, rfl⟩) (sorted_new hk)
/-- Some order in which each operation comes after those before it. -/
structure Topo (l : List Opn) (so : List Nat) : Prop where
 len : so.length = l.length
 mem : ∀ a, a ∈ so ↔ a < l.length
 nodup : so.Nodup
 after : ∀ j (hj : j < so.length), ∀ a ∈ (l.getD so[j] opZ).after, a.toNat ∈ so.take j
theorem topo {l : List Opn} (h : listE l (-1) = 0) : ∃ so, Topo l so := by
 have hG := list_good h
 refine ⟨(sortedL l).map Int.toNat, by rw [List.length_map, hG.full], fun a => ⟨fun ha => ?_, fun ha => ?_⟩, ?_, fun j hj a ha => ?_⟩
 ·obtain ⟨x, hx, rfl⟩ := List.mem_map.1 ha
  have := sorted_mem (l := l) x hx
  omega
 ·obtain ⟨k, hk, he⟩ := hG.all ha
  refine List.mem_map.2 ⟨_, List.getElem_mem hk, ?_⟩
  rw [he, Int.toNat_natCast]
 ·rw [List.nodup_iff_pairwise_ne, List.pairwise_map, List.pairwise_iff_getElem]
  intro i j hi hj hij he
  have h1 := sorted_mem (l := l) _ (List.getElem_mem hi)
  have h2 := sorted_mem (l := l) _ (List.getElem_mem hj)
  have := sorted_inj (l := l) hi hj (by omega)
  omega
 ·have hj' : j < (sortedL l).length := by simpa using hj
  have hm := sorted_mem (l := l) _ (List.getElem_mem hj')
  rw [List.getElem_map] at ha
  have hlt : (sortedL l)[j].toNat < l.length := by omega
  rw [List.getD_eq_getElem?_getD, List.getElem?_eq_getElem hlt] at ha
  rw [← List.map_take]
  exact List.mem_map.2 ⟨a, sorted_after hj' a (by rw [afterOf_get hlt]; exact ha), rfl⟩
structure Bun where
 (tick garm size lot fr upto : Int)
def rBun : Rp Bun where
 size := 6
 rep _ _ b cs := cs = [.int .i64 b.tick, .int .i64 b.garm, .int .i64 b.size, .int .i64 b.lot, .int .i64 b.fr, .int .i64 b.upto] ∧ inI64 b.tick ∧ inI64 b.fr ∧ inI64 b.upto
 len h := by rw [h.1]; rfl
 mono _ h := h
 grow _ h := h
structure Wrk where
 (name : ByteArray) (machines : List Int)
def rWrk : Rp Wrk where
 size := 2
 rep w S o cs := ∃ A c, cs = [.string o.name, .slice A o.machines.length c] ∧ o.name.size ≤ maxLen ∧ SlS rInt w S (.slice A o.machines.length c) o.machines
 len h := by obtain ⟨_, _, rfl, _⟩ := h; rfl
 mono hb h := by obtain ⟨A, c, h0, h1, h2⟩ := h; exact ⟨A, c, h0, h1, h2.mono hb⟩
 grow hb h := by obtain ⟨A, c, h0, h1, h2⟩ := h; exact ⟨A, c, h0, h1, h2.grow hb⟩
structure Scn where
 (tick op who time : Int)
 deriving DecidableEq
def rScn : Rp Scn where
 size := 4
 rep _ _ b cs := cs = [.int .i64 b.tick, .int .i64 b.op, .int .i64 b.who, .int .i64 b.time] ∧ inI64 b.tick ∧ inI64 b.op ∧ inI64 b.who ∧ inI64 b.time
 len h := by rw [h.1]; rfl
 mono _ h := h
 grow _ h := h
def paidB (ps : List Scn) (t o : Int) : Bool := ps.any fun y => decide (y.tick = t) && decide (y.op = o)
def lastT (ps : List Scn) (t : Int) : Int := ps.foldl (fun a y => if y.tick = t then y.time else a) 0
def afterAt (l : List Opn) (o : Int) : List Int := ((l[o.toNat]?).map (·.after)).getD []
def machAt (l : List Opn) (o : Int) : Int := ((l[o.toNat]?).map (·.machine)).getD 0
def canAt (ws : List Wrk) (k m : Int) : Bool := hasB (((ws[k.toNat]?).map (·.machines)).getD []) m
def knownB (l : List Opn) (ws : List Wrk) (x : Scn) : Bool := decide (0 ≤ x.op ∧ x.op < l.length ∧ 0 ≤ x.who ∧ x.who < ws.length ∧ 0 ≤ x.time ∧ x.time ≤ 1073741824)
def judgeE (l : List Opn) (ws : List Wrk) (ps : List Scn) (x : Scn) : Int :=
 if knownB l ws x = false then 3 else if canAt ws x.who (machAt l x.op) = false then 4 else if paidB ps x.tick x.op = true then 2 else if (afterAt l x.op).all (fun a => paidB ps x.tick a) = false then 5 else if x.time < lastT ps x.tick then 6 else 1
def outE (l : List Opn) (ws : List Wrk) (tk : List Int) (ps : List Scn) (x : Scn) : Int := if hasB tk x.tick = false then 3 else judgeE l ws ps x
def nextP (l : List Opn) (ws : List Wrk) (tk : List Int) (ps : List Scn) (x : Scn) : List Scn := if outE l ws tk ps x = 1 then ps ++ [x] else ps
def paidL (l : List Opn) (ws : List Wrk) (tk : List Int) (xs : List Scn) : List Scn := xs.foldl (nextP l ws tk) []
def outs (l : List Opn) (ws : List Wrk) (tk : List Int) : List Scn → List Scn → List Int
 | _, [] => []
 | ps, x :: xs => outE l ws tk ps x :: outs l ws tk (nextP l ws tk ps x) xs
theorem outs_len (l : List Opn) (ws : List Wrk) (tk : List Int) : ∀ (xs ps : List Scn), (outs l ws tk ps xs).length = xs.length
 | [], _ => rfl
 | _ :: xs, _ => congrArg (· + 1) (outs_len l ws tk xs _)
theorem outs_snoc (l : List Opn) (ws : List Wrk) (tk : List Int) (x : Scn) : ∀ (xs ps : List Scn), outs l ws tk ps (xs ++ [x]) = outs l ws tk ps xs ++ [outE l ws tk (xs.foldl (nextP l ws tk) ps) x]
 | [], _ => rfl
 | y :: xs, ps => by
  show _ :: outs l ws tk _ (xs ++ [x]) = _
  rw [outs_snoc l ws tk x xs]
  rfl
theorem paidL_snoc (l : List Opn) (ws : List Wrk) (tk : List Int) (xs : List Scn) (x : Scn) : paidL l ws tk (xs ++ [x]) = nextP l ws tk (paidL l ws tk xs) x := by
 unfold paidL
 rw [List.foldl_append]
 rfl

def recC (ps : List Scn) (t : Int) : Array Value := ((List.range 16).map (fun k => Value.bool (paidB ps t (k : Nat))) ++ [Value.int .i64 (lastT ps t)]).toArray
theorem recC_size (ps : List Scn) (t : Int) : (recC ps t).size = 17 := by simp [recC]
theorem recC_paid (ps : List Scn) (t : Int) {o : Nat} (ho : o < 16) : (recC ps t)[o]? = some (.bool (paidB ps t o)) := by
 unfold recC
 rw [List.getElem?_toArray, List.getElem?_append_left (by simp; omega), List.getElem?_map, List.getElem?_range ho]
 rfl
theorem recC_last (ps : List Scn) (t : Int) : (recC ps t)[16]? = some (.int .i64 (lastT ps t)) := by
 unfold recC
 rw [List.getElem?_toArray, List.getElem?_append_right (by simp)]
 simp
theorem paidB_snoc (ps : List Scn) (x : Scn) (t o : Int) : paidB (ps ++ [x]) t o = (paidB ps t o || (decide (x.tick = t) && decide (x.op = o))) := by
 unfold paidB
 rw [List.any_append]
 simp
theorem lastT_snoc (ps : List Scn) (x : Scn) (t : Int) : lastT (ps ++ [x]) t = if x.tick = t then x.time else lastT ps t := by
 unfold lastT
 rw [List.foldl_append]
 rfl
theorem recC_other (ps : List Scn) (x : Scn) {t : Int} (h : ¬ x.tick = t) : recC (ps ++ [x]) t = recC ps t := by
 unfold recC
 have e1 : ∀ o, paidB (ps ++ [x]) t o = paidB ps t o := fun o => by rw [paidB_snoc, decide_eq_false h]; simp
 simp only [e1, lastT_snoc, if_neg h]
theorem recC_pay (ps : List Scn) (x : Scn) {o : Nat} (ho : x.op = (o : Int)) (h16 : o < 16) : ((recC ps x.tick).toList.set o (.bool true)).set 16 (.int .i64 x.time) = (recC (ps ++ [x]) x.tick).toList := by
 apply List.ext_getElem?
 intro j
 have hl : (recC ps x.tick).toList.length = 17 := by rw [Array.length_toList]; exact recC_size _ _
 have e1 : ∀ q t (j : Nat), (recC q t).toList[j]? = (recC q t)[j]? := fun q t j => by rw [Array.getElem?_toList]
 rw [List.getElem?_set, List.getElem?_set, List.length_set, hl, e1, e1]
 by_cases h1 : 16 = j
 ·subst h1
  rw [if_pos rfl, if_pos (by omega), recC_last, lastT_snoc, if_pos rfl]
 ·rw [if_neg h1]
  by_cases h2 : o = j
  ·subst h2
   rw [if_pos rfl, if_pos (by omega), recC_paid _ _ h16, paidB_snoc, ho]
   simp
  ·rw [if_neg h2]
   by_cases h3 : j < 16
   ·rw [recC_paid _ _ h3, recC_paid _ _ h3, paidB_snoc, ho, decide_eq_false (p := (o : Int) = (j : Int)) (by omega)]
    simp
   ·rw [Array.getElem?_eq_none (by rw [recC_size]; omega), Array.getElem?_eq_none (by rw [recC_size]; omega)]
theorem set_row {cs : Array Value} {i : Nat} {v : Value} (hi : i < cs.size) (hv : v.cells = #[v]) : (cs.toList.take i ++ v.cells.toList ++ cs.toList.drop (i + 1)).toArray = (cs.toList.set i v).toArray := by
 rw [List.set_eq_take_append_cons_drop, if_pos (by rw [Array.length_toList]; exact hi), hv, List.append_assoc]
 rfl

/- The records of all tickets, and the map that leads to them. No program in sight. -/

def tkAt (tk : List Int) (i : Nat) : Int := tk.getD i 0
def Tix (tk : List Int) : Prop := ∀ i j, i < j → j < tk.length → ¬ tkAt tk i = tkAt tk j
def ptrAt (β : Nat → Nat) (i : Nat) : Value := .pointer (some ⟨β i, 0, none⟩)
def recF (tk : List Int) (β : Nat → Nat) (rt : TypeId) (ps : List Scn) (i : Nat) : Res := Box (β i) rt (recC ps (tkAt tk i))
def mapK (tk : List Int) (β : Nat → Nat) : Nat → List (Int × Value)
 | 0 => []
 | k + 1 => aset (mapK tk β k) (tkAt tk k) (ptrAt β k)
theorem Tix.inj {tk : List Int} (h : Tix tk) {i j : Nat} (hi : i < tk.length) (hj : j < tk.length) (he : tkAt tk i = tkAt tk j) : i = j := by
 rcases Nat.lt_trichotomy i j with h1 | h1 | h1
 ·exact absurd he (h i j h1 hj)
 ·exact h1
 ·exact absurd he.symm (h j i h1 hi)
theorem mapK_old {tk : List Int} {β : Nat → Nat} (h : Tix tk) : ∀ k, k ≤ tk.length → ∀ i, i < k → aget (mapK tk β k) (tkAt tk i) = some (ptrAt β i)
 | 0, _, i, hi => by omega
 | k + 1, hk, i, hi => by
  show aget (aset (mapK tk β k) (tkAt tk k) (ptrAt β k)) (tkAt tk i) = _
  rw [aget_aset]
  split
  ·rename_i he
   rw [h.inj (by omega) (by omega) he]
  ·rename_i he
   exact mapK_old h k (by omega) i (by
    have : ¬ i = k := fun hc => he (by rw [hc])
    omega)
theorem mapK_none {tk : List Int} {β : Nat → Nat} {t : Int} : ∀ k, (∀ i, i < k → ¬ tkAt tk i = t) → aget (mapK tk β k) t = none
 | 0, _ => rfl
 | k + 1, h => by
  show aget (aset (mapK tk β k) (tkAt tk k) (ptrAt β k)) t = _
  rw [aget_aset, if_neg (h k (by omega))]
  exact mapK_none k fun i hi => h i (by omega)
theorem mapK_congr {tk : List Int} {β β' : Nat → Nat} : ∀ k, (∀ i, i < k → β i = β' i) → mapK tk β k = mapK tk β' k
 | 0, _ => rfl
 | k + 1, h => by
  show aset (mapK tk β k) (tkAt tk k) (ptrAt β k) = aset (mapK tk β' k) (tkAt tk k) (ptrAt β' k)
  rw [mapK_congr k fun i hi => h i (by omega)]
  unfold ptrAt
  rw [h k (by omega)]
theorem tk_has {tk : List Int} {t : Int} (h : hasB tk t = true) : ∃ i, i < tk.length ∧ tkAt tk i = t := by
 obtain ⟨i, hi, he⟩ := List.getElem_of_mem (hasB_iff.1 h)
 exact ⟨i, hi, by unfold tkAt; rw [List.getD_eq_getElem?_getD, List.getElem?_eq_getElem hi]; exact he⟩
theorem tk_not {tk : List Int} {t : Int} (h : hasB tk t = false) : ∀ i, i < tk.length → ¬ tkAt tk i = t := fun i hi he => by
 have : hasB tk t = true := hasB_iff.2 (by
  rw [← he]
  unfold tkAt
  rw [List.getD_eq_getElem?_getD, List.getElem?_eq_getElem hi]
  exact List.getElem_mem hi)
 rw [this] at h
 cases h
/-- One more record. -/
theorem rec_push {tk : List Int} {β : Nat → Nat} {rt : TypeId} {k b : Nat} {ps : List Scn} {L : List Res} : Ent (Box b rt (recC ps (tkAt tk k)) :: Coll k (recF tk β rt ps) :: L) (Coll (k + 1) (recF tk (fun i => if i = k then b else β i) rt ps) :: L) :=
 Ent.trans coll_push (coll_congr fun i hi => by
  unfold setR recF
  by_cases h : i = k
  ·subst h; simp
  ·simp [h])
theorem rec_take {tk : List Int} {β : Nat → Nat} {rt : TypeId} {n i : Nat} {ps : List Scn} {L : List Res} (hi : i < n) : Ent (Coll n (recF tk β rt ps) :: L) (Box (β i) rt (recC ps (tkAt tk i)) :: Coll n (setR (recF tk β rt ps) i Emp) :: L) := coll_take hi
theorem rec_put {tk : List Int} {β : Nat → Nat} {rt : TypeId} {i : Nat} {ps : List Scn} {x : Scn} {L : List Res} (h : Tix tk) (hi : i < tk.length) (hx : tkAt tk i = x.tick) : Ent (Box (β i) rt (recC (ps ++ [x]) x.tick) :: Coll tk.length (setR (recF tk β rt ps) i Emp) :: L) (Coll tk.length (recF tk β rt (ps ++ [x])) :: L) :=
 Ent.trans (coll_put hi) (coll_congr fun j hj => by
  unfold setR recF
  by_cases hji : j = i
  ·subst hji; simp [hx]
  ·simp only [if_neg hji]
   rw [recC_other _ _ fun hc => hji (h.inj hj hi (by rw [hx, hc]))])
/-- The row of outcomes, so far. -/
def outRow (l : List Int) (n : Nat) : List Int := l ++ List.replicate (n - l.length) 0
theorem outRow_len {l : List Int} {n : Nat} (h : l.length ≤ n) : (outRow l n).length = n := by simp [outRow]; omega
theorem outRow_set {l : List Int} {n : Nat} (h : l.length < n) (v : Int) : (outRow l n).set l.length v = outRow (l ++ [v]) n := by
 unfold outRow
 rw [List.set_append_right _ _ (Nat.le_refl _), Nat.sub_self]
 obtain ⟨m, hm⟩ : ∃ m, n - l.length = m + 1 := ⟨n - l.length - 1, by omega⟩
 rw [hm, List.replicate_succ, List.set_cons_zero, List.append_assoc, List.length_append]
 have : n - (l.length + [v].length) = m := by simp; omega
 rw [this]
 rfl
theorem outRow_full {l : List Int} : outRow l l.length = l := by simp [outRow]
theorem outRow_nil (n : Nat) : outRow [] n = List.replicate n 0 := by simp [outRow]
theorem Sl.wrk {w : World} {B : Nat} {v : Value} {l : List Wrk} (h : Sl rWrk w B v l) : ∃ A c, v = .slice A l.length c ∧ l.length ≤ c ∧ l.length ≤ 9223372036854775807 ∧
  ∀ k (hk : k < l.length), ∃ ad Am cm, A = some ad ∧ ad.block < B ∧ (∀ j u, [Value.string l[k].name, .slice Am l[k].machines.length cm][j]? = some u → w.cell? (ad.add (k * 2 + j)) = some u) ∧ l[k].name.size ≤ 9223372036854775807 ∧ Sl rInt w B (.slice Am l[k].machines.length cm) l[k].machines := by
 obtain ⟨A, c, hv, h1, h2, h3⟩ := h
 refine ⟨A, c, hv, h1, by unfold maxLen at h2; omega, fun k hk => ?_⟩
 obtain ⟨ad, cs, ha, hlt, hc, Am, cm, rfl, hn, hs⟩ := h3 k hk
 exact ⟨ad, Am, cm, ha, hlt, hc, by unfold maxLen at hn; omega, hs⟩

theorem isMachine_ok (w : World) (m : Int) : Ok Tryz.prog 29 [.int .i64 m].toArray w fun x _ => x = .bool (decide (0 ≤ m ∧ m < 8)) := by
 refine ok_enter Tryz.func29 rfl Tryz.ntmps29 rfl ?_
 focus (refine gV ?_; refine gM ?_; refine gN ?_; refine gM ?_; refine gC ?_; refine gM ?_; refine gD (fun _ => ?_) (fun _ => ?_); refine gM ?_; refine gC ?_; refine gPp ?_; refine gM ?_; refine gO ?_; refine gR ?_; rotate_left; (iterate 2 refine gU ?_); refine gPq ?_; refine gM ?_; refine gO ?_; refine gR ?_; rotate_left)
 ·refine gb1 (fun _ _ => ?_)
  rename_i h _ _
  congr 1
  simp only [show 0 ≤ m from h, true_and]
 ·refine gb1 (fun _ _ => ?_)
  rename_i h _ _
  congr 1
  rw [decide_eq_false (fun h2 => h h2.1)]
theorem can_ok (w : World) (nm : ByteArray) (A : Option Addr) (_c m : Int) (k : Nat) (ms : List Int) (hl : Sl rInt w w.heap.size (.slice A ms.length k) ms) : Ok Tryz.prog 60 [.agg #[.string nm, .slice A ms.length k], .int .i64 m].toArray w fun x _ => x = .bool (hasB ms m) := by
 refine ok_enter Tryz.func60 rfl Tryz.ntmps60 rfl ?_
 (refine gV ?_; refine gw_boxd (v := .agg _) rfl rfl (fun _ => ?_); refine gM ?_; refine gN ?_; refine gF ?_; refine gW .here ?_; refine gM ?_; apply gw_d; exact w_call rfl rfl (fun w' s => containsInt_ok w' _ ms m (hl.later s)) rfl; refine gM ?_; refine gO ?_; refine gR ?_)
 refine gb1 (fun _ _ => ?_)
 congr 1
 unfold hasB isI
 congr 1
 funext x
 simp [eq_comm]
def machF (ms : List Int) (j : Nat) : Int := match ms[j]? with
 | some m => if ¬ (0 ≤ m ∧ m < 8) then 3 else if hasB (ms.take j) m = true then 7 else 0
 | none => 0
def machE (ms : List Int) : Int := firstE (machF ms) ms.length
def wrkE (l : List Wrk) (i : Nat) : Int := match l[i]? with
 | some x => if nameB x.name = false then 1 else if ((l.take i).any fun y => eqS y.name x.name) = true then 7 else machE x.machines
 | none => 0
def skillE (l : List Wrk) : Int := if l.length > 12 then 5 else firstE (wrkE l) l.length
def seenL (ms : List Int) : List Bool := (List.range 8).map fun i => hasB ms ((i : Nat) : Int)
theorem seenL_len (ms : List Int) : (seenL ms).length = 8 := by simp [seenL]
theorem seenL_get (ms : List Int) {m : Nat} (hm : m < 8) : (seenL ms).getD m false = hasB ms m := by
 simp [seenL, hm]
theorem seenL_snoc (ms : List Int) {m : Nat} (_hm : m < 8) : (seenL ms).set m true = seenL (ms ++ [(m : Int)]) := by
 apply List.ext_getElem
 ·simp [seenL]
 ·intro i h1 h2
  simp only [seenL, List.getElem_set, List.getElem_map, List.getElem_range, hasB, List.any_append]
  by_cases h : m = i
  ·subst h; simp
  ·have : ¬ (m : Int) = (i : Int) := by omega
   simp [h, this]
theorem skillCheck_ok (w : World) (v : Value) (l : List Wrk) (hl : Sl rWrk w w.heap.size v l) : Ok Tryz.prog 9 [v].toArray w fun x _ => x = .int .i64 (skillE l) := by
 obtain ⟨A, c, rfl, hc, hm, hcell⟩ := hl.wrk
 refine ok_enter Tryz.func9 rfl Tryz.ntmps9 rfl ?_
 (refine gV ?_; refine gM ?_; refine gO ?_; refine gQ ?_; refine gV ?_; refine gM ?_; refine gL ?_; refine gC ?_; refine gO ?_)
 refine gc_if_dec rfl (fun h => ?_) (fun h12 => ?_)
 ·(refine gV ?_; refine gM ?_; refine gO ?_; refine gR ?_; refine gT ?_)
  refine gi1 (fun _ _ => ?_)
  unfold skillE
  rw [if_pos (by omega)]
 have hE : skillE l = firstE (wrkE l) l.length := by unfold skillE; rw [if_neg (by omega)]
 rw [hE]
 (refine gK ?_; refine gX ?_; refine gQ ?_; refine gV ?_; refine gM ?_; refine gL ?_; refine gM ?_; refine gO ?_; refine gB ?_)
 refine gc_loopK (σ := Nat) [16, 17, 18, 19, 4, 3, 20, 21, 22, 23, 24, 2, 25, 26, 27, 28, 29, 30, 31, 32, 6, 33, 34, 35, 36, 37, 38, 7, 39, 40, 41, 42, 43, 44, 45, 9, 46, 47, 48, 49, 50, 51, 52, 53, 54, 55, 15] (fun k => [(15, .int .i64 k)]) (fun k => k ≤ l.length ∧ firstE (wrkE l) k = 0) (fun k => l.length - k) 0 ⟨Nat.zero_le _, rfl⟩ ⟨rfl, trivial⟩ ?_
 rintro k base ⟨hk, hI⟩
 (refine gV ?_; refine gC ?_; refine gO ?_; refine gQ ?_)
 refine gc_if_dec rfl (fun h => ?_) (fun h => ?_)
 ·have hlt : k < l.length := by omega
  obtain ⟨ad, Am, cm, rfl, hb, hce, hnm, hms⟩ := hcell k hlt
  have hW : wrkE l k = if nameB l[k].name = false then 1 else if ((l.take k).any fun y => eqS y.name l[k].name) = true then 7 else machE l[k].machines := by
   unfold wrkE
   rw [List.getElem?_eq_getElem hlt]
  (refine gK ?_; refine gX ?_; refine gQ ?_; refine gB ?_; refine gV ?_; refine gM ?_; apply gw_d; exact w_index rfl rfl rfl rfl (by with_reducible exact rfl) (by omega); apply gw_d; exact w_load_elem rfl rfl rfl (by assumption) (by assumption) (by rfl); refine w_alloc rfl (fun _ => ?_); refine gM ?_; refine w_store_all rfl rfl rfl rfl rfl .here rfl ?_; refine gO ?_; refine gQ ?_; refine gV ?_; refine gF ?_; refine gW .here ?_)
  (apply gw_d; exact w_buildP [(0, .int .i64 2), (2, .string l[k].name)] (cells := #[.int .i64 2, .bool false, .slice none 0 0, .slice none 0 0, .string l[k].name, .slice none 0 0]) (by rfl) rfl rfl rfl; apply gw_d; exact w_call rfl rfl (fun w _ => fcheck_ok w l[k].name hnm) rfl; refine gC ?_; refine gO ?_)
  refine gc_if_dec rfl (fun h => ?_) (fun h => ?_)
  ·(refine gV ?_; refine gM ?_; refine gO ?_; refine gR ?_; refine gT ?_; refine gY ?_; (iterate 2 refine gT ?_); refine gY ?_; refine gT ?_)
   refine gi1 (fun _ _ => ?_)
   have hn : nameB l[k].name = false := by cases h2 : nameB l[k].name <;> simp_all
   rw [if_pos hn] at hW
   rw [firstE_stop hI (by rw [hW]; decide) hlt, hW]
  have hn : nameB l[k].name = true := by cases h2 : nameB l[k].name <;> simp_all
  rw [if_neg (by rw [hn]; decide)] at hW
  (refine gK ?_; refine gX ?_; refine gQ ?_; refine gV ?_; (iterate 2 refine gM ?_); apply gw_d; exact w_cut_hi rfl rfl rfl rfl (by with_reducible exact rfl) (by omega); refine gL ?_; refine gM ?_; refine gO ?_; refine gB ?_)
  refine gc_loopK (σ := Nat) [30, 31, 32, 6, 33, 34, 35, 36, 37, 2, 38, 29] (fun j => [(29, .int .i64 j)]) (fun j => j ≤ k ∧ ((l.take j).any fun y => eqS y.name l[k].name) = false) (fun j => k - j) 0 ⟨Nat.zero_le _, rfl⟩ ⟨rfl, trivial⟩ ?_
  rintro j base2 ⟨hj, hJ⟩
  (refine gV ?_; refine gC ?_; refine gO ?_; refine gQ ?_)
  refine gc_if_dec rfl (fun h => ?_) (fun h => ?_)
  ·have hjl : j < l.length := by omega
   obtain ⟨ad2, Am2, cm2, h2, hb2, hce2, _, _⟩ := hcell j hjl
   injection h2 with h2
   subst h2
   (refine gK ?_; refine gX ?_; refine gQ ?_; refine gB ?_; refine gV ?_; apply gw_d; exact w_index rfl rfl rfl rfl (by with_reducible exact rfl) (by omega); apply gw_d; exact w_load_elem rfl rfl rfl (by assumption) (by assumption) (by rfl); refine w_alloc rfl (fun _ => ?_); refine w_store_all rfl rfl rfl rfl rfl .here rfl ?_; refine gN ?_; refine gF ?_; refine gW .here ?_; refine gF ?_; refine gW (.there .here) ?_; apply gw_d; exact det_seq rfl rfl rfl rfl; refine gO ?_)
   refine gc_if rfl (fun h => ?_) (fun h => ?_)
   ·(refine gV ?_; refine gM ?_; refine gO ?_; refine gR ?_; refine gY ?_; (iterate 2 refine gT ?_); refine gY ?_; refine gT ?_; refine gY ?_; (iterate 2 refine gT ?_); refine gY ?_; refine gT ?_)
    refine gi1 (fun _ _ => ?_)
    rw [if_pos (List.any_eq_true.2 ⟨l[j], List.mem_take_iff_getElem.2 ⟨j, by omega, rfl⟩, h⟩)] at hW
    rw [firstE_stop hI (by rw [hW]; decide) hlt, hW]
   ·(refine gK ?_; refine gH ?_; refine gX ?_; refine gG ?_; refine gA ?_; refine gM ?_; refine gw_nil ?_)
    exact gx_round (j + 1) ⟨by omega, take_any_snoc hjl hJ h⟩ (by omega) kK ⟨rfl, trivial⟩ Sub.tail
  obtain rfl : j = k := by omega
  rw [if_neg (by rw [hJ]; decide)] at hW
  obtain ⟨_, _, hv, hmc, hmm, hmcell⟩ := hms.int
  injection hv with e1 e2 e3
  subst e1 e3
  (refine gI ?_; (iterate 2 refine gZ ?_); refine gJ ?_; refine gX ?_; refine gV ?_; refine w_alloc rfl (fun _ => ?_); refine gN ?_; refine gF ?_; refine gW (.there .here) ?_; refine gL ?_; refine gM ?_; refine gO ?_; refine gB ?_)
  refine gc_loop1 (σ := Nat) [43, 44, 45, 9, 46, 47, 48, 2, 49, 50, 51, 52, 53, 54, 42] (fun i => [(42, .int .i64 i)]) (fun i => Box _ 102 ((seenL (l[j].machines.take i)).map Value.bool).toArray) (fun i => i ≤ l[j].machines.length ∧ firstE (machF l[j].machines) i = 0) (fun i => l[j].machines.length - i) 0 ⟨Nat.zero_le _, rfl⟩ ⟨rfl, trivial⟩ rfl ?_
  rintro i base3 ⟨hi, hM⟩
  (refine gV ?_; refine gC ?_; refine gO ?_; refine gQ ?_)
  refine gc_if_dec rfl (fun h => ?_) (fun h => ?_)
  ·have hil : i < l[j].machines.length := by omega
   obtain ⟨ad3, rfl, hb3, hce3, _⟩ := hmcell i hil
   have hF : machF l[j].machines i = if ¬ (0 ≤ l[j].machines[i] ∧ l[j].machines[i] < 8) then 3 else if hasB (l[j].machines.take i) l[j].machines[i] = true then 7 else 0 := by
    unfold machF
    rw [List.getElem?_eq_getElem hil]
   (refine gK ?_; refine gX ?_; refine gQ ?_; refine gB ?_; refine gV ?_; apply gw_d; exact w_index rfl rfl rfl rfl (by with_reducible exact rfl) (by omega); apply gw_d; exact w_load_at rfl rfl rfl (by assumption) (by assumption); refine gM ?_; refine gO ?_; refine gQ ?_; refine gV ?_; refine gM ?_; apply gw_d; exact w_call rfl rfl (fun w _ => isMachine_ok w _) rfl; apply gw_d; exact det_not_dec rfl rfl rfl; refine gO ?_)
   refine gc_if rfl (fun h => ?_) (fun h => ?_)
   ·(refine gV ?_; refine gM ?_; refine gO ?_; refine gR ?_; refine gT ?_; refine gY ?_; (iterate 2 refine gT ?_); (iterate 2 refine gY ?_); (iterate 2 refine gT ?_); refine gY ?_; refine gT ?_)
    refine gi1 (fun _ _ => ?_)
    have h' : ¬ (0 ≤ l[j].machines[i] ∧ l[j].machines[i] < 8) := by
     have h9 : l[j].machines[i] < 0 ∨ 8 ≤ l[j].machines[i] := by simpa using h
     omega
    rw [if_pos h'] at hF
    have hME : machE l[j].machines = 3 := by unfold machE; rw [firstE_stop hM (by rw [hF]; decide) hil, hF]
    rw [hME] at hW
    rw [firstE_stop hI (by rw [hW]; decide) hlt, hW]
   have h8 : 0 ≤ l[j].machines[i] ∧ l[j].machines[i] < 8 := by simpa using h
   obtain ⟨m, hmm⟩ : ∃ m : Nat, l[j].machines[i] = (m : Int) := ⟨l[j].machines[i].toNat, by omega⟩
   have hm8 : m < 8 := by omega
   rw [hmm] at hF
   rw [if_neg (by omega)] at hF
   have hsl := seenL_len (l[j].machines.take i)
   have hg : ((seenL (l[j].machines.take i)).map Value.bool).toArray[m * 1]? = some (.bool ((seenL (l[j].machines.take i)).getD m false)) := row_get Value.bool false (by omega)
   rw [seenL_get _ hm8] at hg
   (refine gK ?_; refine gX ?_; refine gQ ?_; refine gV ?_; refine gM ?_; apply gw_d; exact w_index_arr (m := m) rfl rfl rfl rfl hmm hm8; apply gw_d; exact w_load_row rfl rfl rfl .here hg; refine gO ?_)
   refine gc_if rfl (fun h => ?_) (fun h => ?_)
   ·(refine gV ?_; refine gM ?_; refine gO ?_; refine gR ?_; refine gT ?_; refine gY ?_; (iterate 2 refine gT ?_); (iterate 2 refine gY ?_); (iterate 2 refine gT ?_); refine gY ?_; refine gT ?_)
    refine gi1 (fun _ _ => ?_)
    rw [if_pos h] at hF
    have hME : machE l[j].machines = 7 := by unfold machE; rw [firstE_stop hM (by rw [hF]; decide) hil, hF]
    rw [hME] at hW
    rw [firstE_stop hI (by rw [hW]; decide) hlt, hW]
   rw [if_neg (by rw [h]; decide)] at hF
   (refine gK ?_; refine gX ?_; refine gG ?_; refine gM ?_; apply gw_d; exact w_index_arr (m := m) rfl rfl rfl rfl hmm hm8)
   refine w_store_row (n := 1) (v := .bool true) rfl rfl rfl rfl rfl .here (by simp; omega) (row_set Value.bool (by omega) true) ?_
   rw [seenL_snoc _ hm8, ← hmm, ← List.take_succ_eq_append_getElem hil]
   (refine gw_nil ?_; refine gH ?_; refine gX ?_; refine gG ?_; refine gA ?_; refine gM ?_; refine gw_nil ?_)
   exact gx_round (i + 1) ⟨by omega, firstE_snoc hM hF⟩ (by omega) kK ⟨rfl, trivial⟩ (Sub.all _)
  ·obtain rfl : i = l[j].machines.length := by omega
   have hME : machE l[j].machines = 0 := hM
   rw [hME] at hW
   (refine gI ?_; (iterate 2 refine gZ ?_); refine gJ ?_; refine gH ?_; refine gX ?_; refine gG ?_; refine gA ?_; refine gM ?_; refine gw_nil ?_)
   exact gx_round (j + 1) ⟨by omega, firstE_snoc hI hW⟩ (by omega) kK ⟨rfl, trivial⟩ (Sub.weak (Sub.weak (Sub.all _)))
 ·obtain rfl : k = l.length := by omega
  (refine gI ?_; (iterate 2 refine gZ ?_); refine gJ ?_; refine gX ?_; refine gV ?_; refine gM ?_; refine gO ?_; refine gR ?_)
  refine gi1 (fun _ _ => ?_)
  rw [hI]
theorem Sl.bun {w : World} {B : Nat} {v : Value} {l : List Bun} (h : Sl rBun w B v l) : ∃ A c, v = .slice A l.length c ∧ l.length ≤ c ∧ l.length ≤ 9223372036854775807 ∧
  ∀ k (hk : k < l.length), ∃ ad, A = some ad ∧ ad.block < B ∧ (∀ j u, [Value.int .i64 l[k].tick, .int .i64 l[k].garm, .int .i64 l[k].size, .int .i64 l[k].lot, .int .i64 l[k].fr, .int .i64 l[k].upto][j]? = some u → w.cell? (ad.add (k * 6 + j)) = some u) ∧ inI64 l[k].tick ∧ inI64 l[k].fr ∧ inI64 l[k].upto := by
 obtain ⟨A, c, hv, h1, h2, h3⟩ := h
 refine ⟨A, c, hv, h1, by unfold maxLen at h2; omega, fun k hk => ?_⟩
 obtain ⟨ad, cs, ha, hlt, hc, rfl, hr⟩ := h3 k hk
 exact ⟨ad, ha, hlt, hc, hr⟩
def bunE (l : List Bun) (i : Nat) : Int := match l[i]? with
 | some b => if b.fr ≥ b.upto ∨ b.upto - b.fr > 40 then 3 else if ((l.take i).any fun y => decide (y.tick = b.tick)) = true then 7 else 0
 | none => 0
def scanE (e : Int) (bs : List Bun) (ws : List Wrk) : Int := if ¬ e = 0 then e else if bs.length > 60 then 5 else if ¬ firstE (bunE bs) bs.length = 0 then firstE (bunE bs) bs.length else skillE ws
theorem wrap_u64 (i : Int) : IntKind.u64.wrap i = i % 18446744073709551616 := by
 unfold IntKind.wrap
 rfl
theorem scanCheck_ok (w : World) (v0 v1 v2 v3 v4 v5 v6 vb vw : Value) (e : Int) (bs : List Bun) (ws : List Wrk) (hO : ∀ (L : List Res) (w' : World), St w L w' → Ok Tryz.prog 27 [.agg #[v0, v1, v2, v3, v4, v5, v6]].toArray w' fun x _ => x = .int .i64 e)
  (hb : Sl rBun w w.heap.size vb bs) (hw : Sl rWrk w w.heap.size vw ws) : Ok Tryz.prog 8 [.agg #[v0, v1, v2, v3, v4, v5, v6], vb, vw].toArray w fun x _ => x = .int .i64 (scanE e bs ws) := by
 obtain ⟨A, c, rfl, hc, hm, hcell⟩ := hb.bun
 obtain ⟨Aw, cw, rfl, hwc, hwm, _⟩ := hw.wrk
 refine ok_enter Tryz.func8 rfl Tryz.ntmps8 rfl ?_
 (refine gV ?_; refine gw_boxd (v := .agg _) rfl rfl (fun _ => ?_); refine gM ?_; refine gO ?_; refine gQ ?_; refine gV ?_; apply gw_d; exact w_load_boxN rfl rfl rfl .here rfl; apply gw_d; exact w_call rfl rfl (hO _) rfl; refine gM ?_; refine gN ?_; refine gM ?_; refine gC ?_; refine gO ?_)
 refine gc_if_dec rfl (fun h => ?_) (fun h => ?_)
 ·(refine gV ?_; (iterate 2 refine gM ?_); refine gO ?_; refine gR ?_; refine gT ?_)
  refine gi1 (fun _ _ => ?_)
  unfold scanE
  rw [if_pos h]
 have he : e = 0 := by simpa using h
 (refine gK ?_; refine gX ?_; refine gQ ?_; refine gV ?_; refine gM ?_; refine gL ?_; refine gC ?_; refine gO ?_)
 refine gc_if_dec rfl (fun h => ?_) (fun h60 => ?_)
 ·(refine gV ?_; refine gM ?_; refine gO ?_; refine gR ?_; refine gT ?_)
  refine gi1 (fun _ _ => ?_)
  unfold scanE
  rw [if_neg (by rw [he]; decide), if_pos (by omega)]
 have hE : scanE e bs ws = if ¬ firstE (bunE bs) bs.length = 0 then firstE (bunE bs) bs.length else skillE ws := by
  unfold scanE
  rw [if_neg (by rw [he]; decide), if_neg (by omega)]
 rw [hE]
 (refine gK ?_; refine gX ?_; refine gQ ?_; refine gV ?_; refine gM ?_; refine gL ?_; refine gM ?_; refine gO ?_; refine gB ?_)
 refine gc_loopK (σ := Nat) [23, 24, 25, 26, 9, 8, 27, 28, 29, 30, 31, 32, 33, 34, 35, 36, 37, 38, 39, 40, 41, 6, 42, 43, 44, 45, 46, 47, 48, 49, 11, 50, 51, 52, 53, 54, 55, 56, 22] (fun k => [(22, .int .i64 k)]) (fun k => k ≤ bs.length ∧ firstE (bunE bs) k = 0) (fun k => bs.length - k) 0 ⟨Nat.zero_le _, rfl⟩ ⟨rfl, trivial⟩ ?_
 rintro k base ⟨hk, hI⟩
 (refine gV ?_; refine gC ?_; refine gO ?_; refine gQ ?_)
 refine gc_if_dec rfl (fun h => ?_) (fun h => ?_)
 ·have hlt : k < bs.length := by omega
  obtain ⟨ad, rfl, hbk, hce, h1, h2, h3⟩ := hcell k hlt
  unfold inI64 at h1 h2 h3
  have hW : bunE bs k = if bs[k].fr ≥ bs[k].upto ∨ bs[k].upto - bs[k].fr > 40 then 3 else if ((bs.take k).any fun y => decide (y.tick = bs[k].tick)) = true then 7 else 0 := by
   unfold bunE
   rw [List.getElem?_eq_getElem hlt]
  have hstop : ∀ x : Int, bunE bs k = x → ¬ x = 0 → (if ¬ firstE (bunE bs) bs.length = 0 then firstE (bunE bs) bs.length else skillE ws) = x := fun x hx hx0 => by
   have := firstE_stop hI (by rw [hx]; exact hx0) hlt
   rw [this, hx, if_pos hx0]
  (refine gK ?_; refine gX ?_; refine gQ ?_; refine gB ?_; refine gV ?_; refine gM ?_; apply gw_d; exact w_index rfl rfl rfl rfl (by with_reducible exact rfl) (by omega); apply gw_d; exact w_load_elem rfl rfl rfl (by assumption) (by assumption) (by rfl); refine w_alloc rfl (fun _ => ?_); refine gM ?_; refine w_store_all rfl rfl rfl rfl rfl .here rfl ?_; refine gO ?_; refine gQ ?_; refine gV ?_; refine gF ?_; refine gW .here ?_; refine gF ?_; refine gW .here ?_; refine gC ?_; refine gM ?_)
  by_cases h4 : bs[k].fr ≥ bs[k].upto
  ·rw [if_pos (.inl h4)] at hW
   focus (refine gD (fun _ => ?_) (fun _ => ?_); (iterate 8 refine gU ?_); refine gPp ?_; refine gO ?_; refine gc_if_true rfl ?_; refine gV ?_; refine gM ?_; refine gO ?_; refine gR ?_; refine gT ?_; refine gY ?_; (iterate 2 refine gT ?_); refine gY ?_; refine gT ?_; rotate_left; refine gF ?_; refine gW .here ?_; rotate_left)
   all_goals first | (exfalso; omega) | skip
   refine gi1 (fun _ _ => ?_)
   rw [hstop 3 hW (by decide)]
  have hu : (bs[k].upto % 18446744073709551616 - bs[k].fr % 18446744073709551616) % 18446744073709551616 = bs[k].upto - bs[k].fr := by omega
  by_cases h5 : bs[k].upto - bs[k].fr > 40
  ·rw [if_pos (.inr h5)] at hW
   focus (refine gD (fun _ => ?_) (fun _ => ?_); (iterate 8 refine gU ?_); refine gPp ?_; refine gO ?_; refine gc_if_true rfl ?_; refine gV ?_; refine gM ?_; refine gO ?_; refine gR ?_; refine gT ?_; refine gY ?_; (iterate 2 refine gT ?_); refine gY ?_; refine gT ?_; rotate_left; refine gF ?_; refine gW .here ?_; apply gw_d; exact det_conv (r := bs[k].upto % 18446744073709551616) rfl rfl rfl (wrap_u64 _); refine gF ?_; refine gW .here ?_; apply gw_d; exact det_conv (r := bs[k].fr % 18446744073709551616) rfl rfl rfl (wrap_u64 _); apply gw_d; exact det_eq (c' := .int .u64 (bs[k].upto - bs[k].fr)) (det_ar_wrap rfl rfl rfl rfl rfl) (by rw [wrap_u64, hu]); refine gC ?_; refine gPq ?_; refine gO ?_; refine gc_if_dec rfl (fun _ => ?_) (fun _ => ?_); refine gV ?_; refine gM ?_; refine gO ?_; refine gR ?_; refine gT ?_; refine gY ?_; (iterate 2 refine gT ?_); refine gY ?_; refine gT ?_; rotate_left; refine gK ?_; refine gX ?_; refine gV ?_; (iterate 2 refine gM ?_); apply gw_d; exact w_cut_hi rfl rfl rfl rfl (by with_reducible exact rfl) (by omega); refine gL ?_; refine gM ?_; refine gO ?_; refine gB ?_; rotate_left)
   all_goals first | (exfalso; omega) | skip
   refine gi1 (fun _ _ => ?_)
   rw [hstop 3 hW (by decide)]
  rw [if_neg (by omega)] at hW
  focus (refine gD (fun _ => ?_) (fun _ => ?_); (iterate 8 refine gU ?_); refine gPp ?_; refine gO ?_; refine gc_if_true rfl ?_; refine gV ?_; refine gM ?_; refine gO ?_; refine gR ?_; refine gT ?_; refine gY ?_; (iterate 2 refine gT ?_); refine gY ?_; refine gT ?_; rotate_left; refine gF ?_; refine gW .here ?_; apply gw_d; exact det_conv (r := bs[k].upto % 18446744073709551616) rfl rfl rfl (wrap_u64 _); refine gF ?_; refine gW .here ?_; apply gw_d; exact det_conv (r := bs[k].fr % 18446744073709551616) rfl rfl rfl (wrap_u64 _); apply gw_d; exact det_eq (c' := .int .u64 (bs[k].upto - bs[k].fr)) (det_ar_wrap rfl rfl rfl rfl rfl) (by rw [wrap_u64, hu]); refine gC ?_; refine gPq ?_; refine gO ?_; refine gc_if_dec rfl (fun _ => ?_) (fun _ => ?_); refine gV ?_; refine gM ?_; refine gO ?_; refine gR ?_; refine gT ?_; refine gY ?_; (iterate 2 refine gT ?_); refine gY ?_; refine gT ?_; rotate_left; refine gK ?_; refine gX ?_; refine gV ?_; (iterate 2 refine gM ?_); apply gw_d; exact w_cut_hi rfl rfl rfl rfl (by with_reducible exact rfl) (by omega); refine gL ?_; refine gM ?_; refine gO ?_; refine gB ?_; rotate_left)
  all_goals first | (exfalso; omega) | skip
  refine gc_loopK (σ := Nat) [47, 48, 49, 11, 50, 51, 52, 53, 54, 6, 55, 46] (fun j => [(46, .int .i64 j)]) (fun j => j ≤ k ∧ ((bs.take j).any fun y => decide (y.tick = bs[k].tick)) = false) (fun j => k - j) 0 ⟨Nat.zero_le _, rfl⟩ ⟨rfl, trivial⟩ ?_
  rintro j base2 ⟨hj, hJ⟩
  (refine gV ?_; refine gC ?_; refine gO ?_; refine gQ ?_)
  refine gc_if_dec rfl (fun h => ?_) (fun h => ?_)
  ·have hjl : j < bs.length := by omega
   obtain ⟨ad2, h6, hb2, hce2, _⟩ := hcell j hjl
   injection h6 with h6
   subst h6
   (refine gK ?_; refine gX ?_; refine gQ ?_; refine gB ?_; refine gV ?_; apply gw_d; exact w_index rfl rfl rfl rfl (by with_reducible exact rfl) (by omega); apply gw_d; exact w_load_elem rfl rfl rfl (by assumption) (by assumption) (by rfl); refine w_alloc rfl (fun _ => ?_); refine w_store_all rfl rfl rfl rfl rfl .here rfl ?_; refine gN ?_; refine gF ?_; refine gW .here ?_; refine gF ?_; refine gW (.there .here) ?_; refine gC ?_; refine gO ?_)
   refine gc_if_dec rfl (fun h => ?_) (fun h => ?_)
   ·(refine gV ?_; refine gM ?_; refine gO ?_; refine gR ?_; refine gY ?_; (iterate 2 refine gT ?_); (iterate 2 refine gY ?_); (iterate 2 refine gT ?_); refine gY ?_; refine gT ?_)
    refine gi1 (fun _ _ => ?_)
    rw [if_pos (List.any_eq_true.2 ⟨bs[j], List.mem_take_iff_getElem.2 ⟨j, by omega, rfl⟩, decide_eq_true h⟩)] at hW
    rw [hstop 7 hW (by decide)]
   ·(refine gK ?_; refine gH ?_; refine gX ?_; refine gG ?_; refine gA ?_; refine gM ?_; refine gw_nil ?_)
    exact gx_round (j + 1) ⟨by omega, take_any_snoc hjl hJ (decide_eq_false h)⟩ (by omega) kK ⟨rfl, trivial⟩ Sub.tail
  ·obtain rfl : j = k := by omega
   rw [if_neg (by rw [hJ]; decide)] at hW
   (refine gI ?_; (iterate 2 refine gZ ?_); refine gJ ?_; refine gH ?_; refine gX ?_; refine gG ?_; refine gA ?_; refine gM ?_; refine gw_nil ?_)
   exact gx_round (j + 1) ⟨by omega, firstE_snoc hI hW⟩ (by omega) kK ⟨rfl, trivial⟩ Sub.tail
 ·obtain rfl : k = bs.length := by omega
  rw [if_neg (by rw [hI]; decide)]
  (refine gI ?_; (iterate 2 refine gZ ?_); refine gJ ?_; refine gX ?_; refine gV ?_; refine gM ?_; apply gw_d; exact w_call rfl rfl (fun w' s => skillCheck_ok w' _ ws (hw.later s)) rfl; refine gM ?_; refine gO ?_; refine gR ?_)
  refine gi1 (fun _ _ => ?_)
  rfl
def Small (l : List Opn) : Prop := l.length ≤ 16 ∧ ∀ k (hk : k < l.length), ∀ a ∈ l[k].after, 0 ≤ a ∧ a < l.length
theorem judge_nil (w : World) (vl vw : Value) (x : Scn) : Ok Tryz.prog 42 [vl, vw, .pointer none, .agg #[.int .i64 x.tick, .int .i64 x.op, .int .i64 x.who, .int .i64 x.time]].toArray w fun r _ => r = .int .i64 3 := by
 refine ok_enter Tryz.func42 rfl Tryz.ntmps42 rfl ?_
 (refine gV ?_; refine gw_boxd (v := .agg _) rfl rfl (fun _ => ?_); refine gM ?_; refine gO ?_; refine gQ ?_; refine gV ?_; refine gM ?_; apply gw_d; exact w_peqnil (te := 112) (by kernel_rfl) rfl rfl rfl rfl; refine gM ?_; (iterate 3 refine gU ?_); refine gPp ?_; refine gM ?_; (iterate 5 refine gU ?_); refine gPp ?_; refine gM ?_; (iterate 3 refine gU ?_); refine gPp ?_; refine gM ?_; (iterate 5 refine gU ?_); refine gPp ?_; refine gM ?_; (iterate 3 refine gU ?_); refine gPp ?_; refine gM ?_; (iterate 3 refine gU ?_); refine gPp ?_; refine gO ?_; refine gc_if_true rfl ?_; refine gV ?_; refine gM ?_; refine gO ?_; refine gR ?_; refine gT ?_)
 refine gi1 (fun _ _ => ?_)
 rfl
theorem judge_ok (w : World) (vl vw : Value) (b : Nat) (ty : TypeId) (l : List Opn) (ws : List Wrk) (ps : List Scn) (x : Scn) (hl : Sl rOp w w.heap.size vl l) (hw : Sl rWrk w w.heap.size vw ws) (hS : Small l)
  (hr : w.heap[b]? = some (.cells (recC ps x.tick) ty (0, 0))) :
  Ok Tryz.prog 42 [vl, vw, .pointer (some ⟨b, 0, none⟩), .agg #[.int .i64 x.tick, .int .i64 x.op, .int .i64 x.who, .int .i64 x.time]].toArray w fun r _ => r = .int .i64 (judgeE l ws ps x) := by
 obtain ⟨A, c, rfl, hc, hm⟩ := len_small hl
 obtain ⟨Aw, cw, rfl, hwc, hwm, hwcell⟩ := hw.wrk
 have hbb : (⟨b, 0, none⟩ : Addr).block < w.heap.size := (Array.getElem?_eq_some_iff.1 hr).1
 have hcell : ∀ i, w.cell? ((⟨b, 0, none⟩ : Addr).add i) = (recC ps x.tick)[i]? := fun i => by
  rw [add_zero]
  exact Box.cell (ty := ty) hr i
 have hP : ∀ m : Nat, m < 16 → w.cell? ((⟨b, 0, none⟩ : Addr).add (0 + m * 1)) = some (.bool (paidB ps x.tick m)) := fun m hm => by
  rw [hcell, Nat.zero_add, Nat.mul_one, recC_paid _ _ hm]
 have hLst : w.cell? ((⟨b, 0, none⟩ : Addr).add 16) = some (.int .i64 (lastT ps x.tick)) := by rw [hcell, recC_last]
 by_cases hK : 0 ≤ x.op ∧ x.op < l.length ∧ 0 ≤ x.who ∧ x.who < ws.length ∧ 0 ≤ x.time ∧ x.time ≤ 1073741824
 ·have hE : judgeE l ws ps x = if canAt ws x.who (machAt l x.op) = false then 4 else if paidB ps x.tick x.op = true then 2 else if (afterAt l x.op).all (fun a => paidB ps x.tick a) = false then 5 else if x.time < lastT ps x.tick then 6 else 1 := by
   unfold judgeE knownB
   rw [if_neg (by rw [decide_eq_true hK]; decide)]
  rw [hE]
  obtain ⟨o, ho⟩ : ∃ o : Nat, x.op = (o : Int) := ⟨x.op.toNat, by omega⟩
  obtain ⟨m, hmw⟩ : ∃ m : Nat, x.who = (m : Int) := ⟨x.who.toNat, by omega⟩
  have hol : o < l.length := by omega
  have hml : m < ws.length := by omega
  have ho16 : o < 16 := by have := hS.1; omega
  obtain ⟨ad, _, hv, _, _, hb, hocell⟩ := hl.at' 5 rfl (by omega)
  injection hv with e1 e2 e3
  subst e1 e3
  obtain ⟨cs, hce, Aa, ca, Au, cu, rfl, hnm, q1, q2⟩ := hocell o hol
  have ha : Sl rInt w w.heap.size (.slice Aa l[o].after.length ca) l[o].after := q1
  obtain ⟨_, _, hv, hac, ham, hacell⟩ := ha.int
  injection hv with e1 e2 e3
  subst e1 e3
  obtain ⟨ad2, Am, cm, rfl, hb2, hce2, hnm2, hms⟩ := hwcell m hml
  have hcan : canAt ws x.who (machAt l x.op) = hasB ws[m].machines l[o].machine := by
   unfold canAt machAt
   rw [ho, hmw, Int.toNat_natCast, Int.toNat_natCast, List.getElem?_eq_getElem hol, List.getElem?_eq_getElem hml]
   rfl
  have haft : afterAt l x.op = l[o].after := by
   unfold afterAt
   rw [ho, Int.toNat_natCast, List.getElem?_eq_getElem hol]
   rfl
  rw [hcan, haft]
  have hPo := hP o ho16
  rw [← ho] at hPo
  have hSa := hS.2 o hol
  have hCan : ∀ (L : List Res) (w' : World), St w L w' → Ok Tryz.prog 60 [.agg #[.string ws[m].name, .slice Am ws[m].machines.length cm], .int .i64 l[o].machine].toArray w' fun x _ => x = .bool (hasB ws[m].machines l[o].machine) := fun L w' s => can_ok w' ws[m].name Am 0 l[o].machine cm ws[m].machines (hms.later s)
  refine ok_enter Tryz.func42 rfl Tryz.ntmps42 rfl ?_
  focus (refine gV ?_; refine gw_boxd (v := .agg _) rfl rfl (fun _ => ?_); refine gM ?_; refine gO ?_; refine gQ ?_; refine gV ?_; refine gM ?_; apply gw_d; exact w_peqnil (te := 112) (by kernel_rfl) rfl rfl rfl rfl; refine gM ?_; refine gF ?_; refine gW .here ?_; refine gC ?_; refine gPq ?_; refine gM ?_; refine gD (fun _ => ?_) (fun _ => ?_); (iterate 5 refine gU ?_); refine gPp ?_; refine gM ?_; (iterate 3 refine gU ?_); refine gPp ?_; refine gM ?_; (iterate 5 refine gU ?_); refine gPp ?_; refine gM ?_; (iterate 3 refine gU ?_); refine gPp ?_; refine gM ?_; (iterate 3 refine gU ?_); refine gPp ?_; refine gO ?_; refine gc_if_true rfl ?_; refine gV ?_; refine gM ?_; refine gO ?_; refine gR ?_; refine gT ?_; rotate_left; refine gF ?_; refine gW .here ?_; refine gM ?_; refine gL ?_; refine gC ?_; refine gPq ?_; refine gM ?_; refine gD (fun _ => ?_) (fun _ => ?_); (iterate 3 refine gU ?_); refine gPp ?_; refine gM ?_; (iterate 5 refine gU ?_); refine gPp ?_; refine gM ?_; (iterate 3 refine gU ?_); refine gPp ?_; refine gM ?_; (iterate 3 refine gU ?_); refine gPp ?_; refine gO ?_; refine gc_if_true rfl ?_; refine gV ?_; refine gM ?_; refine gO ?_; refine gR ?_; refine gT ?_; rotate_left; refine gF ?_; refine gW .here ?_; refine gC ?_; refine gPq ?_; refine gM ?_; refine gD (fun _ => ?_) (fun _ => ?_); (iterate 5 refine gU ?_); refine gPp ?_; refine gM ?_; (iterate 3 refine gU ?_); refine gPp ?_; refine gM ?_; (iterate 3 refine gU ?_); refine gPp ?_; refine gO ?_; refine gc_if_true rfl ?_; refine gV ?_; refine gM ?_; refine gO ?_; refine gR ?_; refine gT ?_; rotate_left; refine gF ?_; refine gW .here ?_; refine gM ?_; refine gL ?_; refine gC ?_; refine gPq ?_; refine gM ?_; refine gD (fun _ => ?_) (fun _ => ?_); (iterate 3 refine gU ?_); refine gPp ?_; refine gM ?_; (iterate 3 refine gU ?_); refine gPp ?_; refine gO ?_; refine gc_if_true rfl ?_; refine gV ?_; refine gM ?_; refine gO ?_; refine gR ?_; refine gT ?_; rotate_left; refine gF ?_; refine gW .here ?_; refine gC ?_; refine gPq ?_; refine gM ?_; refine gD (fun _ => ?_) (fun _ => ?_); (iterate 3 refine gU ?_); refine gPp ?_; refine gO ?_; refine gc_if_true rfl ?_; refine gV ?_; refine gM ?_; refine gO ?_; refine gR ?_; refine gT ?_; rotate_left; refine gF ?_; refine gW .here ?_; refine gC ?_; refine gPq ?_; refine gO ?_; refine gc_if_dec rfl (fun _ => ?_) (fun _ => ?_); refine gV ?_; refine gM ?_; refine gO ?_; refine gR ?_; refine gT ?_; rotate_left; refine gK ?_; refine gX ?_; refine gV ?_; refine gM ?_; refine gF ?_; refine gW .here ?_; rotate_left)
  all_goals first | (exfalso; omega) | skip
  (apply gw_d; exact w_index (m := o) rfl rfl rfl rfl ho hol; apply gw_d; exact w_load_elem rfl rfl rfl (by assumption) (by assumption) (by rfl); refine w_alloc rfl (fun _ => ?_); refine w_store_all rfl rfl rfl rfl rfl .here rfl ?_; refine gO ?_; refine gQ ?_; refine gQ ?_)
  refine gc_draw 9 (by kernel_rfl) (by kernel_rfl) ?_
  (refine dM ?_; apply gd_d; exact w_field rfl rfl rfl; apply gd_d; exact w_load_box rfl rfl rfl (.there .here) rfl; apply gd_d; exact w_index (m := m) rfl rfl rfl rfl hmw hml; apply gd_d; exact w_load_elem rfl rfl rfl (by assumption) (by assumption) (by rfl); apply gd_d; exact w_field rfl rfl rfl; apply gd_d; exact w_load_box rfl rfl rfl .here rfl; apply gd_d; exact w_call rfl rfl (hCan _) rfl; apply gd_d; exact det_not_ rfl rfl rfl; refine gd_nil ?_; refine gO ?_)
  refine gc_if rfl (fun h => ?_) (fun h => ?_)
  ·(refine gV ?_; refine gM ?_; refine gO ?_; refine gR ?_; refine gT ?_)
   refine gi1 (fun _ _ => ?_)
   rw [if_pos (by simpa using h)]
  rw [if_neg (by rw [show hasB ws[m].machines l[o].machine = true by simpa using h]; decide)]
  (refine gK ?_; refine gX ?_; refine gQ ?_; refine gQ ?_)
  refine gc_draw 7 (by kernel_rfl) (by kernel_rfl) ?_
  (refine dM ?_; apply gd_d; exact w_field rfl rfl rfl; apply gd_d; exact w_load_box rfl rfl rfl (.there .here) rfl; apply gd_d; exact w_nilcheck rfl rfl rfl; apply gd_d; exact w_field rfl rfl rfl; apply gd_d; exact w_index_arr (m := o) rfl rfl rfl rfl ho ho16; apply gd_d; exact w_load_fld rfl rfl rfl (by assumption) (by assumption); refine gd_nil ?_; refine gO ?_)
  refine gc_if rfl (fun h => ?_) (fun h => ?_)
  ·(refine gV ?_; refine gM ?_; refine gO ?_; refine gR ?_; refine gT ?_)
   refine gi1 (fun _ _ => ?_)
   rw [if_pos h]
  rw [if_neg (by rw [h]; decide)]
  (refine gK ?_; refine gX ?_; refine gQ ?_; refine gV ?_; refine gF ?_; refine gW .here ?_; refine gL ?_; refine gM ?_; refine gO ?_; refine gB ?_)
  refine gc_loopK (σ := Nat) [73, 74, 75, 11, 76, 77, 78, 79, 80, 81, 82, 8, 83, 72] (fun k => [(72, .int .i64 k)]) (fun k => k ≤ l[o].after.length ∧ (l[o].after.take k).all (fun a => paidB ps x.tick a) = true) (fun k => l[o].after.length - k) 0 ⟨Nat.zero_le _, rfl⟩ ⟨rfl, trivial⟩ ?_
  rintro k base ⟨hk, hI⟩
  (refine gV ?_; refine gC ?_; refine gO ?_; refine gQ ?_)
  refine gc_if_dec rfl (fun h2 => ?_) (fun h2 => ?_)
  ·have hkl : k < l[o].after.length := by omega
   obtain ⟨ad3, rfl, hb3, hce3, _⟩ := hacell k hkl
   have hpr := hSa l[o].after[k] (List.getElem_mem hkl)
   obtain ⟨p, hp⟩ : ∃ p : Nat, l[o].after[k] = (p : Int) := ⟨l[o].after[k].toNat, by omega⟩
   have hp16 : p < 16 := by have := hS.1; omega
   have hPp := hP p hp16
   rw [← hp] at hPp
   (refine gK ?_; refine gX ?_; refine gQ ?_; refine gB ?_; refine gV ?_; apply gw_d; exact w_index rfl rfl rfl rfl (by with_reducible exact rfl) (by omega); apply gw_d; exact w_load_at rfl rfl rfl (by assumption) (by assumption); refine gM ?_; refine gN ?_; (iterate 2 refine gM ?_); apply gw_d; exact w_nilcheck rfl rfl rfl; refine gF ?_; apply gw_d; exact w_index_arr (m := p) rfl rfl rfl rfl hp hp16; apply gw_d; exact w_load_fld rfl rfl rfl (by assumption) (by assumption); apply gw_d; exact det_not_ rfl rfl rfl; refine gO ?_)
   refine gc_if rfl (fun h3 => ?_) (fun h3 => ?_)
   ·(refine gV ?_; refine gM ?_; refine gO ?_; refine gR ?_; refine gY ?_; (iterate 2 refine gT ?_); refine gY ?_; refine gT ?_)
    refine gi1 (fun _ _ => ?_)
    have h4 : l[o].after.all (fun a => paidB ps x.tick a) = false := by
     rw [List.all_eq_false]
     exact ⟨l[o].after[k], List.getElem_mem hkl, by simpa using h3⟩
    rw [if_pos h4]
   ·(refine gK ?_; refine gH ?_; refine gX ?_; refine gG ?_; refine gA ?_; refine gM ?_; refine gw_nil ?_)
    refine gx_round (k + 1) ⟨by omega, ?_⟩ (by omega) kK ⟨rfl, trivial⟩ (Sub.all _)
    rw [List.take_succ_eq_append_getElem hkl, List.all_append, hI]
    have : paidB ps x.tick l[o].after[k] = true := by simpa using h3
    simp [this]
  obtain rfl : k = l[o].after.length := by omega
  rw [List.take_length] at hI
  rw [if_neg (by rw [hI]; decide)]
  (refine gI ?_; (iterate 2 refine gZ ?_); refine gJ ?_; refine gX ?_; refine gQ ?_; refine gQ ?_)
  refine gc_draw 7 (by kernel_rfl) (by kernel_rfl) ?_
  (apply gd_d; exact w_field rfl rfl rfl; apply gd_d; exact w_load_box rfl rfl rfl (.there .here) rfl; refine dM ?_; apply gd_d; exact w_nilcheck rfl rfl rfl; apply gd_d; exact w_field rfl rfl rfl; apply gd_d; exact w_load_at rfl rfl rfl (by assumption) (by assumption); apply gd_d; exact det_cmp rfl rfl rfl rfl rfl; refine gd_nil ?_; refine gO ?_)
  refine gc_if_dec rfl (fun h3 => ?_) (fun h3 => ?_)
  ·(refine gV ?_; refine gM ?_; refine gO ?_; refine gR ?_; refine gT ?_)
   refine gi1 (fun _ _ => ?_)
   rw [if_pos h3]
  ·(refine gK ?_; refine gX ?_; refine gV ?_; refine gM ?_; refine gO ?_; refine gR ?_)
   refine gi1 (fun _ _ => ?_)
   rw [if_neg h3]
 ·have hE : judgeE l ws ps x = 3 := by
   unfold judgeE knownB
   rw [if_pos (by rw [decide_eq_false hK])]
  rw [hE]
  refine ok_enter Tryz.func42 rfl Tryz.ntmps42 rfl ?_
  focus (refine gV ?_; refine gw_boxd (v := .agg _) rfl rfl (fun _ => ?_); refine gM ?_; refine gO ?_; refine gQ ?_; refine gV ?_; refine gM ?_; apply gw_d; exact w_peqnil (te := 112) (by kernel_rfl) rfl rfl rfl rfl; refine gM ?_; refine gF ?_; refine gW .here ?_; refine gC ?_; refine gPq ?_; refine gM ?_; refine gD (fun _ => ?_) (fun _ => ?_); (iterate 5 refine gU ?_); refine gPp ?_; refine gM ?_; (iterate 3 refine gU ?_); refine gPp ?_; refine gM ?_; (iterate 5 refine gU ?_); refine gPp ?_; refine gM ?_; (iterate 3 refine gU ?_); refine gPp ?_; refine gM ?_; (iterate 3 refine gU ?_); refine gPp ?_; refine gO ?_; refine gc_if_true rfl ?_; refine gV ?_; refine gM ?_; refine gO ?_; refine gR ?_; refine gT ?_; rotate_left; refine gF ?_; refine gW .here ?_; refine gM ?_; refine gL ?_; refine gC ?_; refine gPq ?_; refine gM ?_; refine gD (fun _ => ?_) (fun _ => ?_); (iterate 3 refine gU ?_); refine gPp ?_; refine gM ?_; (iterate 5 refine gU ?_); refine gPp ?_; refine gM ?_; (iterate 3 refine gU ?_); refine gPp ?_; refine gM ?_; (iterate 3 refine gU ?_); refine gPp ?_; refine gO ?_; refine gc_if_true rfl ?_; refine gV ?_; refine gM ?_; refine gO ?_; refine gR ?_; refine gT ?_; rotate_left; refine gF ?_; refine gW .here ?_; refine gC ?_; refine gPq ?_; refine gM ?_; refine gD (fun _ => ?_) (fun _ => ?_); (iterate 5 refine gU ?_); refine gPp ?_; refine gM ?_; (iterate 3 refine gU ?_); refine gPp ?_; refine gM ?_; (iterate 3 refine gU ?_); refine gPp ?_; refine gO ?_; refine gc_if_true rfl ?_; refine gV ?_; refine gM ?_; refine gO ?_; refine gR ?_; refine gT ?_; rotate_left; refine gF ?_; refine gW .here ?_; refine gM ?_; refine gL ?_; refine gC ?_; refine gPq ?_; refine gM ?_; refine gD (fun _ => ?_) (fun _ => ?_); (iterate 3 refine gU ?_); refine gPp ?_; refine gM ?_; (iterate 3 refine gU ?_); refine gPp ?_; refine gO ?_; refine gc_if_true rfl ?_; refine gV ?_; refine gM ?_; refine gO ?_; refine gR ?_; refine gT ?_; rotate_left; refine gF ?_; refine gW .here ?_; refine gC ?_; refine gPq ?_; refine gM ?_; refine gD (fun _ => ?_) (fun _ => ?_); (iterate 3 refine gU ?_); refine gPp ?_; refine gO ?_; refine gc_if_true rfl ?_; refine gV ?_; refine gM ?_; refine gO ?_; refine gR ?_; refine gT ?_; rotate_left; refine gF ?_; refine gW .here ?_; refine gC ?_; refine gPq ?_; refine gO ?_; refine gc_if_dec rfl (fun _ => ?_) (fun _ => ?_); refine gV ?_; refine gM ?_; refine gO ?_; refine gR ?_; refine gT ?_; rotate_left; refine gK ?_; refine gX ?_; refine gV ?_; refine gM ?_; refine gF ?_; refine gW .here ?_; rotate_left)
  all_goals first | (refine gi1 (fun _ _ => ?_); rfl) | skip
  exfalso
  omega
def ticks (bs : List Bun) : List Int := bs.map (·.tick)
theorem ticks_at {bs : List Bun} {k : Nat} (hk : k < bs.length) : tkAt (ticks bs) k = bs[k].tick := by
 unfold tkAt ticks
 simp [hk]
structure ScanOk (e : Int) (bs : List Bun) (ws : List Wrk) : Prop where
 op : e = 0
 le : bs.length ≤ 60
 tix : Tix (ticks bs)
 plies : ∀ k (hk : k < bs.length), 1 ≤ bs[k].upto - bs[k].fr ∧ bs[k].upto - bs[k].fr ≤ 40
 skill : skillE ws = 0
theorem scan_good {e : Int} {bs : List Bun} {ws : List Wrk} (h : scanE e bs ws = 0) : ScanOk e bs ws := by
 unfold scanE at h
 split at h
 ·rename_i h1; exact absurd h h1
 rename_i h1
 split at h
 ·cases h
 rename_i h2
 split at h
 ·rename_i h3; exact absurd h h3
 rename_i h3
 have h4 : firstE (bunE bs) bs.length = 0 := by simpa using h3
 have h5 : ∀ k (hk : k < bs.length), ¬ (bs[k].fr ≥ bs[k].upto ∨ bs[k].upto - bs[k].fr > 40) ∧ ((bs.take k).any fun y => decide (y.tick = bs[k].tick)) = false := fun k hk => by
  have h6 := firstE_at h4 k hk
  unfold bunE at h6
  rw [List.getElem?_eq_getElem hk] at h6
  dsimp only at h6
  split at h6
  ·cases h6
  ·rename_i h7
   split at h6
   ·cases h6
   ·rename_i h8; exact ⟨h7, by simpa using h8⟩
 refine ⟨by simpa using h1, by omega, fun i j hij hj => ?_, fun k hk => by have := (h5 k hk).1; omega, h⟩
 have hj' : j < bs.length := by simpa [ticks] using hj
 rw [ticks_at (by omega), ticks_at hj']
 intro hc
 have := List.any_eq_false.1 (h5 j hj').2 bs[i] (List.mem_take_iff_getElem.2 ⟨i, by omega, rfl⟩)
 simp [hc] at this
theorem Sl.scn {w : World} {B : Nat} {v : Value} {l : List Scn} (h : Sl rScn w B v l) : ∃ A c, v = .slice A l.length c ∧ l.length ≤ c ∧ l.length ≤ 9223372036854775807 ∧
  ∀ k (hk : k < l.length), ∃ ad, A = some ad ∧ ad.block < B ∧ (∀ j u, [Value.int .i64 l[k].tick, .int .i64 l[k].op, .int .i64 l[k].who, .int .i64 l[k].time][j]? = some u → w.cell? (ad.add (k * 4 + j)) = some u) ∧ inI64 l[k].tick ∧ inI64 l[k].op ∧ inI64 l[k].who ∧ inI64 l[k].time := by
 obtain ⟨A, c, hv, h1, h2, h3⟩ := h
 refine ⟨A, c, hv, h1, by unfold maxLen at h2; omega, fun k hk => ?_⟩
 obtain ⟨ad, cs, ha, hlt, hc, rfl, hr⟩ := h3 k hk
 exact ⟨ad, ha, hlt, hc, hr⟩
theorem judgeAll_ok (w : World) (v0 v1 v2 v3 v4 v5 v6 vb vw vx : Value) (e : Int) (l : List Opn) (bs : List Bun) (ws : List Wrk) (xs : List Scn) (hO : ∀ (L : List Res) (w' : World), St w L w' → Ok Tryz.prog 27 [.agg #[v0, v1, v2, v3, v4, v5, v6]].toArray w' fun x _ => x = .int .i64 e)
  (hl : Sl rOp w w.heap.size v6 l) (hb : Sl rBun w w.heap.size vb bs) (hw : Sl rWrk w w.heap.size vw ws) (hx : Sl rScn w w.heap.size vx xs) (hS : Small l) (he : scanE e bs ws = 0) (h300 : ¬ xs.length > 300) :
  OkM Tryz.prog 30 [.agg #[v0, v1, v2, v3, v4, v5, v6], vb, vw, vx].toArray w (fun x : Nat × Nat => .tuple #[.slice (some ⟨x.1, 0, none⟩) xs.length xs.length, .map (some x.2), .int .i64 0]) (fun x => [Box x.1 3 ((outs l ws (ticks bs) [] xs).map (Value.int .i64)).toArray]) := by
 have hC : ∀ (L : List Res) (w' : World), St w L w' → Ok Tryz.prog 8 [.agg #[v0, v1, v2, v3, v4, v5, v6], vb, vw].toArray w' fun x _ => x = .int .i64 0 := fun L w' s => by
  have := scanCheck_ok w' v0 v1 v2 v3 v4 v5 v6 vb vw e bs ws (fun L' w2 s2 => hO [] w2 ⟨s.below.trans (Below.mono s2.below s.below.size), trivial⟩) (hb.later s) (hw.later s)
  rw [he] at this
  exact this
 have hOk := scan_good he
 have htl : (ticks bs).length = bs.length := by simp [ticks]
 obtain ⟨Al, cl, rfl, hlc, hlm⟩ := len_small hl
 obtain ⟨Ab, cb, rfl, hbc, hbm, hbcell⟩ := hb.bun
 obtain ⟨Aw, cw, rfl, hwc, hwm, _⟩ := hw.wrk
 obtain ⟨Ax, cx, rfl, hxc, hxm, hxcell⟩ := hx.scn
 unfold OkM
 refine ok_enter Tryz.func30 rfl Tryz.ntmps30 rfl ?_
 (refine gV ?_; refine gw_boxd (v := .agg _) rfl rfl (fun _ => ?_); (iterate 3 refine gM ?_); refine gO ?_; refine gQ ?_; refine gV ?_; apply gw_d; exact w_load_boxN rfl rfl rfl .here rfl; (iterate 2 refine gM ?_); apply gw_d; exact w_call rfl rfl (hC _) rfl; refine gM ?_; refine gN ?_; refine gM ?_; refine gC ?_; refine gO ?_)
 rename_i bv
 refine gc_if_dec rfl (fun h => absurd rfl h) (fun _ => ?_)
 (refine gK ?_; refine gX ?_; refine gQ ?_; refine gV ?_; refine gM ?_; refine gL ?_; refine gC ?_; refine gO ?_)
 refine gc_if_dec rfl (fun h => by omega) (fun _ => ?_)
 (refine gK ?_; refine gX ?_; refine gV ?_)
 refine gw_makeMap kInt rfl (fun bm => ?_)
 (refine gM ?_; refine gO ?_; refine gQ ?_; refine gV ?_; refine gM ?_; refine gL ?_; refine gM ?_; refine gO ?_; refine gB ?_)
 refine gc_ent (coll_nil (F := recF (ticks bs) (fun _ => 0) 112 [])) ?_
 refine gc_loop (σ := Nat × (Nat → Nat)) [33, 34, 35, 14, 36, 37, 38, 39, 40, 41, 32] (fun s => [(32, .int .i64 s.1)]) (fun s => [Coll s.1 (recF (ticks bs) s.2 112 []), MapR bm kInt (mapK (ticks bs) s.2 s.1), Box bv 29 #[v0, v1, v2, v3, v4, v5, .slice Al l.length cl]]) (fun s => s.1 ≤ bs.length) (fun s => bs.length - s.1) (0, fun _ => 0) (Nat.zero_le _) ⟨rfl, trivial⟩ (.cons .here (.cons .here (.cons .here .nil))) ?_
 rintro ⟨k, β⟩ base hk
 dsimp only at hk ⊢
 (refine gV ?_; refine gC ?_; refine gO ?_; refine gQ ?_)
 refine gc_if_dec rfl (fun h => ?_) (fun h => ?_)
 ·have hlt : k < bs.length := by omega
  obtain ⟨ad, rfl, hbk, hce, h1, h2, h3⟩ := hbcell k hlt
  (refine gK ?_; refine gX ?_; refine gQ ?_; refine gB ?_; refine gV ?_; apply gw_d; exact w_index rfl rfl rfl rfl (by with_reducible exact rfl) (by omega); apply gw_d; exact w_load_elem rfl rfl rfl (by assumption) (by assumption) (by rfl); refine w_alloc rfl (fun _ => ?_); refine w_store_all rfl rfl rfl rfl rfl .here rfl ?_; refine gO ?_; refine gG ?_; refine gM ?_; refine gF ?_; refine gW .here ?_; apply gw_d; exact w_buildP [] (cells := recC [] 0) (by rfl) rfl rfl rfl; refine gw_boxd (v := .agg _) rfl rfl (fun _ => ?_))
  rename_i b1 b2
  refine gw_mapSet (k := bs[k].tick) (v := .pointer (some ⟨b2, 0, none⟩)) intLawC rfl rfl rfl rfl (.there (.there (.there .here))) ?_
  have hmap : aset (mapK (ticks bs) β k) bs[k].tick (.pointer (some ⟨b2, 0, none⟩)) = mapK (ticks bs) (fun i => if i = k then b2 else β i) (k + 1) := by
   show _ = aset (mapK (ticks bs) (fun i => if i = k then b2 else β i) k) (tkAt (ticks bs) k) (ptrAt (fun i => if i = k then b2 else β i) k)
   rw [mapK_congr (β := β) (β' := fun i => if i = k then b2 else β i) k (fun i hi => by rw [if_neg (by omega)]), ticks_at hlt]
   simp [ptrAt]
  rw [hmap]
  (refine gw_nil ?_; refine gH ?_; refine gX ?_; refine gG ?_; refine gA ?_; refine gM ?_; refine gw_nil ?_)
  refine gx_roundE (k + 1, fun i => if i = k then b2 else β i) hlt (by dsimp only; omega) kK ⟨rfl, trivial⟩ ?_
  refine Ent.trans (Sub.ent (K := [Box b2 112 (recC [] (tkAt (ticks bs) k)), Coll k (recF (ticks bs) β 112 []), MapR bm kInt (mapK (ticks bs) (fun i => if i = k then b2 else β i) (k + 1)), Box bv 29 #[v0, v1, v2, v3, v4, v5, .slice Al l.length cl]]) (.cons (.there .here) (.cons (.there (.there .here)) (.cons .here (.cons (.there .here) .nil))))) rec_push
 obtain rfl : k = bs.length := by omega
 (refine gI ?_; (iterate 2 refine gZ ?_); refine gJ ?_; refine gX ?_; refine gV ?_; refine gM ?_; refine gL ?_)
 refine gw_make1 (n := xs.length) rfl rfl rfl rfl rfl (by omega) (by omega) rfl (fun g => ?_)
 rw [show Array.replicate xs.length ((Value.int .i64 0).cells.getD 0 undef) = ((outRow (outs l ws (ticks bs) [] (xs.take 0)) xs.length).map (Value.int .i64)).toArray from by rw [List.take_zero]; show _ = ((outRow [] xs.length).map (Value.int .i64)).toArray; rw [outRow_nil]; exact row_make (Value.int .i64) xs.length 0]
 (refine gM ?_; refine gO ?_; refine gQ ?_; refine gV ?_; refine gM ?_; refine gL ?_; refine gM ?_; refine gO ?_; refine gB ?_)
 refine gc_loop (σ := Nat) [48, 49, 50, 51, 17, 16, 52, 53, 54, 55, 18, 56, 57, 58, 59, 60, 61, 62, 63, 64, 65, 66, 67, 68, 69, 70, 71, 72, 73, 74, 75, 76, 77, 78, 79, 80, 81, 47] (fun i => [(47, .int .i64 i)]) (fun i => [Box g 3 ((outRow (outs l ws (ticks bs) [] (xs.take i)) xs.length).map (Value.int .i64)).toArray, Coll (ticks bs).length (recF (ticks bs) β 112 (paidL l ws (ticks bs) (xs.take i))), MapR bm kInt (mapK (ticks bs) β (ticks bs).length), Box bv 29 #[v0, v1, v2, v3, v4, v5, .slice Al l.length cl]]) (fun i => i ≤ xs.length) (fun i => xs.length - i) 0 (Nat.zero_le _) ⟨rfl, trivial⟩ (by rw [htl]; exact (.cons .here (.cons .here (.cons .here (.cons .here .nil))))) ?_
 rintro i base2 hi
 (refine gV ?_; refine gC ?_; refine gO ?_; refine gQ ?_)
 refine gc_if_dec rfl (fun h2 => ?_) (fun h2 => ?_)
 ·have hil : i < xs.length := by omega
  obtain ⟨ad2, rfl, hxk, hcx, x1, x2, x3, x4⟩ := hxcell i hil
  have hol := outs_len l ws (ticks bs) (xs.take i) []
  rw [List.length_take, Nat.min_eq_left (by omega)] at hol
  have hosn := outs_snoc l ws (ticks bs) xs[i] (xs.take i) []
  have hpsn := paidL_snoc l ws (ticks bs) (xs.take i) xs[i]
  rw [← List.take_succ_eq_append_getElem hil] at hosn hpsn
  change _ = _ ++ [outE l ws (ticks bs) (paidL l ws (ticks bs) (xs.take i)) xs[i]] at hosn
  generalize paidL l ws (ticks bs) (xs.take i) = ps at *
  generalize outs l ws (ticks bs) [] (xs.take i) = os at *
  have hrl := outRow_len (l := os) (n := xs.length) (by omega)
  generalize xs[i] = x at *
  (refine gK ?_; refine gX ?_; refine gQ ?_; refine gB ?_; refine gV ?_; refine gM ?_; apply gw_d; exact w_index rfl rfl rfl rfl (by with_reducible exact rfl) (by omega); apply gw_d; exact w_load_elem rfl rfl rfl (by assumption) (by assumption) (by rfl); refine w_alloc rfl (fun _ => ?_); refine gM ?_; refine w_store_all rfl rfl rfl rfl rfl .here rfl ?_; refine gN ?_; refine gM ?_; refine gF ?_; refine gW .here ?_)
  rename_i bx
  have hset : ∀ v : Int, (outRow os xs.length).set i v = outRow (os ++ [v]) xs.length := fun v => by
   have := outRow_set (l := os) (n := xs.length) (by omega) v
   rw [hol] at this
   exact this
  have hgot : ∀ v : Int, (((outRow (os ++ [v]) xs.length).map (Value.int .i64)).toArray)[i * 1]? = some (.int .i64 v) := fun v => by
   rw [← hset v, row_get (Value.int .i64) 0 (by rw [List.length_set]; omega)]
   simp [hrl, hil]
  cases hT : hasB (ticks bs) x.tick with
  | false =>
   have hget := mapK_none (β := β) (ticks bs).length (tk_not hT)
   have hE : outE l ws (ticks bs) ps x = 3 := by unfold outE; rw [if_pos hT]
   have hN : nextP l ws (ticks bs) ps x = ps := by unfold nextP; rw [hE]; rfl
   rw [hE] at hosn
   rw [hN] at hpsn
   (apply gw_d; exact det_eq (c' := .pointer none) (w_lookup (k := x.tick) intLawC rfl rfl rfl rfl (.there (.there (.there .here)))) (by rw [hget]; rfl); refine gM ?_; refine gN ?_; (iterate 2 refine gM ?_); refine gF ?_; refine gW (.there (.there (.there (.there .here)))) ?_; (iterate 2 refine gM ?_); apply gw_d; exact w_load_boxN rfl rfl rfl .here rfl; apply gw_d; exact w_call rfl rfl (fun w' _ => judge_nil w' _ _ x) rfl; apply gw_d; exact w_index rfl rfl rfl rfl (by with_reducible exact rfl) (by omega))
   refine w_store_row (n := 1) (v := .int .i64 3) rfl rfl rfl rfl rfl (.there .here) (by simp; omega) (row_set (Value.int .i64) (by omega) _) ?_
   rw [hset 3]
   (refine gN ?_; (iterate 2 refine gM ?_); apply gw_d; exact w_index rfl rfl rfl rfl (by with_reducible exact rfl) (by omega); apply gw_d; exact w_load_row rfl rfl rfl .here (hgot 3); refine gC ?_; refine gO ?_)
   refine gc_if_dec rfl (fun h => absurd h (by decide)) (fun _ => ?_)
   (refine gK ?_; refine gH ?_; refine gX ?_; refine gG ?_; refine gA ?_; refine gM ?_; refine gw_nil ?_)
   refine gx_round (i + 1) hil (by omega) kK ⟨rfl, trivial⟩ ?_
   rw [hosn, hpsn]
   exact .cons .here (.cons (.there .here) (.cons (.there .here) (.cons (.there .here) .nil)))
  | true =>
   obtain ⟨j, hj, hjt⟩ := tk_has hT
   have hget := mapK_old (β := β) hOk.tix (ticks bs).length (Nat.le_refl _) j hj
   rw [hjt] at hget
   have hE : outE l ws (ticks bs) ps x = judgeE l ws ps x := by unfold outE; rw [if_neg (by rw [hT]; decide)]
   (apply gw_d; exact det_eq (c' := .pointer (some ⟨β j, 0, none⟩)) (w_lookup (k := x.tick) intLawC rfl rfl rfl rfl (.there (.there (.there .here)))) (by rw [hget]; rfl); refine gM ?_; refine gN ?_; (iterate 2 refine gM ?_); refine gF ?_; refine gW (.there (.there (.there (.there .here)))) ?_; (iterate 2 refine gM ?_); apply gw_d; exact w_load_boxN rfl rfl rfl .here rfl; apply gw_d; exact w_call rfl rfl (fun w' s => judge_ok w' (.slice Al l.length cl) (.slice Aw ws.length cw) (β j) 112 l ws ps x (hl.later s) (hw.later s) hS (by have h9 := (s.pick (.there (.there .here))).head.1 j hj; unfold recF at h9; rw [hjt] at h9; exact h9)) rfl; apply gw_d; exact w_index rfl rfl rfl rfl (by with_reducible exact rfl) (by omega))
   refine w_store_row (n := 1) (v := .int .i64 (judgeE l ws ps x)) rfl rfl rfl rfl rfl (.there .here) (by simp; omega) (row_set (Value.int .i64) (by omega) _) ?_
   rw [hset]
   rw [hE] at hosn
   (refine gN ?_; (iterate 2 refine gM ?_); apply gw_d; exact w_index rfl rfl rfl rfl (by with_reducible exact rfl) (by omega); apply gw_d; exact w_load_row rfl rfl rfl .here (hgot _); refine gC ?_; refine gO ?_)
   refine gc_if_dec rfl (fun h1 => ?_) (fun h1 => ?_)
   ·have hN : nextP l ws (ticks bs) ps x = ps ++ [x] := by unfold nextP; rw [hE, if_pos h1]
    rw [hN] at hpsn
    have hkn : 0 ≤ x.op ∧ x.op < l.length := by
     unfold judgeE at h1
     split at h1
     ·cases h1
     ·rename_i h9
      have : knownB l ws x = true := by simpa using h9
      unfold knownB at this
      have := of_decide_eq_true this
      exact ⟨this.1, this.2.1⟩
    obtain ⟨o, ho⟩ : ∃ o : Nat, x.op = (o : Int) := ⟨x.op.toNat, by omega⟩
    have ho16 : o < 16 := by have := hS.1; omega
    have hrs := recC_size ps x.tick
    refine gc_ent (Ent.trans (Sub.ent (K := [Coll (ticks bs).length (recF (ticks bs) β 112 ps), Box g 3 ((outRow (os ++ [judgeE l ws ps x]) xs.length).map (Value.int .i64)).toArray, Box bx 52 #[.int .i64 x.tick, .int .i64 x.op, .int .i64 x.who, .int .i64 x.time], MapR bm kInt (mapK (ticks bs) β (ticks bs).length), Box bv 29 #[v0, v1, v2, v3, v4, v5, .slice Al l.length cl]]) (.cons (.there (.there .here)) (.cons .here (.cons .here (.cons .here (.cons .here .nil)))))) (rec_take hj)) ?_
    rw [hjt]
    refine gc_seq ?_
    refine gc_block_draw Nat 5 (fun i => ([[], [], [1], [0], [0, 3]] : List (List Nat)).getD i []) rfl (by kernel_rfl) ?_
    (apply gb_d; (intro γ; exact det_m rfl rfl (by conv => (lhs; whnf))); (intros; rfl); (intros; rfl); apply gb_d; (intro γ; exact w_field rfl rfl rfl); (intros; rfl); (intros; rfl); apply gb_d; (intro γ; exact w_load_box rfl rfl rfl (.there (.there (.there .here))) rfl); (intros; rfl); (intros; rfl); apply gb_d; (intro γ; exact w_nilcheck rfl rfl rfl); (intros; rfl); (intros; rfl); apply gb_d; (intro γ; exact w_field rfl rfl rfl); (intros; rfl); (intros; rfl))
    refine GB.nil (fun _ => ?_)
    (apply gw_d; exact w_index_arr (m := o) rfl rfl rfl rfl ho ho16)
    refine w_store_row (b := β j) (bt := 112) (cs := recC ps x.tick) (n := 1) (v := .bool true) (i := 0 + o * 1) (cs' := ((recC ps x.tick).toList.set o (.bool true)).toArray) rfl (congrArg (fun x => Value.pointer (some x)) (add_add ⟨β j, 0, none⟩ 0 (o * 1))) rfl rfl rfl .here (by omega) (by rw [Nat.zero_add, Nat.mul_one]; exact set_row (by omega) rfl) ?_
    (refine gO ?_; refine gG ?_; refine gM ?_; refine gF ?_; refine gW (.there (.there (.there .here))) ?_; apply gw_d; exact w_nilcheck rfl rfl rfl; refine gF ?_)
    refine w_store_row (b := β j) (bt := 112) (cs := ((recC ps x.tick).toList.set o (.bool true)).toArray) (n := 1) (v := .int .i64 x.time) (i := 16) (cs' := recC (ps ++ [x]) x.tick) rfl rfl rfl rfl rfl .here (by simp; omega) (by rw [set_row (by simp; omega) rfl]; show (((recC ps x.tick).toList.set o (.bool true)).set 16 (.int .i64 x.time)).toArray = _; rw [recC_pay ps x ho ho16]) ?_
    (refine gw_nil ?_; refine gH ?_; refine gX ?_; refine gG ?_; refine gA ?_; refine gM ?_; refine gw_nil ?_)
    refine gx_roundE (i + 1) hil (by omega) kK ⟨rfl, trivial⟩ ?_
    rw [hosn, hpsn]
    exact Ent.trans (rec_put hOk.tix hj hjt) (Sub.ent (.cons (.there .here) (.cons .here (.cons (.there .here) (.cons (.there .here) .nil)))))
   ·have hN : nextP l ws (ticks bs) ps x = ps := by unfold nextP; rw [hE, if_neg h1]
    rw [hN] at hpsn
    (refine gK ?_; refine gH ?_; refine gX ?_; refine gG ?_; refine gA ?_; refine gM ?_; refine gw_nil ?_)
    refine gx_round (i + 1) hil (by omega) kK ⟨rfl, trivial⟩ ?_
    rw [hosn, hpsn]
    exact .cons .here (.cons (.there .here) (.cons (.there .here) (.cons (.there .here) .nil)))
 ·obtain rfl : i = xs.length := by omega
  rw [List.take_length]
  have hol := outs_len l ws (ticks bs) xs []
  have hrow : outRow (outs l ws (ticks bs) [] xs) xs.length = outs l ws (ticks bs) [] xs := by
   have := outRow_full (l := outs l ws (ticks bs) [] xs)
   rw [hol] at this
   exact this
  rw [hrow]
  (refine gI ?_; (iterate 2 refine gZ ?_); refine gJ ?_; refine gX ?_; refine gV ?_; (iterate 5 refine gM ?_); refine gO ?_; refine gR ?_)
  exact gx_ret3 (u := .slice _ _ _) (v := .map _) (x := .int _ _) rfl rfl rfl rfl (fun w' s => ⟨(g, bm), rfl, (St.sub (K := [Box g 3 ((outs l ws (ticks bs) [] xs).map (Value.int .i64)).toArray]) (.cons .here .nil) s).sep⟩)
section
variable {w : World} {v0 v1 v2 v3 v4 v5 v6 vb vw vx : Value} {e : Int} {l : List Opn} {bs : List Bun} {ws : List Wrk} {xs : List Scn} (hO : ∀ (L : List Res) (w' : World), St w L w' → Ok Tryz.prog 27 [.agg #[v0, v1, v2, v3, v4, v5, v6]].toArray w' fun x _ => x = .int .i64 e)
include hO
def judgeAllE (e : Int) (bs : List Bun) (ws : List Wrk) (n : Nat) : Int := if ¬ scanE e bs ws = 0 then scanE e bs ws else if n > 300 then 5 else 0
theorem hO_later {L : List Res} {w' : World} (s : St w L w') : ∀ (L : List Res) (w2 : World), St w' L w2 → Ok Tryz.prog 27 [.agg #[v0, v1, v2, v3, v4, v5, v6]].toArray w2 fun x _ => x = .int .i64 e := fun _ w2 s2 => hO [] w2 ⟨s.below.trans (Below.mono s2.below s.below.size), trivial⟩
theorem Judge_ok (hl : Sl rOp w w.heap.size v6 l) (hb : Sl rBun w w.heap.size vb bs) (hw : Sl rWrk w w.heap.size vw ws) (hx : Sl rScn w w.heap.size vx xs) (hS : Small l) (he : judgeAllE e bs ws xs.length = 0) :
  OkM Tryz.prog 12 [.agg #[v0, v1, v2, v3, v4, v5, v6], vb, vw, vx].toArray w (fun x : Nat => .tuple #[.slice (some ⟨x, 0, none⟩) xs.length xs.length, .int .i64 0]) (fun x => [Box x 3 ((outs l ws (ticks bs) [] xs).map (Value.int .i64)).toArray]) := by
 have h1 : scanE e bs ws = 0 := by
  unfold judgeAllE at he
  split at he
  ·rename_i h; exact absurd he h
  ·rename_i h; simpa using h
 have h2 : ¬ xs.length > 300 := fun h => by
  unfold judgeAllE at he
  rw [if_neg (by rw [h1]; decide), if_pos h] at he
  cases he
 unfold OkM
 refine ok_enter Tryz.func12 rfl Tryz.ntmps12 rfl ?_
 (refine gV ?_; refine gw_boxd (v := .agg _) rfl rfl (fun _ => ?_); (iterate 2 refine gM ?_); refine gN ?_; apply gw_d; exact w_load_boxN rfl rfl rfl .here rfl; (iterate 3 refine gM ?_))
 refine gw_callm rfl (fun w' s => judgeAll_ok w' v0 v1 v2 v3 v4 v5 v6 vb vw vx e l bs ws xs (hO_later hO s) (hl.later s) (hb.later s) (hw.later s) (hx.later s) hS h1 h2) rfl (fun x => ?_)
 (refine gM ?_; apply gw_d; exact det_extract rfl rfl rfl (by conv => (lhs; whnf)); apply gw_d; exact det_extract rfl rfl rfl (by conv => (lhs; whnf)); apply gw_d; exact det_extract rfl rfl rfl (by conv => (lhs; whnf)); (iterate 3 refine gM ?_); refine gN ?_; (iterate 4 refine gM ?_); refine gO ?_; refine gR ?_)
 exact gx_ret2 (u := .slice _ _ _) (v := .int _ _) rfl rfl rfl (fun w' s => ⟨x.1, rfl, (St.sub (K := [Box x.1 3 ((outs l ws (ticks bs) [] xs).map (Value.int .i64)).toArray]) (.cons .here .nil) s).sep⟩)
end
def mapV (tk : List Int) (f : Nat → Value) : Nat → List (Int × Value)
 | 0 => []
 | k + 1 => aset (mapV tk f k) (tkAt tk k) (f k)
theorem mapV_old {tk : List Int} {f : Nat → Value} (h : Tix tk) : ∀ k, k ≤ tk.length → ∀ i, i < k → aget (mapV tk f k) (tkAt tk i) = some (f i)
 | 0, _, i, hi => by omega
 | k + 1, hk, i, hi => by
  show aget (aset (mapV tk f k) (tkAt tk k) (f k)) (tkAt tk i) = _
  rw [aget_aset]
  split
  ·rename_i he
   rw [h.inj (by omega) (by omega) he]
  ·rename_i he
   exact mapV_old h k (by omega) i (by
    have : ¬ i = k := fun hc => he (by rw [hc])
    omega)
def rowC (n : Nat) (A : Nat → Option Addr × Nat) (F : Nat → List Int) : List Value := (List.range n).map fun m => .slice (A m).1 (F m).length (A m).2
def setA (A : Nat → Option Addr × Nat) (m : Nat) (a : Option Addr × Nat) : Nat → Option Addr × Nat := fun j => if j = m then a else A j
def rowR (el : TypeId) (A : Nat → Option Addr × Nat) (F : Nat → List Int) (m : Nat) : Res := Own (A m).1 (F m).length (A m).2 el 1 ((F m).map (Value.int .i64))
theorem rowC_len (n : Nat) (A : Nat → Option Addr × Nat) (F : Nat → List Int) : (rowC n A F).length = n := by simp [rowC]
theorem rowC_get {n m : Nat} (A : Nat → Option Addr × Nat) (F : Nat → List Int) (hm : m < n) : (rowC n A F).toArray[m * 1]? = some (.slice (A m).1 (F m).length (A m).2) := by simp [rowC, hm]
theorem rowC_set {n m : Nat} {A : Nat → Option Addr × Nat} {F F' : Nat → List Int} (_hm : m < n) {a : Option Addr × Nat} (h1 : ∀ j, ¬ j = m → F' j = F j) : (rowC n A F).set m (.slice a.1 (F' m).length a.2) = rowC n (setA A m a) F' := by
 apply List.ext_getElem
 ·simp [rowC]
 ·intro i h2 h3
  simp only [rowC, List.getElem_set, List.getElem_map, List.getElem_range, setA]
  by_cases h : m = i
  ·subst h; simp
  ·have : ¬ i = m := fun hc => h hc.symm
   simp [h, this, h1 i this]
theorem row_put {n m : Nat} {el : TypeId} {A : Nat → Option Addr × Nat} {F F' : Nat → List Int} {a : Option Addr × Nat} {L : List Res} (hm : m < n) (h1 : ∀ j, ¬ j = m → F' j = F j) :
  Ent (Own a.1 (F' m).length a.2 el 1 ((F' m).map (Value.int .i64)) :: Coll n (setR (rowR el A F) m Emp) :: L) (Coll n (rowR el (setA A m a) F') :: L) :=
 Ent.trans (coll_put hm) (coll_congr fun j hj => by
  unfold setR rowR setA
  by_cases h : j = m
  ·subst h; simp
  ·simp [h, h1 j h])
theorem rows_nil {n : Nat} {el : TypeId} {F : Nat → List Int} (hF : ∀ m, F m = []) {L : List Res} : Ent L (Coll n (rowR el (fun _ => (none, 0)) F) :: L) := fun w0 w s => by
 have hfp : ∀ m b, ¬ (rowR el (fun _ => (none, 0)) F m).fp b := fun m b hb => by
  unfold rowR at hb
  rw [hF m] at hb
  simp [Own, Value.ownBlock] at hb
 refine ⟨s.below, ⟨fun m _ => ?_, fun i j _ _ _ b hb => absurd hb (hfp i b)⟩, fun b ⟨i, _, hb⟩ => absurd hb (hfp i b), fun b ⟨i, _, hb⟩ => absurd hb (hfp i b), s.sep⟩
 unfold rowR
 rw [hF m]
 exact World.ownsRow_nil w 0 el 1
theorem Sl.rowAt {w0 w : World} {L L' : List Res} {n m : Nat} {el : TypeId} {A : Nat → Option Addr × Nat} {F : Nat → List Int} (s : St w0 L w) (hp : Pick L (Coll n (rowR el A F)) L') (hm : m < n) (hin : ∀ x ∈ F m, inI64 x) : Sl rInt w w.heap.size (.slice (A m).1 (F m).length (A m).2) (F m) :=
 Sl.ownI (coll_take hm w0 w (s.pick hp)) .here rfl hin
/-- What is known in the last loop: the stations T of the operations, the rows F of the stations. -/
structure BInv (n m i : Nat) (F : Nat → List Int) (T : List Int) : Prop where
 le : i ≤ n
 len : T.length = n
 rng : ∀ x ∈ T, -1 ≤ x ∧ x ≤ 100
 free : ∀ j, i ≤ j → j < n → T.getD j 0 = -1
 row : ∀ q, (F q).length ≤ i
 ent : ∀ q, ∀ x ∈ F q, 0 ≤ x ∧ x < 16
/-- What Balance gives: where its rows lie, and the rows. -/
abbrev BalX := { x : Nat × Nat × (Nat → Option Addr × Nat) × (Nat → List Int) // x.2.1 ≤ 16 ∧ (∀ q, (x.2.2.2 q).length ≤ 16) ∧ ∀ q, ∀ y ∈ x.2.2.2 q, 0 ≤ y ∧ y < 16 }
theorem Balance_bad (w : World) (v : Value) (l : List Opn) (c : Int) (hl : Sl rOp w w.heap.size v l) (he : ¬ bndE l c = 0) : Ok Tryz.prog 6 [v, .int .i64 c].toArray w fun r _ => r = .tuple #[.slice none 0 0, .int .i64 (bndE l c)] := by
 refine ok_enter Tryz.func6 rfl Tryz.ntmps6 rfl ?_
 (refine gV ?_; (iterate 2 refine gM ?_); refine gO ?_; refine gQ ?_; refine gV ?_; (iterate 2 refine gM ?_); apply gw_d; exact w_call rfl rfl (fun w' s => Bound_bad w' v c l (hl.later s) he) rfl; refine gM ?_; apply gw_d; exact det_extract rfl rfl rfl (by conv => (lhs; whnf)); apply gw_d; exact det_extract rfl rfl rfl (by conv => (lhs; whnf)); (iterate 2 refine gM ?_); refine gN ?_; refine gM ?_; refine gC ?_; refine gO ?_)
 refine gc_if_dec rfl (fun _ => ?_) (fun h => absurd he (by simpa using h))
 (refine gV ?_; (iterate 3 refine gM ?_); refine gO ?_; refine gR ?_; refine gT ?_)
 refine gx_ret2 (u := .slice _ _ _) (v := .int _ _) rfl rfl rfl (fun _ _ => ?_)
 rfl
theorem Balance_ok (w : World) (v : Value) (l : List Opn) (c : Int) (hl : Sl rOp w w.heap.size v l) (he : bndE l c = 0) :
  OkM Tryz.prog 6 [v, .int .i64 c].toArray w (fun x : BalX => .tuple #[.slice (some ⟨x.1.1, 0, none⟩) x.1.2.1 x.1.2.1, .int .i64 0]) (fun x => [Box x.1.1 23 (rowC x.1.2.1 x.1.2.2.1 x.1.2.2.2).toArray, Coll x.1.2.1 (rowR 3 x.1.2.2.1 x.1.2.2.2)]) := by
 obtain ⟨h1, hc1, hc2, hov⟩ := bnd_zero he
 obtain ⟨h16, hop⟩ := list_minutes h1
 obtain ⟨A0, ca, rfl, hlc, hlm⟩ := len_small hl
 have hEnd : 0 ≤ (lstE l (List.replicate l.length (-1)) c (l.length * c)).getD (2 ^ l.length - 1) 0 ∧ (lstE l (List.replicate l.length (-1)) c (l.length * c)).getD (2 ^ l.length - 1) 0 ≤ l.length * c ∧ (0 < l.length → 1 ≤ (lstE l (List.replicate l.length (-1)) c (l.length * c)).getD (2 ^ l.length - 1) 0) := by
  obtain ⟨so, hso⟩ := topo h1
  have hm : ∀ i, i < l.length → 1 ≤ (l.getD i opZ).minutes ∧ (l.getD i opZ).minutes ≤ c := fun i hi => by
   rw [List.getD_eq_getElem?_getD, List.getElem?_eq_getElem hi]
   exact ⟨(hop i hi).1, by
    have := List.any_eq_false.1 hov _ (List.getElem_mem hi)
    simpa using this⟩
  have h := lst_free hc1 hso.len hso.mem hso.nodup hso.after hm
  refine ⟨h.1, h.2, fun hn => ?_⟩
  have := lstE_pos (l := l) (c := c) (st := List.replicate l.length (-1)) (lim := l.length * c) (fun i hi => (hm i hi).1) hn
  omega
 have hnc : 0 ≤ (l.length : Int) * c ∧ (l.length : Int) * c ≤ 16000000 := by
  have h2 : (l.length : Int) * c ≤ 16 * c := Int.mul_le_mul_of_nonneg_right (by omega) (by omega)
  exact ⟨Int.mul_nonneg (by omega) (by omega), by omega⟩
 have hls : ∀ (ba : Nat) (L : List Res) (w' : World), St w (Box ba 3 (((List.replicate l.length (-1)).map (Value.int .i64)).toArray) :: L) w' → Ok Tryz.prog 16 [.slice A0 l.length ca, .int .i64 c, .slice (some ⟨ba, 0, none⟩) l.length l.length, .int .i64 ((l.length : Int) * c)].toArray w' fun r _ => r = .tuple #[.int .i64 ((lstE l (List.replicate l.length (-1)) c (l.length * c)).getD (2 ^ l.length - 1) 0), .bool (decide (0 ≤ (lstE l (List.replicate l.length (-1)) c (l.length * c)).getD (2 ^ l.length - 1) 0))] := fun ba L w' s => by
  have hall : ∀ y ∈ List.replicate l.length (-1 : Int), y = -1 := fun y hy => (List.mem_replicate.1 hy).2
  have h := least_ok w' (.slice A0 l.length ca) (.slice (some ⟨ba, 0, none⟩) l.length l.length) l (List.replicate l.length (-1)) c ((l.length : Int) * c) (hl.later s) (Sl.boxI s .here (by simp) (Nat.le_refl _) (by omega) fun y hy => by rw [hall y hy]; unfold inI64; omega) (by simp) (fun j hj => by rw [st_free hj]; omega) ⟨hc1, hc2⟩ hnc.2 h1
  rw [if_neg (by omega)] at h
  exact h
 generalize (lstE l (List.replicate l.length (-1)) c (l.length * c)).getD (2 ^ l.length - 1) 0 = E at hEnd hls
 unfold OkM
 refine ok_enter Tryz.func6 rfl Tryz.ntmps6 rfl ?_
 (refine gV ?_; (iterate 2 refine gM ?_); refine gO ?_; refine gQ ?_; refine gV ?_; (iterate 2 refine gM ?_))
 refine gw_callm rfl (fun w' s => Bound_ok w' (.slice A0 l.length ca) c l (hl.later s) he) rfl (fun xb => ?_)
 (refine gM ?_; apply gw_d; exact det_extract rfl rfl rfl (by conv => (lhs; whnf)); apply gw_d; exact det_extract rfl rfl rfl (by conv => (lhs; whnf)); (iterate 2 refine gM ?_); refine gN ?_; refine gM ?_; refine gC ?_; refine gO ?_)
 refine gc_if_dec rfl (fun h => absurd rfl h) (fun _ => ?_)
 (refine gK ?_; refine gX ?_; refine gV ?_; refine gM ?_; refine gL ?_)
 refine gw_make1 (n := l.length) rfl rfl rfl rfl rfl (by omega) (by omega) rfl (fun ba => ?_)
 rw [show Array.replicate l.length ((Value.int .i64 0).cells.getD 0 undef) = ((filL l.length 0).map (Value.int .i64)).toArray from row_make (Value.int .i64) l.length 0]
 (refine gM ?_; refine gO ?_; refine gQ ?_; refine gV ?_; refine gM ?_; refine gL ?_; refine gM ?_; refine gO ?_; refine gB ?_)
 refine gc_loop1 (σ := Nat) [30, 31, 9, 32, 33, 34, 35, 29] (fun k => [(29, .int .i64 k)]) (fun k => Box ba 3 ((filL l.length k).map (Value.int .i64)).toArray) (fun k => k ≤ l.length) (fun k => l.length - k) 0 (Nat.zero_le _) ⟨rfl, trivial⟩ rfl ?_
 rintro k base hk
 have hfl := filL_len hk
 (refine gV ?_; refine gC ?_; refine gO ?_; refine gQ ?_)
 refine gc_if_dec rfl (fun h2 => ?_) (fun h2 => ?_)
 ·have hlt : k < l.length := by omega
  (refine gK ?_; refine gX ?_; refine gQ ?_; refine gB ?_; refine gV ?_; (iterate 2 refine gM ?_); refine gO ?_; refine gG ?_; (iterate 2 refine gM ?_); apply gw_d; exact w_index (m := k) rfl rfl rfl rfl rfl hlt)
  refine w_store_row (n := 1) (v := .int .i64 (-1)) rfl rfl rfl rfl rfl .here (by rw [List.size_toArray, List.length_map, hfl]; omega) (row_set (Value.int .i64) (by rw [hfl]; exact hlt) (-1)) ?_
  rw [filL_next hlt]
  (refine gw_nil ?_; refine gH ?_; refine gX ?_; refine gG ?_; refine gA ?_; refine gM ?_; refine gw_nil ?_)
  exact gx_round (k + 1) (by omega) (by omega) kK ⟨rfl, trivial⟩ (Sub.all _)
 obtain rfl : k = l.length := by omega
 rw [show filL l.length l.length = List.replicate l.length (-1) from by unfold filL; rw [Nat.sub_self, List.replicate_zero, List.append_nil]]
 (refine gI ?_; (iterate 2 refine gZ ?_); refine gJ ?_; refine gX ?_; refine gV ?_; (iterate 4 refine gM ?_); refine gL ?_; refine gM ?_; refine gA ?_; apply gw_d; exact w_call rfl rfl (hls ba _) rfl; refine gM ?_; apply gw_d; exact det_extract rfl rfl rfl (by conv => (lhs; whnf)); apply gw_d; exact det_extract rfl rfl rfl (by conv => (lhs; whnf)); (iterate 2 refine gM ?_); refine gN ?_; (iterate 2 refine gM ?_); refine gA ?_; refine gA ?_; refine gM ?_; apply gw_d; exact det_quo rfl rfl rfl rfl (by omega) (by omega) (by omega))
 obtain ⟨m, hm⟩ : ∃ m : Nat, (E + c - 1) / c = (m : Int) := ⟨((E + c - 1) / c).toNat, by
  have := Int.ediv_nonneg (a := E + c - 1) (b := c) (by omega) (by omega)
  omega⟩
 have hmn : m ≤ l.length := by
  have : (E + c - 1) / c < (l.length : Int) + 1 := Int.ediv_lt_of_lt_mul (by omega) (by rw [Int.add_mul]; omega)
  omega
 have hm1 : 0 < l.length → 1 ≤ m := fun h0 => by
  have : 1 ≤ (E + c - 1) / c := (Int.le_ediv_iff_mul_le (by omega)).2 (by have := hEnd.2.2 h0; omega)
  omega
 have hmc : 0 ≤ (m : Int) * c ∧ (m : Int) * c ≤ 16000000 := by
  have h2 : (m : Int) * c ≤ 16 * c := Int.mul_le_mul_of_nonneg_right (by omega) (by omega)
  exact ⟨Int.mul_nonneg (by omega) (by omega), by omega⟩
 have hmq : (m : Int) * c / c = (m : Int) := Int.mul_ediv_cancel _ (by omega)
 refine gw_make1 (n := m) rfl rfl rfl hm hm (by omega) (by omega) rfl (fun bs => ?_)
 have hrow0 : rowC m (fun _ => (none, 0)) (fun _ => []) = List.replicate m (.slice none 0 0) := by
  apply List.ext_getElem
  ·simp [rowC]
  ·intro i a1 a2
   simp only [rowC, List.getElem_map, List.getElem_replicate]
   rfl
 rw [show Array.replicate m ((Value.slice none 0 0).cells.getD 0 undef) = (rowC m (fun _ => (none, 0)) (fun _ => [])).toArray from by rw [hrow0]; simp [Value.cells]]
 (refine gM ?_; refine gN ?_; refine gM ?_; refine gL ?_; refine gM ?_; refine gA ?_; refine gM ?_; refine gO ?_; refine gQ ?_; refine gV ?_; refine gM ?_; refine gL ?_; refine gM ?_; refine gO ?_; refine gB ?_)
 refine gc_ent (rows_nil (n := m) (el := 3) (F := fun _ => []) (fun _ => rfl)) ?_
 refine gc_loop (σ := Nat × (Nat → Option Addr × Nat) × (Nat → List Int) × List Int) [61, 62, 14, 63, 64, 65, 66, 67, 68, 69, 70, 71, 72, 73, 74, 75, 76, 77, 78, 79, 80, 81, 82, 83, 84, 85, 86, 87, 88, 60] (fun s => [(60, .int .i64 s.1)]) (fun s => [Coll m (rowR 3 s.2.1 s.2.2.1), Box bs 23 (rowC m s.2.1 s.2.2.1).toArray, Box ba 3 ((s.2.2.2.map (Value.int .i64)).toArray)]) (fun s => BInv l.length m s.1 s.2.2.1 s.2.2.2) (fun s => l.length - s.1) (0, fun _ => (none, 0), fun _ => [], List.replicate l.length (-1)) ⟨Nat.zero_le _, by simp, fun x hx => by rw [(List.mem_replicate.1 hx).2]; omega, fun j _ hj => st_free hj, fun _ => Nat.le_refl _, fun q x hx => by cases hx⟩ ⟨rfl, trivial⟩ (Sub.all _) ?_
 rintro ⟨i, A, F, T⟩ base2 hI
 dsimp only at hI ⊢
 have hile := hI.le
 have hTl := hI.len
 (refine gV ?_; refine gC ?_; refine gO ?_; refine gQ ?_)
 refine gc_if_dec rfl (fun h3 => ?_) (fun h3 => ?_)
 ·have hil : i < l.length := by omega
  (refine gK ?_; refine gX ?_; refine gQ ?_; refine gB ?_; refine gV ?_; (iterate 2 refine gM ?_); refine gN ?_; (iterate 7 refine gM ?_))
  have hml := hm1 (by omega)
  refine gw_callB (φ := fun r cs => cs = (T.map (Value.int .i64)).toArray ∧ ∃ k : Nat, k < m ∧ r = .int .i64 (k : Int)) rfl (.there (.there .here)) (fun w' s => first_ok w' ba (.slice A0 l.length ca) l T c ((m : Int) * c) i m s.head (Sl.cut s .here hl) hTl hI.rng hil (hI.free i (Nat.le_refl _) hil) ⟨hc1, hc2⟩ ⟨hml, by omega⟩ hmc hmq h1) rfl ?_
  rintro v cs' ⟨rfl, k, hkm, rfl⟩
  (apply gw_d; exact w_index (m := i) rfl rfl rfl rfl rfl hil)
  refine w_store_row (n := 1) (v := .int .i64 (k : Int)) rfl rfl rfl rfl rfl .here (by rw [List.size_toArray, List.length_map]; omega) (row_set (Value.int .i64) (by omega) (k : Int)) ?_
  have hTg : ((T.set i (k : Int)).map (Value.int .i64)).toArray[i * 1]? = some (.int .i64 (k : Int)) := by
   rw [row_get (Value.int .i64) 0 (by rw [List.length_set]; omega), List.getD_eq_getElem?_getD, List.getElem?_set, if_pos rfl, if_pos (by omega)]
   rfl
  have hI2 : BInv l.length m (i + 1) (fun q => if q = k then F k ++ [(i : Int)] else F q) (T.set i (k : Int)) := by
   refine ⟨by omega, by rw [List.length_set]; exact hTl, fun x hx => ?_, fun j hj hjn => ?_, fun q => ?_, fun q x hx => ?_⟩
   ·rcases List.mem_or_eq_of_mem_set hx with h | h
    ·exact hI.rng x h
    ·omega
   ·have := hI.free j (by omega) hjn
    rw [List.getD_eq_getElem?_getD, List.getElem?_set, if_neg (by omega), ← List.getD_eq_getElem?_getD]
    exact this
   ·split
    ·have := hI.row k
     rw [List.length_append]
     simp only [List.length_cons, List.length_nil]
     omega
    ·have := hI.row q
     omega
   ·split at hx
    ·rcases List.mem_append.1 hx with h | h
     ·exact hI.ent k x h
     ·rw [List.mem_singleton] at h
      omega
    ·exact hI.ent q x hx
  have hFk : (if k = k then F k ++ [(i : Int)] else F k) = F k ++ [(i : Int)] := if_pos rfl
  have hFo : ∀ q, ¬ q = k → (if q = k then F k ++ [(i : Int)] else F q) = F q := fun q hq => if_neg hq
  have hlenF := hI.row k
  generalize T.set i (k : Int) = T2 at *
  (refine gO ?_)
  refine gc_ent (Ent.trans (Sub.ent (K := [Coll m (rowR 3 A F), Box ba 3 (T2.map (Value.int .i64)).toArray, Box bs 23 (rowC m A F).toArray]) (.cons (.there .here) (.cons .here (.cons .here .nil)))) (coll_take hkm)) ?_
  generalize hLr : [Coll m (setR (rowR 3 A F) k Emp), Box ba 3 (T2.map (Value.int .i64)).toArray, Box bs 23 (rowC m A F).toArray] = Lr
  obtain ⟨Lx, hpx⟩ : ∃ Lx, Pick Lr (Box ba 3 (T2.map (Value.int .i64)).toArray) Lx := by rw [← hLr]; exact ⟨_, .there .here⟩
  obtain ⟨Lg, hpg⟩ : ∃ Lg, Pick Lr (Box bs 23 (rowC m A F).toArray) Lg := by rw [← hLr]; exact ⟨_, .there (.there .here)⟩
  refine gc_blockJ (P := Tryz.prog) (Nat × Option Addr × Nat) 15 (fun i => ([[], [], [], [1, 2], [1, 2, 3], [], [], [], [6, 7], [6, 7, 8], [5, 6, 7, 8, 9], [5, 6, 7, 8, 9, 10], [], [12], [5, 6, 7, 8, 9, 10, 11, 12, 13]] : List (List Nat)).getD i []) (fun j γ => match j with
   | 0 => .slice (some ⟨bs, 0, none⟩) m m
   | 1 => .slice (some ⟨ba, 0, none⟩) l.length l.length
   | 2 => .int .i64 (i : Int)
   | 3 => .pointer (some ((⟨ba, 0, none⟩ : Addr).add (i * 1)))
   | 4 => .int .i64 (k : Int)
   | 5 => .slice (some ⟨bs, 0, none⟩) m m
   | 6 => .slice (some ⟨ba, 0, none⟩) l.length l.length
   | 7 => .int .i64 (i : Int)
   | 8 => .pointer (some ((⟨ba, 0, none⟩ : Addr).add (i * 1)))
   | 9 => .int .i64 (k : Int)
   | 10 => .pointer (some ((⟨bs, 0, none⟩ : Addr).add (k * 1)))
   | 11 => .slice (A k).1 (F k).length (A k).2
   | 12 => .int .i64 (i : Int)
   | 13 => .slice (some ⟨(γ 13).1, 0, none⟩) 1 1
   | 14 => .slice (γ 14).2.1 ((F k).length + 1) (γ 14).2.2
   | _ => undef) (fun ls β w' => St w ((if ls 14 = true then Own (β 14).2.1 ((F k).length + 1) (β 14).2.2 3 1 ((F k).map (Value.int .i64) ++ [.int .i64 (i : Int)]) else rowR 3 A F k) :: ((if ls 13 = true then [Box (β 13).1 3 #[.int .i64 (i : Int)]] else []) ++ Lr)) w') rfl (by kernel_rfl) (fun w' s => s) ?_ ?_
  ·intro j o ls β w' hi hik hls hpl hJ
   have hS0 : St w Lr w' := by
    have := hJ.drop
    exact this.sublist (List.sublist_append_right _ _)
   obtain rfl | rfl | rfl | rfl | rfl | rfl | rfl | rfl | rfl | rfl | rfl | rfl | rfl | rfl | rfl : j = 0 ∨ j = 1 ∨ j = 2 ∨ j = 3 ∨ j = 4 ∨ j = 5 ∨ j = 6 ∨ j = 7 ∨ j = 8 ∨ j = 9 ∨ j = 10 ∨ j = 11 ∨ j = 12 ∨ j = 13 ∨ j = 14 := by omega
   ·cases hi
    exact detG (det_m (v := .slice (some ⟨bs, 0, none⟩) m m) rfl rfl rfl) rfl hS0 (fun w2 hx => ⟨default, rfl, St.ext hJ hx⟩)
   ·cases hi
    exact detG (det_m (v := .slice (some ⟨ba, 0, none⟩) l.length l.length) rfl rfl rfl) rfl hS0 (fun w2 hx => ⟨default, rfl, St.ext hJ hx⟩)
   ·cases hi
    exact detG (det_m (v := .int .i64 (i : Int)) rfl rfl rfl) rfl hS0 (fun w2 hx => ⟨default, rfl, St.ext hJ hx⟩)
   ·cases hi
    exact detG (w_index (m := i) rfl rfl rfl rfl rfl hil) rfl hS0 (fun w2 hx => ⟨default, rfl, St.ext hJ hx⟩)
   ·cases hi
    exact detG (w_load_row rfl rfl rfl hpx hTg) rfl hS0 (fun w2 hx => ⟨default, rfl, St.ext hJ hx⟩)
   ·cases hi
    exact detG (det_m (v := .slice (some ⟨bs, 0, none⟩) m m) rfl rfl rfl) rfl hS0 (fun w2 hx => ⟨default, rfl, St.ext hJ hx⟩)
   ·cases hi
    exact detG (det_m (v := .slice (some ⟨ba, 0, none⟩) l.length l.length) rfl rfl rfl) rfl hS0 (fun w2 hx => ⟨default, rfl, St.ext hJ hx⟩)
   ·cases hi
    exact detG (det_m (v := .int .i64 (i : Int)) rfl rfl rfl) rfl hS0 (fun w2 hx => ⟨default, rfl, St.ext hJ hx⟩)
   ·cases hi
    exact detG (w_index (m := i) rfl rfl rfl rfl rfl hil) rfl hS0 (fun w2 hx => ⟨default, rfl, St.ext hJ hx⟩)
   ·cases hi
    exact detG (w_load_row rfl rfl rfl hpx hTg) rfl hS0 (fun w2 hx => ⟨default, rfl, St.ext hJ hx⟩)
   ·cases hi
    exact detG (w_index (m := k) rfl rfl rfl rfl rfl hkm) rfl hS0 (fun w2 hx => ⟨default, rfl, St.ext hJ hx⟩)
   ·cases hi
    exact detG (w_load_row rfl rfl rfl hpg (rowC_get A F hkm)) rfl hS0 (fun w2 hx => ⟨default, rfl, St.ext hJ hx⟩)
   ·cases hi
    exact detG (det_m (v := .int .i64 (i : Int)) rfl rfl rfl) rfl hS0 (fun w2 hx => ⟨default, rfl, St.ext hJ hx⟩)
   ·cases hi
    rw [hls] at hJ
    refine ⟨rfl, (stepG_bslice1 (v := .int .i64 (i : Int)) rfl rfl rfl rfl hJ).mono fun u w2 hu => ?_⟩
    obtain ⟨b, hu, s2⟩ := hu
    exact ⟨(b, none, 0), hu, St.sub (.cons (.there .here) (.cons .here (Sub.all _))) s2⟩
   ·cases hi
    have h13 : ls 13 = true := hpl 13 (by decide)
    rw [hls, h13] at hJ
    refine ⟨rfl, (stepG_append (sz := 1) (z := .int .i64 0) (n := (F k).length) (m := 1) (xs := (F k).map (Value.int .i64)) (news := [.int .i64 (i : Int)]) rfl rfl .here rfl (fun w3 s3 _ => ?_) (fun u hu => ?_) (by unfold maxLen; omega) (by omega) (by decide) rfl hJ).mono fun u w2 hu => ?_⟩
    ·refine ⟨⟨(β 13).1, 0, none⟩, rfl, fun i u hu => ?_⟩
     rw [add_zero]
     refine (Box.cell s3.drop.head i).trans ?_
     rw [List.getElem?_toArray]
     exact hu
    ·rw [List.mem_singleton] at hu
     subst hu
     rfl
    ·obtain ⟨A', c', hu, s2⟩ := hu
     refine ⟨(0, A', c'), hu, ?_⟩
     show St w (Own A' ((F k).length + 1) c' 3 1 ((F k).map (Value.int .i64) ++ [.int .i64 (i : Int)]) :: ((if ls 13 = true then [Box (β 13).1 3 #[.int .i64 (i : Int)]] else []) ++ Lr)) w2
     rw [h13]
     exact s2
  ·intro ls β w' hall hJ
   rw [hall 13 (by decide), hall 14 (by decide)] at hJ
   subst hLr
   have hJ2 : St w (Own (β 14).2.1 ((F k).length + 1) (β 14).2.2 3 1 ((F k).map (Value.int .i64) ++ [.int .i64 (i : Int)]) :: Box (β 13).1 3 #[.int .i64 (i : Int)] :: [Coll m (setR (rowR 3 A F) k Emp), Box ba 3 (T2.map (Value.int .i64)).toArray, Box bs 23 (rowC m A F).toArray]) w' := hJ
   refine GW.h (P := Tryz.prog) ?_ w' hJ2
   have hrl := rowC_len m A F
   generalize hF2 : (fun q => if q = k then F k ++ [(i : Int)] else F q) = F2 at *
   have hF' : F2 k = F k ++ [(i : Int)] := by rw [← hF2]; exact if_pos rfl
   have hFo' : ∀ q, ¬ q = k → F2 q = F q := fun q hq => by rw [← hF2]; exact if_neg hq
   have hlen' : (F2 k).length = (F k).length + 1 := by rw [hF']; simp
   refine gw_d (w_index (m := k) rfl rfl rfl rfl rfl hkm) ?_
   refine w_store_row (n := 1) (v := .slice (β 14).2.1 ((F k).length + 1) (β 14).2.2) (cs' := (rowC m (setA A k (β 14).2) F2).toArray) rfl rfl rfl rfl rfl (.there (.there (.there (.there .here)))) (by simp; omega) (by
    rw [Nat.mul_one, set_row (by simp; omega) rfl]
    have := rowC_set (n := m) (A := A) (F := F) (F' := F2) hkm (a := (β 14).2) hFo'
    rw [hlen'] at this
    rw [← this]) ?_
   (refine gw_nil ?_; refine gH ?_; refine gX ?_; refine gG ?_; refine gA ?_; refine gM ?_; refine gw_nil ?_)
   refine gx_roundE (i + 1, setA A k (β 14).2, F2, T2) hI2 (by dsimp only; omega) kK ⟨rfl, trivial⟩ ?_
   dsimp only
   refine Ent.trans (Sub.ent (K := [Own (β 14).2.1 ((F k).length + 1) (β 14).2.2 3 1 ((F k).map (Value.int .i64) ++ [.int .i64 (i : Int)]), Coll m (setR (rowR 3 A F) k Emp), Box bs 23 (rowC m (setA A k (β 14).2) F2).toArray, Box ba 3 (T2.map (Value.int .i64)).toArray]) (.cons (.there .here) (.cons (.there (.there .here)) (.cons .here (.cons (.there .here) .nil))))) ?_
   have hp := row_put (n := m) (el := 3) (A := A) (F := F) (F' := F2) (a := (β 14).2) (L := [Box bs 23 (rowC m (setA A k (β 14).2) F2).toArray, Box ba 3 (T2.map (Value.int .i64)).toArray]) hkm hFo'
   rw [hF', List.map_append, List.length_append] at hp
   exact hp
 ·(refine gI ?_; (iterate 2 refine gZ ?_); refine gJ ?_; refine gX ?_; refine gV ?_; (iterate 3 refine gM ?_); refine gO ?_; refine gR ?_)
  refine gx_ret2 (u := .slice _ _ _) (v := .int _ _) rfl rfl rfl (fun w' s => ⟨⟨(bs, m, A, F), show m ≤ 16 by omega, fun q => Nat.le_trans (hI.row q) (by omega), hI.ent⟩, ?_, (St.sub (K := [Box bs 23 (rowC m A F).toArray, Coll m (rowR 3 A F)]) (.cons (.there .here) (.cons .here .nil)) s).sep⟩)
  rfl
theorem Sl.ofBox {α : Type} {R : Rp α} {w : World} {b n c : Nat} {cs : Array Value} {ty : TypeId} {l : List α} (hb : w.heap[b]? = some (.cells cs ty (0, 0))) (hn : n = l.length) (hc : n ≤ c) (hc2 : c ≤ maxLen) (h : ∀ k (hk : k < l.length), R.rep w (fun b => b < w.heap.size) l[k] ((cs.toList.drop (k * R.size)).take R.size)) : Sl R w w.heap.size (.slice (some ⟨b, 0, none⟩) n c) l := by
 subst hn
 refine ⟨_, c, rfl, hc, hc2, fun k hk => ⟨⟨b, 0, none⟩, _, rfl, (Array.getElem?_eq_some_iff.1 hb).1, fun j u hu => ?_, h k hk⟩⟩
 rw [add_zero]
 simp only [World.cell?, hb]
 rw [List.getElem?_take] at hu
 split at hu
 ·rw [List.getElem?_drop] at hu
  simpa using hu
 ·cases hu
section
variable {P : Program} {ops : Array Oper} {Q : Exit → Act → World → Prop} {N : Nat} {w0 : World} {L L' : List Res} {rest : List Oper} {e : Env}
theorem gw_ownbox {A : Option Addr} {n c : Nat} {el : TypeId} {sz : Nat} {xs : List Value} (hn : 0 < n) (hp : Pick L (Own A n c el sz xs) L') (k : ∀ g cs, A = some ⟨g, 0, none⟩ → (n ≤ c ∧ c ≤ maxLen ∧ cs.size = c * sz) → cs.toList.take (n * sz) = xs → GW P ops Q N w0 (Box g el cs :: L') rest e) : GW P ops Q N w0 L rest e := ⟨fun w s => by
 have s1 := s.pick hp
 have hown : w.ownsRow 0 el sz (.slice A n c) n xs := s1.head
 rcases hown.2 with ⟨_, h0⟩ | ⟨g, cap, cur, hv, _, hg, h1, h2, h3, h4⟩
 ·omega
 ·injection hv with e1 e2 e3
  subst e1 e3
  exact (k g cur rfl ⟨h1, h2, h3⟩ h4).h w (s1.turn (r' := Box g el cur) (Nat.le_refl _) rfl rfl rfl (fun _ _ _ => rfl) hg fun x hx => .inl (by show some g = some x; rw [show x = g from hx]))⟩
end
structure Dwn where
 (mach fr upto : Int)
def rDwn : Rp Dwn where
 size := 3
 rep _ _ d cs := cs = [.int .i64 d.mach, .int .i64 d.fr, .int .i64 d.upto] ∧ inI64 d.mach ∧ inI64 d.fr ∧ inI64 d.upto
 len h := by rw [h.1]; rfl
 mono _ h := h
 grow _ h := h
theorem Sl.dwn {w : World} {B : Nat} {v : Value} {l : List Dwn} (h : Sl rDwn w B v l) : ∃ A c, v = .slice A l.length c ∧ l.length ≤ c ∧ l.length ≤ 9223372036854775807 ∧
  ∀ k (hk : k < l.length), ∃ ad, A = some ad ∧ ad.block < B ∧ (∀ j u, [Value.int .i64 l[k].mach, .int .i64 l[k].fr, .int .i64 l[k].upto][j]? = some u → w.cell? (ad.add (k * 3 + j)) = some u) ∧ inI64 l[k].mach ∧ inI64 l[k].fr ∧ inI64 l[k].upto := by
 obtain ⟨A, c, hv, h1, h2, h3⟩ := h
 refine ⟨A, c, hv, h1, by unfold maxLen at h2; omega, fun k hk => ?_⟩
 obtain ⟨ad, cs, ha, hlt, hc, rfl, hr⟩ := h3 k hk
 exact ⟨ad, ha, hlt, hc, hr⟩
def rSta : Rp (List Int) where
 size := 1
 rep w S o cs := ∃ A c, cs = [.slice A o.length c] ∧ SlS rInt w S (.slice A o.length c) o
 len h := by obtain ⟨_, _, rfl, _⟩ := h; rfl
 mono hb h := by obtain ⟨A, c, h0, h1⟩ := h; exact ⟨A, c, h0, h1.mono hb⟩
 grow hb h := by obtain ⟨A, c, h0, h1⟩ := h; exact ⟨A, c, h0, h1.grow hb⟩
theorem Sl.sta {w : World} {B : Nat} {v : Value} {l : List (List Int)} (h : Sl rSta w B v l) : ∃ A c, v = .slice A l.length c ∧ l.length ≤ c ∧ l.length ≤ 9223372036854775807 ∧
  ∀ k (hk : k < l.length), ∃ ad A' c', A = some ad ∧ ad.block < B ∧ w.cell? (ad.add (k * 1)) = some (.slice A' l[k].length c') ∧ Sl rInt w B (.slice A' l[k].length c') l[k] := by
 obtain ⟨A, c, hv, h1, h2, h3⟩ := h
 refine ⟨A, c, hv, h1, by unfold maxLen at h2; omega, fun k hk => ?_⟩
 obtain ⟨ad, cs, ha, hlt, hc, A', c', rfl, hr⟩ := h3 k hk
 exact ⟨ad, A', c', ha, hlt, hc 0 _ rfl, hr⟩
theorem Sl.ofRows {w0 w : World} {L L1 L2 : List Res} {m b : Nat} {el bt : TypeId} {A : Nat → Option Addr × Nat} {F : Nat → List Int} (s : St w0 L w) (hp1 : Pick L (Box b bt (rowC m A F).toArray) L1) (hp2 : Pick L (Coll m (rowR el A F)) L2) (hm : m ≤ 1000) (hin : ∀ q, ∀ x ∈ F q, inI64 x) :
  Sl rSta w w.heap.size (.slice (some ⟨b, 0, none⟩) m m) ((List.range m).map F) := by
 have hbox : w.heap[b]? = some (.cells (rowC m A F).toArray bt (0, 0)) := (s.pick hp1).head
 refine Sl.ofBox hbox (by simp) (Nat.le_refl _) (by unfold maxLen; omega) fun k hk => ?_
 have hkm : k < m := by simpa using hk
 refine ⟨(A k).1, (A k).2, ?_, ?_⟩
 ·have h1 : ((rowC m A F).toArray.toList.drop (k * 1)).take 1 = [.slice (A k).1 (F k).length (A k).2] := by
   rw [Nat.mul_one, List.drop_eq_getElem_cons (by simp [rowC]; exact hkm)]
   simp [rowC]
  show ((rowC m A F).toArray.toList.drop (k * 1)).take 1 = _
  rw [h1]
  simp
 ·have h2 := Sl.rowAt s hp2 hkm (hin k)
  have h3 : ((List.range m).map F)[k] = F k := by simp
  rw [h3]
  exact h2

def dwnE (l : List Dwn) (i : Nat) : Int := match l[i]? with
 | some d => if d.mach < 0 ∨ d.mach ≥ 8 then 3 else if d.fr < 0 ∨ d.fr ≥ d.upto ∨ d.upto > 1073741824 then 3 else 0
 | none => 0
def mchE (l : List Dwn) : Int := if l.length > 20 then 5 else firstE (dwnE l) l.length
theorem mchCheck_ok (w : World) (v : Value) (l : List Dwn) (hl : Sl rDwn w w.heap.size v l) : Ok Tryz.prog 34 [v].toArray w fun r _ => r = .int .i64 (mchE l) := by
 obtain ⟨A, c, rfl, hc, hm, hcell⟩ := hl.dwn
 refine ok_enter Tryz.func34 rfl Tryz.ntmps34 rfl ?_
 (refine gV ?_; refine gM ?_; refine gO ?_; refine gQ ?_; refine gV ?_; refine gM ?_; refine gL ?_; refine gC ?_; refine gO ?_)
 refine gc_if_dec rfl (fun h => ?_) (fun h20 => ?_)
 ·(refine gV ?_; refine gM ?_; refine gO ?_; refine gR ?_; refine gT ?_)
  refine gi1 (fun _ _ => ?_)
  unfold mchE
  rw [if_pos (by omega)]
 have hE : mchE l = firstE (dwnE l) l.length := by unfold mchE; rw [if_neg (by omega)]
 rw [hE]
 (refine gK ?_; refine gX ?_; refine gQ ?_; refine gV ?_; refine gM ?_; refine gL ?_; refine gM ?_; refine gO ?_; refine gB ?_)
 refine gc_loopK (σ := Nat) [11, 12, 13, 4, 14, 15, 16, 17, 18, 19, 20, 21, 2, 22, 23, 24, 25, 26, 27, 28, 29, 30, 31, 32, 33, 34, 35, 36, 37, 10] (fun k => [(10, .int .i64 k)]) (fun k => k ≤ l.length ∧ firstE (dwnE l) k = 0) (fun k => l.length - k) 0 ⟨Nat.zero_le _, rfl⟩ ⟨rfl, trivial⟩ ?_
 rintro k base ⟨hk, hI⟩
 (refine gV ?_; refine gC ?_; refine gO ?_; refine gQ ?_)
 refine gc_if_dec rfl (fun h => ?_) (fun h => ?_)
 ·have hlt : k < l.length := by omega
  obtain ⟨ad, rfl, hbk, hce, h1, h2, h3⟩ := hcell k hlt
  unfold inI64 at h1 h2 h3
  have hW : dwnE l k = if l[k].mach < 0 ∨ l[k].mach ≥ 8 then 3 else if l[k].fr < 0 ∨ l[k].fr ≥ l[k].upto ∨ l[k].upto > 1073741824 then 3 else 0 := by
   unfold dwnE
   rw [List.getElem?_eq_getElem hlt]
  (refine gK ?_; refine gX ?_; refine gQ ?_; refine gB ?_; refine gV ?_; apply gw_d; exact w_index rfl rfl rfl rfl (by with_reducible exact rfl) (by omega); apply gw_d; exact w_load_elem rfl rfl rfl (by assumption) (by assumption) (by rfl); refine w_alloc rfl (fun _ => ?_); refine w_store_all rfl rfl rfl rfl rfl .here rfl ?_; refine gO ?_; refine gQ ?_; refine gV ?_; refine gF ?_; refine gW .here ?_; refine gC ?_; refine gM ?_)
  by_cases h4 : l[k].mach < 0 ∨ l[k].mach ≥ 8
  ·rw [if_pos h4] at hW
   have hst := firstE_stop hI (by rw [hW]; decide) hlt
   rw [hst, hW]
   focus (refine gD (fun _ => ?_) (fun _ => ?_); (iterate 3 refine gU ?_); refine gPp ?_; refine gO ?_; refine gc_if_true rfl ?_; refine gV ?_; refine gM ?_; refine gO ?_; refine gR ?_; refine gT ?_; refine gY ?_; (iterate 2 refine gT ?_); refine gY ?_; refine gT ?_; rotate_left; refine gF ?_; refine gW .here ?_; refine gC ?_; refine gPq ?_; refine gO ?_; refine gc_if_dec rfl (fun _ => ?_) (fun _ => ?_); refine gV ?_; refine gM ?_; refine gO ?_; refine gR ?_; refine gT ?_; refine gY ?_; (iterate 2 refine gT ?_); refine gY ?_; refine gT ?_; rotate_left; refine gK ?_; refine gX ?_; refine gV ?_; refine gF ?_; refine gW .here ?_; refine gC ?_; refine gM ?_; refine gD (fun _ => ?_) (fun _ => ?_); (iterate 5 refine gU ?_); refine gPp ?_; refine gM ?_; (iterate 3 refine gU ?_); refine gPp ?_; refine gO ?_; refine gc_if_true rfl ?_; refine gV ?_; refine gM ?_; refine gO ?_; refine gR ?_; refine gY ?_; (iterate 2 refine gT ?_); refine gY ?_; refine gT ?_; rotate_left; refine gF ?_; refine gW .here ?_; refine gF ?_; refine gW .here ?_; refine gC ?_; refine gPq ?_; refine gM ?_; refine gD (fun _ => ?_) (fun _ => ?_); (iterate 3 refine gU ?_); refine gPp ?_; refine gO ?_; refine gc_if_true rfl ?_; refine gV ?_; refine gM ?_; refine gO ?_; refine gR ?_; refine gY ?_; (iterate 2 refine gT ?_); refine gY ?_; refine gT ?_; rotate_left; refine gF ?_; refine gW .here ?_; refine gC ?_; refine gPq ?_; refine gO ?_; refine gc_if_dec rfl (fun _ => ?_) (fun _ => ?_); refine gV ?_; refine gM ?_; refine gO ?_; refine gR ?_; refine gY ?_; (iterate 2 refine gT ?_); refine gY ?_; refine gT ?_; rotate_left; refine gK ?_; refine gH ?_; refine gX ?_; refine gG ?_; refine gA ?_; refine gM ?_; refine gw_nil ?_; rotate_left)
   all_goals first | (exfalso; omega) | skip
   all_goals refine gi1 (fun _ _ => ?_)
   all_goals rfl
  by_cases h5 : l[k].fr < 0 ∨ l[k].fr ≥ l[k].upto ∨ l[k].upto > 1073741824
  ·rw [if_neg h4, if_pos h5] at hW
   have hst := firstE_stop hI (by rw [hW]; decide) hlt
   rw [hst, hW]
   focus (refine gD (fun _ => ?_) (fun _ => ?_); (iterate 3 refine gU ?_); refine gPp ?_; refine gO ?_; refine gc_if_true rfl ?_; refine gV ?_; refine gM ?_; refine gO ?_; refine gR ?_; refine gT ?_; refine gY ?_; (iterate 2 refine gT ?_); refine gY ?_; refine gT ?_; rotate_left; refine gF ?_; refine gW .here ?_; refine gC ?_; refine gPq ?_; refine gO ?_; refine gc_if_dec rfl (fun _ => ?_) (fun _ => ?_); refine gV ?_; refine gM ?_; refine gO ?_; refine gR ?_; refine gT ?_; refine gY ?_; (iterate 2 refine gT ?_); refine gY ?_; refine gT ?_; rotate_left; refine gK ?_; refine gX ?_; refine gV ?_; refine gF ?_; refine gW .here ?_; refine gC ?_; refine gM ?_; refine gD (fun _ => ?_) (fun _ => ?_); (iterate 5 refine gU ?_); refine gPp ?_; refine gM ?_; (iterate 3 refine gU ?_); refine gPp ?_; refine gO ?_; refine gc_if_true rfl ?_; refine gV ?_; refine gM ?_; refine gO ?_; refine gR ?_; refine gY ?_; (iterate 2 refine gT ?_); refine gY ?_; refine gT ?_; rotate_left; refine gF ?_; refine gW .here ?_; refine gF ?_; refine gW .here ?_; refine gC ?_; refine gPq ?_; refine gM ?_; refine gD (fun _ => ?_) (fun _ => ?_); (iterate 3 refine gU ?_); refine gPp ?_; refine gO ?_; refine gc_if_true rfl ?_; refine gV ?_; refine gM ?_; refine gO ?_; refine gR ?_; refine gY ?_; (iterate 2 refine gT ?_); refine gY ?_; refine gT ?_; rotate_left; refine gF ?_; refine gW .here ?_; refine gC ?_; refine gPq ?_; refine gO ?_; refine gc_if_dec rfl (fun _ => ?_) (fun _ => ?_); refine gV ?_; refine gM ?_; refine gO ?_; refine gR ?_; refine gY ?_; (iterate 2 refine gT ?_); refine gY ?_; refine gT ?_; rotate_left; refine gK ?_; refine gH ?_; refine gX ?_; refine gG ?_; refine gA ?_; refine gM ?_; refine gw_nil ?_; rotate_left)
   all_goals first | (exfalso; omega) | skip
   all_goals refine gi1 (fun _ _ => ?_)
   all_goals rfl
  rw [if_neg h4, if_neg h5] at hW
  focus (refine gD (fun _ => ?_) (fun _ => ?_); (iterate 3 refine gU ?_); refine gPp ?_; refine gO ?_; refine gc_if_true rfl ?_; refine gV ?_; refine gM ?_; refine gO ?_; refine gR ?_; refine gT ?_; refine gY ?_; (iterate 2 refine gT ?_); refine gY ?_; refine gT ?_; rotate_left; refine gF ?_; refine gW .here ?_; refine gC ?_; refine gPq ?_; refine gO ?_; refine gc_if_dec rfl (fun _ => ?_) (fun _ => ?_); refine gV ?_; refine gM ?_; refine gO ?_; refine gR ?_; refine gT ?_; refine gY ?_; (iterate 2 refine gT ?_); refine gY ?_; refine gT ?_; rotate_left; refine gK ?_; refine gX ?_; refine gV ?_; refine gF ?_; refine gW .here ?_; refine gC ?_; refine gM ?_; refine gD (fun _ => ?_) (fun _ => ?_); (iterate 5 refine gU ?_); refine gPp ?_; refine gM ?_; (iterate 3 refine gU ?_); refine gPp ?_; refine gO ?_; refine gc_if_true rfl ?_; refine gV ?_; refine gM ?_; refine gO ?_; refine gR ?_; refine gY ?_; (iterate 2 refine gT ?_); refine gY ?_; refine gT ?_; rotate_left; refine gF ?_; refine gW .here ?_; refine gF ?_; refine gW .here ?_; refine gC ?_; refine gPq ?_; refine gM ?_; refine gD (fun _ => ?_) (fun _ => ?_); (iterate 3 refine gU ?_); refine gPp ?_; refine gO ?_; refine gc_if_true rfl ?_; refine gV ?_; refine gM ?_; refine gO ?_; refine gR ?_; refine gY ?_; (iterate 2 refine gT ?_); refine gY ?_; refine gT ?_; rotate_left; refine gF ?_; refine gW .here ?_; refine gC ?_; refine gPq ?_; refine gO ?_; refine gc_if_dec rfl (fun _ => ?_) (fun _ => ?_); refine gV ?_; refine gM ?_; refine gO ?_; refine gR ?_; refine gY ?_; (iterate 2 refine gT ?_); refine gY ?_; refine gT ?_; rotate_left; refine gK ?_; refine gH ?_; refine gX ?_; refine gG ?_; refine gA ?_; refine gM ?_; refine gw_nil ?_; rotate_left)
  all_goals first | (exfalso; omega) | skip
  all_goals exact gx_round (k + 1) ⟨by omega, firstE_snoc hI hW⟩ (by omega) kK ⟨rfl, trivial⟩ Sub.tail
 ·obtain rfl : k = l.length := by omega
  rw [hI]
  (refine gI ?_; (iterate 2 refine gZ ?_); refine gJ ?_; refine gX ?_; refine gV ?_; refine gM ?_; refine gO ?_; refine gR ?_)
  refine gi1 (fun _ _ => ?_)
  rfl

def plStep (n : Nat) (k : Int) (s : Int ⊕ List Int) (i : Int) : Int ⊕ List Int := match s with
 | .inl e => .inl e
 | .inr T => if i < 0 ∨ i ≥ n then .inl 3 else if ¬ T.getD i.toNat 0 = -1 then .inl 7 else .inr (T.set i.toNat k)
def plSt (n : Nat) (sts : List (List Int)) (s : Int ⊕ List Int) (k : Nat) : Int ⊕ List Int := (sts.getD k []).foldl (plStep n (k : Int)) s
def plAll (n : Nat) (sts : List (List Int)) : Int ⊕ List Int := (List.range sts.length).foldl (plSt n sts) (.inr (List.replicate n (-1)))
def ordB (l : List Opn) (T : List Int) : Bool := (List.range l.length).any fun i => (l.getD i opZ).after.any fun a => decide (T.getD i 0 < T.getD a.toNat 0)
def rstE (l : List Opn) : Int ⊕ List Int → Int
 | .inl e => e
 | .inr T => if hasB T (-1) = true then 20 else if ordB l T = true then 21 else 0
def lineE (l : List Opn) (sts : List (List Int)) : Int := if ¬ bndE l 1000000 = 0 then bndE l 1000000 else rstE l (plAll l.length sts)
theorem plStep_rng {n : Nat} {k : Int} : ∀ (is : List Int) (s : Int ⊕ List Int) (T' : List Int), is.foldl (plStep n k) s = .inr T' → (∃ T, s = .inr T) ∧ ∀ x ∈ is, 0 ≤ x ∧ x < n
 | [], s, T', h => ⟨⟨T', h⟩, fun x hx => by cases hx⟩
 | i :: is, s, T', h => by
  obtain ⟨⟨T1, h1⟩, h2⟩ := plStep_rng is _ T' h
  cases s with
  | inl e => cases h1
  | inr T =>
   refine ⟨⟨T, rfl⟩, fun x hx => ?_⟩
   rcases List.mem_cons.1 hx with rfl | hx
   ·have h3 : plStep n k (.inr T) x = if x < 0 ∨ x ≥ n then .inl 3 else if ¬ T.getD x.toNat 0 = -1 then .inl 7 else .inr (T.set x.toNat k) := rfl
    by_cases h4 : x < 0 ∨ x ≥ n
    ·rw [h3, if_pos h4] at h1
     cases h1
    ·omega
   ·exact h2 x hx
theorem plSt_rng {n : Nat} {sts : List (List Int)} : ∀ (ks : List Nat) (s : Int ⊕ List Int) (T' : List Int), ks.foldl (plSt n sts) s = .inr T' → (∃ T, s = .inr T) ∧ ∀ k ∈ ks, ∀ x ∈ sts.getD k [], 0 ≤ x ∧ x < n
 | [], s, T', h => ⟨⟨T', h⟩, fun x hx => by cases hx⟩
 | k :: ks, s, T', h => by
  obtain ⟨⟨T1, h1⟩, h2⟩ := plSt_rng ks _ T' h
  obtain ⟨h3, h4⟩ := plStep_rng _ _ _ h1
  refine ⟨h3, fun q hq => ?_⟩
  rcases List.mem_cons.1 hq with rfl | hq
  ·exact h4
  ·exact h2 q hq
theorem pl_rng {n : Nat} {sts : List (List Int)} {T : List Int} (h : plAll n sts = .inr T) : ∀ k (hk : k < sts.length), ∀ x ∈ sts[k], 0 ≤ x ∧ x < n := fun k hk x hx =>
 (plSt_rng _ _ _ h).2 k (List.mem_range.2 hk) x (by rw [List.getD_eq_getElem?_getD, List.getElem?_eq_getElem hk]; exact hx)
theorem plStep_inl {n : Nat} {k e : Int} : ∀ (is : List Int), is.foldl (plStep n k) (.inl e) = .inl e
 | [] => rfl
 | _ :: is => plStep_inl is
theorem plSt_inl {n : Nat} {sts : List (List Int)} {e : Int} : ∀ (ks : List Nat), ks.foldl (plSt n sts) (.inl e) = .inl e
 | [] => rfl
 | k :: ks => by
  rw [List.foldl_cons]
  show ks.foldl (plSt n sts) ((sts.getD k []).foldl (plStep n (k : Int)) (.inl e)) = _
  rw [plStep_inl]
  exact plSt_inl ks
theorem pl_stop {n : Nat} {sts : List (List Int)} {T T' : List Int} {k j : Nat} {e : Int} (hk : k < sts.length) (h1 : (List.range k).foldl (plSt n sts) (.inr (List.replicate n (-1))) = .inr T) (hj : j < sts[k].length)
  (h2 : (sts[k].take j).foldl (plStep n (k : Int)) (.inr T) = .inr T') (h3 : plStep n (k : Int) (.inr T') sts[k][j] = .inl e) : plAll n sts = .inl e := by
 unfold plAll
 obtain ⟨d, hd⟩ : ∃ d, sts.length = k + 1 + d := ⟨sts.length - (k + 1), by omega⟩
 rw [hd, List.range_add, List.foldl_append, List.range_succ, List.foldl_append, h1, List.foldl_cons, List.foldl_nil]
 have h4 : plSt n sts (.inr T) k = .inl e := by
  unfold plSt
  rw [List.getD_eq_getElem?_getD, List.getElem?_eq_getElem hk]
  show sts[k].foldl (plStep n (k : Int)) (.inr T) = .inl e
  rw [← List.take_append_drop j sts[k], List.foldl_append, h2, List.drop_eq_getElem_cons hj, List.foldl_cons, h3]
  exact plStep_inl _
 rw [h4]
 exact plSt_inl _
theorem lineCheck_bad (w : World) (v vs : Value) (l : List Opn) (sts : List (List Int)) (hl : Sl rOp w w.heap.size v l) (he : ¬ bndE l 1000000 = 0) : Ok Tryz.prog 33 [v, .int .i64 1000000, vs].toArray w fun r _ => r = .int .i64 (lineE l sts) := by
 have hE : lineE l sts = bndE l 1000000 := by unfold lineE; rw [if_pos he]
 rw [hE]
 refine ok_enter Tryz.func33 rfl Tryz.ntmps33 rfl ?_
 (refine gV ?_; refine gM ?_; refine gO ?_; refine gQ ?_; refine gV ?_; (iterate 2 refine gM ?_); apply gw_d; exact w_call rfl rfl (fun w' s => Bound_bad w' v 1000000 l (hl.later s) he) rfl; refine gM ?_; apply gw_d; exact det_extract rfl rfl rfl (by conv => (lhs; whnf)); apply gw_d; exact det_extract rfl rfl rfl (by conv => (lhs; whnf)); (iterate 2 refine gM ?_); refine gN ?_; refine gM ?_; refine gC ?_; refine gO ?_)
 refine gc_if_dec rfl (fun _ => ?_) (fun h => absurd he (by simpa using h))
 (refine gV ?_; (iterate 2 refine gM ?_); refine gO ?_; refine gR ?_; refine gT ?_)
 refine gi1 (fun _ _ => ?_)
 rfl
theorem lineCheck_good (w : World) (v vs : Value) (l : List Opn) (sts : List (List Int)) (hl : Sl rOp w w.heap.size v l) (hs : Sl rSta w w.heap.size vs sts) (hlen : ∀ s ∈ sts, s.length ≤ 16) (he : bndE l 1000000 = 0) :
  Ok Tryz.prog 33 [v, .int .i64 1000000, vs].toArray w fun r _ => r = .int .i64 (lineE l sts) := by
 obtain ⟨h1, hc1, hc2, hov⟩ := bnd_zero he
 obtain ⟨h16, hop⟩ := list_minutes h1
 have hE : lineE l sts = rstE l (plAll l.length sts) := by unfold lineE; rw [if_neg (by rw [he]; decide)]
 rw [hE]
 obtain ⟨Av, ca, rfl, hlc, hlm⟩ := len_small hl
 obtain ⟨As, cs, rfl, hsc, hsm, hscell⟩ := hs.sta
 refine ok_enter Tryz.func33 rfl Tryz.ntmps33 rfl ?_
 (refine gV ?_; refine gM ?_; refine gO ?_; refine gQ ?_; refine gV ?_; (iterate 2 refine gM ?_))
 refine gw_callm rfl (fun w' s => Bound_ok w' (.slice Av l.length ca) 1000000 l (hl.later s) he) rfl (fun xb => ?_)
 (refine gM ?_; apply gw_d; exact det_extract rfl rfl rfl (by conv => (lhs; whnf)); apply gw_d; exact det_extract rfl rfl rfl (by conv => (lhs; whnf)); (iterate 2 refine gM ?_); refine gN ?_; refine gM ?_; refine gC ?_; refine gO ?_)
 refine gc_if_dec rfl (fun h => absurd rfl h) (fun _ => ?_)
 (refine gK ?_; refine gX ?_; refine gV ?_; refine gM ?_; refine gL ?_)
 refine gw_make1 (n := l.length) rfl rfl rfl rfl rfl (by omega) (by omega) rfl (fun ba => ?_)
 rw [show Array.replicate l.length ((Value.int .i64 0).cells.getD 0 undef) = ((filL l.length 0).map (Value.int .i64)).toArray from row_make (Value.int .i64) l.length 0]
 (refine gM ?_; refine gO ?_; refine gQ ?_; refine gV ?_; refine gM ?_; refine gL ?_; refine gM ?_; refine gO ?_; refine gB ?_)
 refine gc_loop1 (σ := Nat) [41, 42, 10, 43, 44, 45, 46, 40] (fun k => [(40, .int .i64 k)]) (fun k => Box ba 3 ((filL l.length k).map (Value.int .i64)).toArray) (fun k => k ≤ l.length) (fun k => l.length - k) 0 (Nat.zero_le _) ⟨rfl, trivial⟩ rfl ?_
 rintro k base hk
 have hfl := filL_len hk
 (refine gV ?_; refine gC ?_; refine gO ?_; refine gQ ?_)
 refine gc_if_dec rfl (fun h2 => ?_) (fun h2 => ?_)
 ·have hlt : k < l.length := by omega
  (refine gK ?_; refine gX ?_; refine gQ ?_; refine gB ?_; refine gV ?_; (iterate 2 refine gM ?_); refine gO ?_; refine gG ?_; (iterate 2 refine gM ?_); apply gw_d; exact w_index (m := k) rfl rfl rfl rfl rfl hlt)
  refine w_store_row (n := 1) (v := .int .i64 (-1)) rfl rfl rfl rfl rfl .here (by rw [List.size_toArray, List.length_map, hfl]; omega) (row_set (Value.int .i64) (by rw [hfl]; exact hlt) (-1)) ?_
  rw [filL_next hlt]
  (refine gw_nil ?_; refine gH ?_; refine gX ?_; refine gG ?_; refine gA ?_; refine gM ?_; refine gw_nil ?_)
  exact gx_round (k + 1) (by omega) (by omega) kK ⟨rfl, trivial⟩ (Sub.all _)
 obtain rfl : k = l.length := by omega
 rw [show filL l.length l.length = List.replicate l.length (-1) from by unfold filL; rw [Nat.sub_self, List.replicate_zero, List.append_nil]]
 (refine gI ?_; (iterate 2 refine gZ ?_); refine gJ ?_; refine gX ?_; refine gQ ?_; refine gV ?_; refine gM ?_; refine gL ?_; refine gM ?_; refine gO ?_; refine gB ?_)
 refine gc_loop (σ := Nat × List Int) [50, 51, 52, 53, 11, 12, 54, 55, 56, 57, 58, 59, 14, 60, 61, 62, 63, 64, 65, 66, 67, 6, 68, 69, 70, 71, 72, 73, 74, 75, 76, 77, 78, 49] (fun s => [(49, .int .i64 s.1)]) (fun s => [Box ba 3 ((s.2.map (Value.int .i64)).toArray)]) (fun s => s.1 ≤ sts.length ∧ s.2.length = l.length ∧ (List.range s.1).foldl (plSt l.length sts) (.inr (List.replicate l.length (-1))) = .inr s.2) (fun s => sts.length - s.1) (0, List.replicate l.length (-1)) ⟨Nat.zero_le _, by simp, rfl⟩ ⟨rfl, trivial⟩ (Sub.all _) ?_
 rintro ⟨k, T⟩ base2 ⟨hk, hTl, hT⟩
 dsimp only at hk hTl hT ⊢
 (refine gV ?_; refine gC ?_; refine gO ?_; refine gQ ?_)
 refine gc_if_dec rfl (fun h3 => ?_) (fun h3 => ?_)
 ·have hks : k < sts.length := by omega
  obtain ⟨ad, A', c', rfl, hb, hce, hrow⟩ := hscell k hks
  obtain ⟨A2, c2, hv2, hc2', hm2, hcell2⟩ := hrow.int
  injection hv2 with e1 e2 e3
  subst e1 e3
  have hk16 := hlen _ (List.getElem_mem hks)
  (refine gK ?_; refine gX ?_; refine gQ ?_; refine gB ?_; refine gV ?_; refine gM ?_; apply gw_d; exact w_index rfl rfl rfl rfl (by with_reducible exact rfl) (by omega); apply gw_d; exact w_load_at rfl rfl rfl (by assumption) (by assumption); (iterate 2 refine gM ?_); refine gN ?_; refine gM ?_; refine gL ?_; refine gM ?_; refine gO ?_; refine gB ?_)
  refine gc_loop (σ := Nat × List Int) [57, 58, 59, 14, 60, 61, 62, 63, 64, 65, 66, 67, 6, 68, 69, 70, 71, 72, 73, 74, 75, 76, 77, 56] (fun s => [(56, .int .i64 s.1)]) (fun s => [Box ba 3 ((s.2.map (Value.int .i64)).toArray)]) (fun s => s.1 ≤ sts[k].length ∧ s.2.length = l.length ∧ (sts[k].take s.1).foldl (plStep l.length (k : Int)) (.inr T) = .inr s.2) (fun s => sts[k].length - s.1) (0, T) ⟨Nat.zero_le _, hTl, rfl⟩ ⟨rfl, trivial⟩ (Sub.all _) ?_
  rintro ⟨j, T2⟩ base3 ⟨hj, hT2l, hT2⟩
  dsimp only at hj hT2l hT2 ⊢
  (refine gV ?_; refine gC ?_; refine gO ?_; refine gQ ?_)
  refine gc_if_dec rfl (fun h4 => ?_) (fun h4 => ?_)
  ·have hjl : j < sts[k].length := by omega
   obtain ⟨ad5, rfl, hb5, hce5, hin5⟩ := hcell2 j hjl
   have hstep : plStep l.length (k : Int) (.inr T2) sts[k][j] = if sts[k][j] < 0 ∨ sts[k][j] ≥ l.length then .inl 3 else if ¬ T2.getD sts[k][j].toNat 0 = -1 then .inl 7 else .inr (T2.set sts[k][j].toNat k) := rfl
   have hstop := fun (e : Int) (h : plStep l.length (k : Int) (.inr T2) sts[k][j] = .inl e) => pl_stop hks hT hjl hT2 h
   have hnext : (sts[k].take (j + 1)).foldl (plStep l.length (k : Int)) (.inr T) = plStep l.length (k : Int) (.inr T2) sts[k][j] := by rw [List.take_succ_eq_append_getElem hjl, List.foldl_append, hT2, List.foldl_cons, List.foldl_nil]
   generalize sts[k][j] = x at hce5 hin5 hstep hstop hnext
   by_cases hx : x < 0 ∨ x ≥ l.length
   ·rw [if_pos hx] at hstep
    rw [hstop _ hstep]
    focus (refine gK ?_; refine gX ?_; refine gQ ?_; refine gB ?_; refine gV ?_; apply gw_d; exact w_index rfl rfl rfl rfl (by with_reducible exact rfl) (by omega); apply gw_d; exact w_load_at rfl rfl rfl (by assumption) (by assumption); refine gM ?_; refine gO ?_; refine gQ ?_; refine gV ?_; refine gM ?_; refine gC ?_; refine gM ?_; refine gD (fun _ => ?_) (fun _ => ?_); (iterate 4 refine gU ?_); refine gPp ?_; refine gO ?_; refine gc_if_true rfl ?_; refine gV ?_; refine gM ?_; refine gO ?_; refine gR ?_; refine gT ?_; refine gY ?_; (iterate 2 refine gT ?_); (iterate 2 refine gY ?_); (iterate 2 refine gT ?_); refine gY ?_; refine gT ?_; rotate_left; (iterate 2 refine gM ?_); refine gL ?_; refine gC ?_; refine gPq ?_; refine gO ?_; refine gc_if_dec rfl (fun _ => ?_) (fun _ => ?_); refine gV ?_; refine gM ?_; refine gO ?_; refine gR ?_; refine gT ?_; refine gY ?_; (iterate 2 refine gT ?_); (iterate 2 refine gY ?_); (iterate 2 refine gT ?_); refine gY ?_; refine gT ?_; rotate_left; refine gK ?_; refine gX ?_; refine gQ ?_; refine gV ?_; (iterate 2 refine gM ?_); rotate_left)
    all_goals first | (exfalso; omega) | skip
    all_goals refine gi1 (fun _ _ => ?_)
    all_goals rfl
   ·rw [if_neg hx] at hstep
    obtain ⟨i, rfl⟩ : ∃ i : Nat, x = (i : Int) := ⟨x.toNat, by omega⟩
    have hil : i < l.length := by omega
    rw [Int.toNat_natCast] at hstep
    have hrow2 : (T2.map (Value.int .i64)).toArray[i * 1]? = some (.int .i64 (T2.getD i 0)) := row_get (Value.int .i64) 0 (by omega)
    by_cases hfr : T2.getD i 0 = -1
    ·rw [if_neg (fun h => h hfr)] at hstep
     focus (refine gK ?_; refine gX ?_; refine gQ ?_; refine gB ?_; refine gV ?_; apply gw_d; exact w_index rfl rfl rfl rfl (by with_reducible exact rfl) (by omega); apply gw_d; exact w_load_at rfl rfl rfl (by assumption) (by assumption); refine gM ?_; refine gO ?_; refine gQ ?_; refine gV ?_; refine gM ?_; refine gC ?_; (iterate 3 refine gM ?_); refine gL ?_; refine gC ?_; refine gPq ?_; refine gO ?_; refine gc_if_dec rfl (fun _ => ?_) (fun _ => ?_); refine gV ?_; refine gM ?_; refine gO ?_; refine gR ?_; refine gT ?_; refine gY ?_; (iterate 2 refine gT ?_); (iterate 2 refine gY ?_); (iterate 2 refine gT ?_); refine gY ?_; refine gT ?_; rotate_left; refine gK ?_; refine gX ?_; refine gQ ?_; refine gV ?_; (iterate 2 refine gM ?_); apply gw_d; exact w_index (m := i) rfl rfl rfl rfl rfl hil; apply gw_d; exact w_load_row rfl rfl rfl .here hrow2; refine gC ?_; refine gO ?_; refine gc_if_dec rfl (fun _ => ?_) (fun _ => ?_); refine gV ?_; refine gM ?_; refine gO ?_; refine gR ?_; refine gT ?_; refine gY ?_; (iterate 2 refine gT ?_); (iterate 2 refine gY ?_); (iterate 2 refine gT ?_); refine gY ?_; refine gT ?_; rotate_left; refine gK ?_; refine gX ?_; refine gG ?_; (iterate 3 refine gM ?_); apply gw_d; exact w_index (m := i) rfl rfl rfl rfl rfl hil; rotate_left)
     all_goals first | (exfalso; omega) | skip
     refine w_store_row (n := 1) (v := .int .i64 (k : Int)) rfl rfl rfl rfl rfl .here (by rw [List.size_toArray, List.length_map]; omega) (row_set (Value.int .i64) (by omega) (k : Int)) ?_
     (refine gw_nil ?_; refine gH ?_; refine gX ?_; refine gG ?_; refine gA ?_; refine gM ?_; refine gw_nil ?_)
     refine gx_round (j + 1, T2.set i (k : Int)) ⟨by dsimp only; omega, by rw [List.length_set]; exact hT2l, ?_⟩ (by dsimp only; omega) kK ⟨rfl, trivial⟩ (Sub.all _)
     rw [hnext, hstep]
    ·rw [if_pos hfr] at hstep
     rw [hstop _ hstep]
     focus (refine gK ?_; refine gX ?_; refine gQ ?_; refine gB ?_; refine gV ?_; apply gw_d; exact w_index rfl rfl rfl rfl (by with_reducible exact rfl) (by omega); apply gw_d; exact w_load_at rfl rfl rfl (by assumption) (by assumption); refine gM ?_; refine gO ?_; refine gQ ?_; refine gV ?_; refine gM ?_; refine gC ?_; (iterate 3 refine gM ?_); refine gL ?_; refine gC ?_; refine gPq ?_; refine gO ?_; refine gc_if_dec rfl (fun _ => ?_) (fun _ => ?_); refine gV ?_; refine gM ?_; refine gO ?_; refine gR ?_; refine gT ?_; refine gY ?_; (iterate 2 refine gT ?_); (iterate 2 refine gY ?_); (iterate 2 refine gT ?_); refine gY ?_; refine gT ?_; rotate_left; refine gK ?_; refine gX ?_; refine gQ ?_; refine gV ?_; (iterate 2 refine gM ?_); apply gw_d; exact w_index (m := i) rfl rfl rfl rfl rfl hil; apply gw_d; exact w_load_row rfl rfl rfl .here hrow2; refine gC ?_; refine gO ?_; refine gc_if_dec rfl (fun _ => ?_) (fun _ => ?_); refine gV ?_; refine gM ?_; refine gO ?_; refine gR ?_; refine gT ?_; refine gY ?_; (iterate 2 refine gT ?_); (iterate 2 refine gY ?_); (iterate 2 refine gT ?_); refine gY ?_; refine gT ?_; rotate_left; refine gK ?_; refine gX ?_; refine gG ?_; (iterate 3 refine gM ?_); apply gw_d; exact w_index (m := i) rfl rfl rfl rfl rfl hil; rotate_left)
     all_goals first | (exfalso; omega) | skip
     all_goals refine gi1 (fun _ _ => ?_)
     all_goals rfl
  ·obtain rfl : j = sts[k].length := by omega
   rw [List.take_length] at hT2
   have hT3 : (List.range (k + 1)).foldl (plSt l.length sts) (.inr (List.replicate l.length (-1))) = .inr T2 := by
    rw [List.range_succ, List.foldl_append, hT, List.foldl_cons, List.foldl_nil]
    unfold plSt
    rw [List.getD_eq_getElem?_getD, List.getElem?_eq_getElem hks]
    exact hT2
   (refine gI ?_; (iterate 2 refine gZ ?_); refine gJ ?_; refine gH ?_; refine gX ?_; refine gG ?_; refine gA ?_; refine gM ?_; refine gw_nil ?_)
   exact gx_round (k + 1, T2) ⟨by dsimp only; omega, hT2l, hT3⟩ (by dsimp only; omega) kK ⟨rfl, trivial⟩ (Sub.all _)
 ·obtain rfl : k = sts.length := by omega
  have hall : plAll l.length sts = .inr T := hT
  have hrng := pl_rng hall
  have hR : rstE l (plAll l.length sts) = if hasB T (-1) = true then 20 else if ordB l T = true then 21 else 0 := by rw [hall]; rfl
  rw [hR]
  (refine gI ?_; (iterate 2 refine gZ ?_); refine gJ ?_; refine gX ?_; refine gQ ?_; refine gV ?_; refine gM ?_; refine gL ?_; refine gM ?_; refine gO ?_; refine gB ?_)
  refine gc_loopK (σ := Nat) [82, 83, 84, 16, 85, 86, 6, 87, 81] (fun k => [(81, .int .i64 k)]) (fun k => k ≤ l.length ∧ ∀ j, j < k → ¬ T.getD j 0 = -1) (fun k => l.length - k) 0 ⟨Nat.zero_le _, fun j hj => by omega⟩ ⟨rfl, trivial⟩ ?_
  rintro k base3 ⟨hk2, hG⟩
  (refine gV ?_; refine gC ?_; refine gO ?_; refine gQ ?_)
  refine gc_if_dec rfl (fun h5 => ?_) (fun h5 => ?_)
  ·have hkl : k < l.length := by omega
   have hrow2 : (T.map (Value.int .i64)).toArray[k * 1]? = some (.int .i64 (T.getD k 0)) := row_get (Value.int .i64) 0 (by omega)
   have hmem : T.getD k 0 ∈ T := by
    rw [List.getD_eq_getElem?_getD, List.getElem?_eq_getElem (by omega)]
    exact List.getElem_mem _
   (refine gK ?_; refine gX ?_; refine gQ ?_; refine gB ?_; refine gV ?_; apply gw_d; exact w_index (m := k) rfl rfl rfl rfl rfl hkl; apply gw_d; exact w_load_row rfl rfl rfl .here hrow2; refine gM ?_; refine gN ?_; refine gM ?_; refine gC ?_; refine gO ?_)
   refine gc_if_dec rfl (fun h6 => ?_) (fun h6 => ?_)
   ·rw [if_pos (hasB_iff.2 (h6 ▸ hmem))]
    (refine gV ?_; refine gM ?_; refine gO ?_; refine gR ?_; refine gY ?_; (iterate 2 refine gT ?_); refine gY ?_; refine gT ?_)
    refine gi1 (fun _ _ => ?_)
    rfl
   ·(refine gK ?_; refine gH ?_; refine gX ?_; refine gG ?_; refine gA ?_; refine gM ?_; refine gw_nil ?_)
    exact gx_round (k + 1) ⟨by omega, fun j hj => by
     rcases Nat.lt_or_ge j k with h | h
     ·exact hG j h
     ·obtain rfl : j = k := by omega
      exact h6⟩ (by omega) kK ⟨rfl, trivial⟩ (Sub.all _)
  obtain rfl : k = l.length := by omega
  rw [if_neg (fun h => by
   obtain ⟨j, hj, he⟩ := List.getElem_of_mem (hasB_iff.1 h)
   refine hG j (by omega) ?_
   rw [List.getD_eq_getElem?_getD, List.getElem?_eq_getElem hj]
   exact he)]
  (refine gI ?_; (iterate 2 refine gZ ?_); refine gJ ?_; refine gX ?_; refine gQ ?_; refine gV ?_; refine gM ?_; refine gL ?_; refine gM ?_; refine gO ?_; refine gB ?_)
  refine gc_loopK (σ := Nat) [91, 92, 93, 18, 19, 94, 95, 96, 97, 98, 99, 21, 100, 101, 102, 103, 104, 105, 106, 107, 108, 109, 110, 6, 111, 90] (fun k => [(90, .int .i64 k)]) (fun k => k ≤ sts.length) (fun k => sts.length - k) 0 (Nat.zero_le _) ⟨rfl, trivial⟩ ?_
  rintro k base4 hk4
  (refine gV ?_; refine gC ?_; refine gO ?_; refine gQ ?_)
  refine gc_if_dec rfl (fun h5 => ?_) (fun h5 => ?_)
  ·have hks : k < sts.length := by omega
   obtain ⟨ad, A', c', rfl, hb, hce, hrow⟩ := hscell k hks
   obtain ⟨A2, c2, hv2, hc2', hm2, hcell2⟩ := hrow.int
   injection hv2 with e1 e2 e3
   subst e1 e3
   have hk16 := hlen _ (List.getElem_mem hks)
   (refine gK ?_; refine gX ?_; refine gQ ?_; refine gB ?_; refine gV ?_; apply gw_d; exact w_index rfl rfl rfl rfl (by with_reducible exact rfl) (by omega); apply gw_d; exact w_load_at rfl rfl rfl (by assumption) (by assumption); refine gM ?_; refine gN ?_; refine gM ?_; refine gO ?_; refine gQ ?_; refine gV ?_; refine gM ?_; refine gL ?_; refine gM ?_; refine gO ?_; refine gB ?_)
   refine gc_loopK (σ := Nat × Int) [97, 98, 99, 21, 100, 101, 102, 103, 104, 105, 106, 19, 107, 96] (fun s => [(96, .int .i64 s.1), (19, .int .i64 s.2)]) (fun s => s.1 ≤ sts[k].length ∧ 0 ≤ s.2 ∧ s.2 ≤ 10000 * s.1) (fun s => sts[k].length - s.1) (0, 0) ⟨Nat.zero_le _, by decide, by decide⟩ ⟨rfl, rfl, trivial⟩ ?_
   rintro ⟨j, S⟩ base5 ⟨hj, hS1, hS2⟩
   dsimp only at hj hS1 hS2 ⊢
   (refine gV ?_; refine gC ?_; refine gO ?_; refine gQ ?_)
   refine gc_if_dec rfl (fun h6 => ?_) (fun h6 => ?_)
   ·have hjl : j < sts[k].length := by omega
    obtain ⟨ad5, rfl, hb5, hce5, _⟩ := hcell2 j hjl
    have hx := hrng k hks _ (List.getElem_mem hjl)
    generalize sts[k][j] = x at hce5 hx
    obtain ⟨i, rfl⟩ : ∃ i : Nat, x = (i : Int) := ⟨x.toNat, by omega⟩
    have hil : i < l.length := by omega
    obtain ⟨ad6, _, hv6, _, _, hb6, hcell6⟩ := hl.at' 5 rfl (by omega)
    injection hv6 with e1 e2 e3
    subst e1 e3
    obtain ⟨cs6, hce6, Aa, ca2, Au, cu, rfl, hnm, q1, q2⟩ := hcell6 i hil
    have hce7 := hce6 2 _ rfl
    have hoi := hop i hil
    (refine gK ?_; refine gX ?_; refine gQ ?_; refine gB ?_; refine gV ?_; apply gw_d; exact w_index rfl rfl rfl rfl (by with_reducible exact rfl) (by omega); apply gw_d; exact w_load_at rfl rfl rfl (by assumption) (by assumption); refine gM ?_; refine gO ?_; refine gG ?_; (iterate 3 refine gM ?_); apply gw_d; exact w_index (m := i) rfl rfl rfl rfl rfl hil; refine gF ?_; apply gw_d; exact w_load_fld rfl rfl rfl (by assumption) (by assumption); refine gA ?_; refine gM ?_; refine gw_nil ?_; refine gH ?_; refine gX ?_; refine gG ?_; refine gA ?_; refine gM ?_; refine gw_nil ?_)
    exact gx_round (j + 1, S + l[i].minutes) ⟨by dsimp only; omega, by dsimp only; omega, by dsimp only; omega⟩ (by dsimp only; omega) kK ⟨rfl, rfl, trivial⟩ (Sub.all _)
   ·(refine gI ?_; (iterate 2 refine gZ ?_); refine gJ ?_; refine gX ?_; refine gV ?_; (iterate 2 refine gM ?_); refine gC ?_; refine gO ?_)
    refine gc_if_dec rfl (fun h7 => absurd h7 (by omega)) (fun _ => ?_)
    (refine gK ?_; refine gH ?_; refine gX ?_; refine gG ?_; refine gA ?_; refine gM ?_; refine gw_nil ?_)
    exact gx_round (k + 1) (by omega) (by omega) kK ⟨rfl, trivial⟩ (Sub.all _)
  (refine gI ?_; (iterate 2 refine gZ ?_); refine gJ ?_; refine gX ?_; refine gQ ?_; refine gV ?_; refine gM ?_; refine gL ?_; refine gM ?_; refine gO ?_; refine gB ?_)
  refine gc_loopK (σ := Nat) [115, 116, 117, 118, 23, 22, 119, 120, 121, 122, 123, 124, 125, 25, 126, 127, 128, 129, 130, 131, 132, 133, 134, 6, 135, 136, 114] (fun k => [(114, .int .i64 k)]) (fun k => k ≤ l.length ∧ ∀ i, i < k → ∀ a ∈ (l.getD i opZ).after, ¬ T.getD i 0 < T.getD a.toNat 0) (fun k => l.length - k) 0 ⟨Nat.zero_le _, fun i hi => by omega⟩ ⟨rfl, trivial⟩ ?_
  rintro i base4 ⟨hi4, hO⟩
  (refine gV ?_; refine gC ?_; refine gO ?_; refine gQ ?_)
  refine gc_if_dec rfl (fun h5 => ?_) (fun h5 => ?_)
  ·have hil : i < l.length := by omega
   obtain ⟨ad6, _, hv6, _, _, hb6, hcell6⟩ := hl.at' 5 rfl (by omega)
   injection hv6 with e1 e2 e3
   subst e1 e3
   obtain ⟨cs6, hce6, Aa, ca2, Au, cu, rfl, hnm, q1, q2⟩ := hcell6 i hil
   have hgi : l.getD i opZ = l[i] := by rw [List.getD_eq_getElem?_getD, List.getElem?_eq_getElem hil]; rfl
   have hoi := hop i hil
   have hTi : (T.map (Value.int .i64)).toArray[i * 1]? = some (.int .i64 (T.getD i 0)) := row_get (Value.int .i64) 0 (by omega)
   obtain ⟨A4, c4, hv4, hc4, hm4, hcell4⟩ := (show Sl rInt w w.heap.size (.slice Aa l[i].after.length ca2) l[i].after from q1).int
   injection hv4 with f1 f2 f3
   subst f1 f3
   (refine gK ?_; refine gX ?_; refine gQ ?_; refine gB ?_; refine gV ?_; refine gM ?_; apply gw_d; exact w_index rfl rfl rfl rfl (by with_reducible exact rfl) (by omega); apply gw_d; exact w_load_elem rfl rfl rfl (by assumption) (by assumption) (by rfl); refine w_alloc rfl (fun _ => ?_); refine gM ?_; refine w_store_all rfl rfl rfl rfl rfl .here rfl ?_; refine gN ?_; refine gF ?_; refine gW .here ?_; refine gL ?_; refine gM ?_; refine gO ?_; refine gB ?_)
   refine gc_loopK (σ := Nat) [123, 124, 125, 25, 126, 127, 128, 129, 130, 131, 132, 133, 134, 6, 135, 122] (fun j => [(122, .int .i64 j)]) (fun j => j ≤ l[i].after.length ∧ ∀ a ∈ l[i].after.take j, ¬ T.getD i 0 < T.getD a.toNat 0) (fun j => l[i].after.length - j) 0 ⟨Nat.zero_le _, fun a ha => by cases ha⟩ ⟨rfl, trivial⟩ ?_
   rintro j base5 ⟨hj, hA⟩
   (refine gV ?_; refine gC ?_; refine gO ?_; refine gQ ?_)
   refine gc_if_dec rfl (fun h6 => ?_) (fun h6 => ?_)
   ·have hjl : j < l[i].after.length := by omega
    obtain ⟨ad5, rfl, hb5, hce5, _⟩ := hcell4 j hjl
    have hax := areIx_at hoi.2.2.2.2 _ (List.getElem_mem hjl)
    have hsn := List.take_succ_eq_append_getElem hjl
    have hmm := List.getElem_mem hjl
    generalize l[i].after[j] = x at hce5 hax hsn hmm
    obtain ⟨a, rfl⟩ : ∃ a : Nat, x = (a : Int) := ⟨x.toNat, by omega⟩
    have hal : a < l.length := by omega
    have hTa : (T.map (Value.int .i64)).toArray[a * 1]? = some (.int .i64 (T.getD a 0)) := row_get (Value.int .i64) 0 (by omega)
    (refine gK ?_; refine gX ?_; refine gQ ?_; refine gB ?_; refine gV ?_; apply gw_d; exact w_index rfl rfl rfl rfl (by with_reducible exact rfl) (by omega); apply gw_d; exact w_load_at rfl rfl rfl (by assumption) (by assumption); refine gM ?_; refine gO ?_; refine gQ ?_)
    refine gc_draw 9 (by kernel_rfl) (by kernel_rfl) ?_
    ((iterate 2 refine dM ?_); apply gd_d; exact w_index (m := i) rfl rfl rfl rfl rfl hil; apply gd_d; exact w_load_row rfl rfl rfl (.there .here) hTi; (iterate 2 refine dM ?_); apply gd_d; exact w_index (m := a) rfl rfl rfl rfl rfl hal; apply gd_d; exact w_load_row rfl rfl rfl (.there .here) hTa; apply gd_d; exact det_cmp rfl rfl rfl rfl rfl; refine gd_nil ?_; refine gO ?_)
    refine gc_if_dec rfl (fun h7 => ?_) (fun h7 => ?_)
    ·have : ordB l T = true := List.any_eq_true.2 ⟨i, List.mem_range.2 hil, List.any_eq_true.2 ⟨(a : Int), by rw [hgi]; exact hmm, decide_eq_true h7⟩⟩
     rw [if_pos this]
     (refine gV ?_; refine gM ?_; refine gO ?_; refine gR ?_; refine gY ?_; (iterate 2 refine gT ?_); (iterate 2 refine gY ?_); (iterate 2 refine gT ?_); refine gY ?_; refine gT ?_)
     refine gi1 (fun _ _ => ?_)
     rfl
    ·(refine gK ?_; refine gH ?_; refine gX ?_; refine gG ?_; refine gA ?_; refine gM ?_; refine gw_nil ?_)
     exact gx_round (j + 1) ⟨by omega, fun y hy => by
      rw [hsn] at hy
      rcases List.mem_append.1 hy with h | h
      ·exact hA y h
      ·rw [List.mem_singleton] at h
       rw [h, Int.toNat_natCast]
       exact h7⟩ (by omega) kK ⟨rfl, trivial⟩ (Sub.all _)
   ·obtain rfl : j = l[i].after.length := by omega
    rw [List.take_length] at hA
    (refine gI ?_; (iterate 2 refine gZ ?_); refine gJ ?_; refine gH ?_; refine gX ?_; refine gG ?_; refine gA ?_; refine gM ?_; refine gw_nil ?_)
    exact gx_round (i + 1) ⟨by omega, fun q hq => by
     rcases Nat.lt_or_ge q i with h | h
     ·exact hO q h
     ·obtain rfl : q = i := by omega
      rw [hgi]
      exact hA⟩ (by omega) kK ⟨rfl, trivial⟩ Sub.tail
  ·obtain rfl : i = l.length := by omega
   rw [if_neg (fun h => by
    obtain ⟨q, hq, h1⟩ := List.any_eq_true.1 h
    obtain ⟨a, ha, h2⟩ := List.any_eq_true.1 h1
    exact hO q (List.mem_range.1 hq) a ha (of_decide_eq_true h2))]
   (refine gI ?_; (iterate 2 refine gZ ?_); refine gJ ?_; refine gX ?_; refine gV ?_; refine gM ?_; refine gO ?_; refine gR ?_)
   refine gi1 (fun _ _ => ?_)
   rfl
def comE (l : List Opn) (sts : List (List Int)) (bs : List Bun) (ds : List Dwn) : Int := if ¬ listE l (-1) = 0 then listE l (-1) else if ¬ lineE l sts = 0 then lineE l sts else if bs.length > 60 then 5 else if ¬ firstE (bunE bs) bs.length = 0 then firstE (bunE bs) bs.length else mchE ds
theorem common_ok (w : World) (v vs vb vd : Value) (l : List Opn) (sts : List (List Int)) (bs : List Bun) (ds : List Dwn) (hl : Sl rOp w w.heap.size v l) (hs : Sl rSta w w.heap.size vs sts) (hlen : ∀ s ∈ sts, s.length ≤ 16) (hb : Sl rBun w w.heap.size vb bs) (hd : Sl rDwn w w.heap.size vd ds) :
  Ok Tryz.prog 18 [v, vs, vb, vd].toArray w fun r _ => r = .int .i64 (comE l sts bs ds) := by
 obtain ⟨A, c, rfl, hc, hm, hcell⟩ := hb.bun
 by_cases he : listE l (-1) = 0
 ·have hLine : ∀ (L : List Res) (w' : World), St w L w' → Ok Tryz.prog 33 [v, .int .i64 1000000, vs].toArray w' fun r _ => r = .int .i64 (lineE l sts) := fun L w' s => by
   by_cases h : bndE l 1000000 = 0
   ·exact lineCheck_good w' v vs l sts (hl.later s) (hs.later s) hlen h
   ·exact lineCheck_bad w' v vs l sts (hl.later s) h
  refine ok_enter Tryz.func18 rfl Tryz.ntmps18 rfl ?_
  (refine gV ?_; refine gM ?_; refine gO ?_; refine gQ ?_; refine gV ?_; refine gM ?_)
  refine gw_callm rfl (fun w' s => Order_good w' v l (hl.later s) he) rfl (fun xo => ?_)
  (refine gM ?_; apply gw_d; exact det_extract rfl rfl rfl (by conv => (lhs; whnf)); apply gw_d; exact det_extract rfl rfl rfl (by conv => (lhs; whnf)); (iterate 2 refine gM ?_); refine gN ?_; refine gM ?_; refine gC ?_; refine gO ?_)
  refine gc_if_dec rfl (fun h => absurd rfl h) (fun _ => ?_)
  (refine gK ?_; refine gX ?_; refine gQ ?_; refine gV ?_; (iterate 2 refine gM ?_); apply gw_d; exact w_call rfl rfl (hLine _) rfl; refine gM ?_; refine gN ?_; refine gM ?_; refine gC ?_; refine gO ?_)
  refine gc_if_dec rfl (fun h => ?_) (fun h => ?_)
  ·(refine gV ?_; (iterate 2 refine gM ?_); refine gO ?_; refine gR ?_; refine gT ?_)
   refine gi1 (fun _ _ => ?_)
   unfold comE
   rw [if_neg (by rw [he]; decide), if_pos h]
  have hle : lineE l sts = 0 := by simpa using h
  (refine gK ?_; refine gX ?_; refine gQ ?_; refine gV ?_; refine gM ?_; refine gL ?_; refine gC ?_; refine gO ?_)
  refine gc_if_dec rfl (fun h => ?_) (fun h60 => ?_)
  ·(refine gV ?_; refine gM ?_; refine gO ?_; refine gR ?_; refine gT ?_)
   refine gi1 (fun _ _ => ?_)
   unfold comE
   rw [if_neg (by rw [he]; decide), if_neg (by rw [hle]; decide), if_pos (by omega)]
  have hE : comE l sts bs ds = if ¬ firstE (bunE bs) bs.length = 0 then firstE (bunE bs) bs.length else mchE ds := by
   unfold comE
   rw [if_neg (by rw [he]; decide), if_neg (by rw [hle]; decide), if_neg (by omega)]
  rw [hE]
  (refine gK ?_; refine gX ?_; refine gQ ?_; refine gV ?_; refine gM ?_; refine gL ?_; refine gM ?_; refine gO ?_; refine gB ?_)
  refine gc_loopK (σ := Nat) [36, 37, 38, 39, 13, 12, 40, 41, 42, 43, 44, 45, 46, 47, 48, 49, 50, 51, 52, 53, 54, 8, 55, 56, 57, 58, 59, 60, 61, 62, 15, 63, 64, 65, 66, 67, 68, 69, 35] (fun k => [(35, .int .i64 k)]) (fun k => k ≤ bs.length ∧ firstE (bunE bs) k = 0) (fun k => bs.length - k) 0 ⟨Nat.zero_le _, rfl⟩ ⟨rfl, trivial⟩ ?_
  rintro k base ⟨hk, hI⟩
  (refine gV ?_; refine gC ?_; refine gO ?_; refine gQ ?_)
  refine gc_if_dec rfl (fun h => ?_) (fun h => ?_)
  ·have hlt : k < bs.length := by omega
   obtain ⟨ad, rfl, hbk, hce, h1, h2, h3⟩ := hcell k hlt
   unfold inI64 at h1 h2 h3
   have hW : bunE bs k = if bs[k].fr ≥ bs[k].upto ∨ bs[k].upto - bs[k].fr > 40 then 3 else if ((bs.take k).any fun y => decide (y.tick = bs[k].tick)) = true then 7 else 0 := by
    unfold bunE
    rw [List.getElem?_eq_getElem hlt]
   have hstop : ∀ x : Int, bunE bs k = x → ¬ x = 0 → (if ¬ firstE (bunE bs) bs.length = 0 then firstE (bunE bs) bs.length else mchE ds) = x := fun x hx hx0 => by
    have := firstE_stop hI (by rw [hx]; exact hx0) hlt
    rw [this, hx, if_pos hx0]
   (refine gK ?_; refine gX ?_; refine gQ ?_; refine gB ?_; refine gV ?_; refine gM ?_; apply gw_d; exact w_index rfl rfl rfl rfl (by with_reducible exact rfl) (by omega); apply gw_d; exact w_load_elem rfl rfl rfl (by assumption) (by assumption) (by rfl); refine w_alloc rfl (fun _ => ?_); refine gM ?_; refine w_store_all rfl rfl rfl rfl rfl .here rfl ?_; refine gO ?_; refine gQ ?_; refine gV ?_; refine gF ?_; refine gW .here ?_; refine gF ?_; refine gW .here ?_; refine gC ?_; refine gM ?_)
   by_cases h4 : bs[k].fr ≥ bs[k].upto
   ·rw [if_pos (.inl h4)] at hW
    focus (refine gD (fun _ => ?_) (fun _ => ?_); (iterate 8 refine gU ?_); refine gPp ?_; refine gO ?_; refine gc_if_true rfl ?_; refine gV ?_; refine gM ?_; refine gO ?_; refine gR ?_; refine gT ?_; refine gY ?_; (iterate 2 refine gT ?_); refine gY ?_; refine gT ?_; rotate_left; refine gF ?_; refine gW .here ?_; rotate_left)
    all_goals first | (exfalso; omega) | skip
    refine gi1 (fun _ _ => ?_)
    rw [hstop 3 hW (by decide)]
   have hu : (bs[k].upto % 18446744073709551616 - bs[k].fr % 18446744073709551616) % 18446744073709551616 = bs[k].upto - bs[k].fr := by omega
   by_cases h5 : bs[k].upto - bs[k].fr > 40
   ·rw [if_pos (.inr h5)] at hW
    focus (refine gD (fun _ => ?_) (fun _ => ?_); (iterate 8 refine gU ?_); refine gPp ?_; refine gO ?_; refine gc_if_true rfl ?_; refine gV ?_; refine gM ?_; refine gO ?_; refine gR ?_; refine gT ?_; refine gY ?_; (iterate 2 refine gT ?_); refine gY ?_; refine gT ?_; rotate_left; refine gF ?_; refine gW .here ?_; apply gw_d; exact det_conv (r := bs[k].upto % 18446744073709551616) rfl rfl rfl (wrap_u64 _); refine gF ?_; refine gW .here ?_; apply gw_d; exact det_conv (r := bs[k].fr % 18446744073709551616) rfl rfl rfl (wrap_u64 _); apply gw_d; exact det_eq (c' := .int .u64 (bs[k].upto - bs[k].fr)) (det_ar_wrap rfl rfl rfl rfl rfl) (by rw [wrap_u64, hu]); refine gC ?_; refine gPq ?_; refine gO ?_; refine gc_if_dec rfl (fun _ => ?_) (fun _ => ?_); refine gV ?_; refine gM ?_; refine gO ?_; refine gR ?_; refine gT ?_; refine gY ?_; (iterate 2 refine gT ?_); refine gY ?_; refine gT ?_; rotate_left; refine gK ?_; refine gX ?_; refine gV ?_; (iterate 2 refine gM ?_); apply gw_d; exact w_cut_hi rfl rfl rfl rfl (by with_reducible exact rfl) (by omega); refine gL ?_; refine gM ?_; refine gO ?_; refine gB ?_; rotate_left)
    all_goals first | (exfalso; omega) | skip
    refine gi1 (fun _ _ => ?_)
    rw [hstop 3 hW (by decide)]
   rw [if_neg (by omega)] at hW
   focus (refine gD (fun _ => ?_) (fun _ => ?_); (iterate 8 refine gU ?_); refine gPp ?_; refine gO ?_; refine gc_if_true rfl ?_; refine gV ?_; refine gM ?_; refine gO ?_; refine gR ?_; refine gT ?_; refine gY ?_; (iterate 2 refine gT ?_); refine gY ?_; refine gT ?_; rotate_left; refine gF ?_; refine gW .here ?_; apply gw_d; exact det_conv (r := bs[k].upto % 18446744073709551616) rfl rfl rfl (wrap_u64 _); refine gF ?_; refine gW .here ?_; apply gw_d; exact det_conv (r := bs[k].fr % 18446744073709551616) rfl rfl rfl (wrap_u64 _); apply gw_d; exact det_eq (c' := .int .u64 (bs[k].upto - bs[k].fr)) (det_ar_wrap rfl rfl rfl rfl rfl) (by rw [wrap_u64, hu]); refine gC ?_; refine gPq ?_; refine gO ?_; refine gc_if_dec rfl (fun _ => ?_) (fun _ => ?_); refine gV ?_; refine gM ?_; refine gO ?_; refine gR ?_; refine gT ?_; refine gY ?_; (iterate 2 refine gT ?_); refine gY ?_; refine gT ?_; rotate_left; refine gK ?_; refine gX ?_; refine gV ?_; (iterate 2 refine gM ?_); apply gw_d; exact w_cut_hi rfl rfl rfl rfl (by with_reducible exact rfl) (by omega); refine gL ?_; refine gM ?_; refine gO ?_; refine gB ?_; rotate_left)
   all_goals first | (exfalso; omega) | skip
   refine gc_loopK (σ := Nat) [60, 61, 62, 15, 63, 64, 65, 66, 67, 8, 68, 59] (fun j => [(59, .int .i64 j)]) (fun j => j ≤ k ∧ ((bs.take j).any fun y => decide (y.tick = bs[k].tick)) = false) (fun j => k - j) 0 ⟨Nat.zero_le _, rfl⟩ ⟨rfl, trivial⟩ ?_
   rintro j base2 ⟨hj, hJ⟩
   (refine gV ?_; refine gC ?_; refine gO ?_; refine gQ ?_)
   refine gc_if_dec rfl (fun h => ?_) (fun h => ?_)
   ·have hjl : j < bs.length := by omega
    obtain ⟨ad2, h6, hb2, hce2, _⟩ := hcell j hjl
    injection h6 with h6
    subst h6
    (refine gK ?_; refine gX ?_; refine gQ ?_; refine gB ?_; refine gV ?_; apply gw_d; exact w_index rfl rfl rfl rfl (by with_reducible exact rfl) (by omega); apply gw_d; exact w_load_elem rfl rfl rfl (by assumption) (by assumption) (by rfl); refine w_alloc rfl (fun _ => ?_); refine w_store_all rfl rfl rfl rfl rfl .here rfl ?_; refine gN ?_; refine gF ?_; refine gW .here ?_; refine gF ?_; refine gW (.there .here) ?_; refine gC ?_; refine gO ?_)
    refine gc_if_dec rfl (fun h => ?_) (fun h => ?_)
    ·(refine gV ?_; refine gM ?_; refine gO ?_; refine gR ?_; refine gY ?_; (iterate 2 refine gT ?_); (iterate 2 refine gY ?_); (iterate 2 refine gT ?_); refine gY ?_; refine gT ?_)
     refine gi1 (fun _ _ => ?_)
     rw [if_pos (List.any_eq_true.2 ⟨bs[j], List.mem_take_iff_getElem.2 ⟨j, by omega, rfl⟩, decide_eq_true h⟩)] at hW
     rw [hstop 7 hW (by decide)]
    ·(refine gK ?_; refine gH ?_; refine gX ?_; refine gG ?_; refine gA ?_; refine gM ?_; refine gw_nil ?_)
     exact gx_round (j + 1) ⟨by omega, take_any_snoc hjl hJ (decide_eq_false h)⟩ (by omega) kK ⟨rfl, trivial⟩ Sub.tail
   ·obtain rfl : j = k := by omega
    rw [if_neg (by rw [hJ]; decide)] at hW
    (refine gI ?_; (iterate 2 refine gZ ?_); refine gJ ?_; refine gH ?_; refine gX ?_; refine gG ?_; refine gA ?_; refine gM ?_; refine gw_nil ?_)
    exact gx_round (j + 1) ⟨by omega, firstE_snoc hI hW⟩ (by omega) kK ⟨rfl, trivial⟩ Sub.tail
  ·obtain rfl : k = bs.length := by omega
   rw [if_neg (by rw [hI]; decide)]
   (refine gI ?_; (iterate 2 refine gZ ?_); refine gJ ?_; refine gX ?_; refine gV ?_; refine gM ?_; apply gw_d; exact w_call rfl rfl (fun w' s => mchCheck_ok w' _ ds (hd.later s)) rfl; refine gM ?_; refine gO ?_; refine gR ?_)
   refine gi1 (fun _ _ => ?_)
   rfl
 ·have hE : comE l sts bs ds = listE l (-1) := by unfold comE; rw [if_pos he]
  rw [hE]
  refine ok_enter Tryz.func18 rfl Tryz.ntmps18 rfl ?_
  (refine gV ?_; refine gM ?_; refine gO ?_; refine gQ ?_; refine gV ?_; refine gM ?_; apply gw_d; exact w_call rfl rfl (fun w' s => Order_bad w' v l (hl.later s) he) rfl; refine gM ?_; apply gw_d; exact det_extract rfl rfl rfl (by conv => (lhs; whnf)); apply gw_d; exact det_extract rfl rfl rfl (by conv => (lhs; whnf)); (iterate 2 refine gM ?_); refine gN ?_; refine gM ?_; refine gC ?_; refine gO ?_)
  refine gc_if_dec rfl (fun h => ?_) (fun h => absurd he (by simpa using h))
  (refine gV ?_; (iterate 2 refine gM ?_); refine gO ?_; refine gR ?_; refine gT ?_)
  refine gi1 (fun _ _ => ?_)
  rfl

def pcIn (k : Int) (T : List Int) (s : List Int) : List Int := s.foldl (fun T i => T.set i.toNat k) T
def pcAt (sts : List (List Int)) (T : List Int) (k : Nat) : List Int := pcIn (k : Int) T (sts.getD k [])
def placesF (n : Nat) (sts : List (List Int)) : List Int := (List.range sts.length).foldl (pcAt sts) (List.replicate n 0)
theorem pcIn_len {k : Int} : ∀ (s T : List Int), (pcIn k T s).length = T.length
 | [], _ => rfl
 | i :: s, T => (pcIn_len s (T.set i.toNat k)).trans List.length_set
theorem pcs_len {sts : List (List Int)} : ∀ (ks : List Nat) (T : List Int), (ks.foldl (pcAt sts) T).length = T.length
 | [], _ => rfl
 | _k :: ks, _T => (pcs_len ks _).trans (pcIn_len _ _)
theorem placesF_len {n : Nat} {sts : List (List Int)} : (placesF n sts).length = n := by
 unfold placesF
 rw [pcs_len, List.length_replicate]
theorem places_ok (w : World) (vs : Value) (n : Nat) (sts : List (List Int)) (hs : Sl rSta w w.heap.size vs sts) (hn : n ≤ 16) (hr : ∀ k (hk : k < sts.length), ∀ x ∈ sts[k], 0 ≤ x ∧ x < n) :
  OkM Tryz.prog 23 [.int .i64 (n : Int), vs].toArray w (fun g : Nat => .slice (some ⟨g, 0, none⟩) n n) (fun g => [Box g 3 ((placesF n sts).map (Value.int .i64)).toArray]) := by
 obtain ⟨As, cs, rfl, hsc, hsm, hscell⟩ := hs.sta
 unfold OkM
 refine ok_enter Tryz.func23 rfl Tryz.ntmps23 rfl ?_
 (refine gV ?_; refine gM ?_; refine gN ?_; refine gM ?_)
 refine gw_make1 (n := n) rfl rfl rfl rfl rfl (by omega) (by omega) rfl (fun ba => ?_)
 rw [show Array.replicate n ((Value.int .i64 0).cells.getD 0 undef) = (((List.range 0).foldl (pcAt sts) (List.replicate n 0)).map (Value.int .i64)).toArray from row_make (Value.int .i64) n 0]
 (refine gM ?_; refine gO ?_; refine gQ ?_; refine gV ?_; refine gM ?_; refine gL ?_; refine gM ?_; refine gO ?_; refine gB ?_)
 refine gc_loop1 (σ := Nat) [15, 16, 17, 18, 6, 7, 19, 20, 21, 22, 23, 24, 9, 25, 26, 27, 28, 29, 30, 14] (fun k => [(14, .int .i64 k)]) (fun k => Box ba 3 (((List.range k).foldl (pcAt sts) (List.replicate n 0)).map (Value.int .i64)).toArray) (fun k => k ≤ sts.length) (fun k => sts.length - k) 0 (Nat.zero_le _) ⟨rfl, trivial⟩ rfl ?_
 rintro k base hk
 have hTl : ((List.range k).foldl (pcAt sts) (List.replicate n 0)).length = n := by rw [pcs_len, List.length_replicate]
 have hTs : k < sts.length → (List.range (k + 1)).foldl (pcAt sts) (List.replicate n 0) = pcAt sts ((List.range k).foldl (pcAt sts) (List.replicate n 0)) k := fun _ => by rw [List.range_succ, List.foldl_append, List.foldl_cons, List.foldl_nil]
 have hTe : k = sts.length → placesF n sts = (List.range k).foldl (pcAt sts) (List.replicate n 0) := fun h => by rw [h]; rfl
 generalize (List.range k).foldl (pcAt sts) (List.replicate n 0) = T at hTl hTs hTe
 (refine gV ?_; refine gC ?_; refine gO ?_; refine gQ ?_)
 refine gc_if_dec rfl (fun h3 => ?_) (fun h3 => ?_)
 ·have hks : k < sts.length := by omega
  obtain ⟨ad, A', c', rfl, hb, hce, hrow⟩ := hscell k hks
  obtain ⟨A2, c2, hv2, hc2', hm2, hcell2⟩ := hrow.int
  injection hv2 with e1 e2 e3
  subst e1 e3
  have hT1 := hTs hks
  have hgk : sts.getD k [] = sts[k] := by rw [List.getD_eq_getElem?_getD, List.getElem?_eq_getElem hks]; rfl
  (refine gK ?_; refine gX ?_; refine gQ ?_; refine gB ?_; refine gV ?_; refine gM ?_; apply gw_d; exact w_index rfl rfl rfl rfl (by with_reducible exact rfl) (by omega); apply gw_d; exact w_load_at rfl rfl rfl (by assumption) (by assumption); (iterate 2 refine gM ?_); refine gN ?_; refine gM ?_; refine gL ?_; refine gM ?_; refine gO ?_; refine gB ?_)
  refine gc_loop1 (σ := Nat) [22, 23, 24, 9, 25, 26, 27, 28, 29, 21] (fun j => [(21, .int .i64 j)]) (fun j => Box ba 3 ((pcIn (k : Int) T (sts[k].take j)).map (Value.int .i64)).toArray) (fun j => j ≤ sts[k].length) (fun j => sts[k].length - j) 0 (Nat.zero_le _) ⟨rfl, trivial⟩ rfl ?_
  rintro j base3 hj
  (refine gV ?_; refine gC ?_; refine gO ?_; refine gQ ?_)
  refine gc_if_dec rfl (fun h4 => ?_) (fun h4 => ?_)
  ·have hjl : j < sts[k].length := by omega
   obtain ⟨ad5, rfl, hb5, hce5, _⟩ := hcell2 j hjl
   have hx := hr k hks _ (List.getElem_mem hjl)
   have hsn : pcIn (k : Int) T (sts[k].take (j + 1)) = (pcIn (k : Int) T (sts[k].take j)).set (sts[k][j]).toNat k := by
    rw [List.take_succ_eq_append_getElem hjl]
    unfold pcIn
    rw [List.foldl_append, List.foldl_cons, List.foldl_nil]
   have hPl : (pcIn (k : Int) T (sts[k].take j)).length = n := by rw [pcIn_len, hTl]
   generalize pcIn (k : Int) T (sts[k].take j) = T2 at hsn hPl
   generalize sts[k][j] = x at hce5 hx hsn
   obtain ⟨i, rfl⟩ : ∃ i : Nat, x = (i : Int) := ⟨x.toNat, by omega⟩
   rw [Int.toNat_natCast] at hsn
   have hin : i < n := by omega
   (refine gK ?_; refine gX ?_; refine gQ ?_; refine gB ?_; refine gV ?_; apply gw_d; exact w_index rfl rfl rfl rfl (by with_reducible exact rfl) (by omega); apply gw_d; exact w_load_at rfl rfl rfl (by assumption) (by assumption); refine gM ?_; refine gO ?_; refine gG ?_; (iterate 3 refine gM ?_); apply gw_d; exact w_index (m := i) rfl rfl rfl rfl rfl hin)
   refine w_store_row (n := 1) (v := .int .i64 (k : Int)) rfl rfl rfl rfl rfl .here (by rw [List.size_toArray, List.length_map]; omega) (row_set (Value.int .i64) (by omega) (k : Int)) ?_
   (refine gw_nil ?_; refine gH ?_; refine gX ?_; refine gG ?_; refine gA ?_; refine gM ?_; refine gw_nil ?_)
   refine gx_round (j + 1) (by omega) (by omega) kK ⟨rfl, trivial⟩ ?_
   rw [hsn]
   exact Sub.all _
  ·obtain rfl : j = sts[k].length := by omega
   rw [List.take_length]
   (refine gI ?_; (iterate 2 refine gZ ?_); refine gJ ?_; refine gH ?_; refine gX ?_; refine gG ?_; refine gA ?_; refine gM ?_; refine gw_nil ?_)
   refine gx_round (k + 1) (by omega) (by omega) kK ⟨rfl, trivial⟩ ?_
   rw [hT1]
   unfold pcAt
   rw [hgk]
   exact Sub.all _
 ·have hk2 : k = sts.length := by omega
  rw [← hTe hk2]
  (refine gI ?_; (iterate 2 refine gZ ?_); refine gJ ?_; refine gX ?_; refine gV ?_; (iterate 2 refine gM ?_); refine gO ?_; refine gR ?_)
  exact gx_ret1 (v := .slice _ _ _) rfl rfl (fun w' s => ⟨ba, rfl, s.sep⟩)
/-- The rows of a table of which k are made. -/
def tabC (nb n : Nat) (β : Nat → Nat) (k : Nat) : List Value := (List.range nb).map fun i => if i < k then .slice (some ⟨β i, 0, none⟩) n n else .slice none 0 0
def tabR (β : Nat → Nat) (E : Nat → List Int) (i : Nat) : Res := Box (β i) 3 ((E i).map (Value.int .i64)).toArray
theorem tabC_len (nb n : Nat) (β : Nat → Nat) (k : Nat) : (tabC nb n β k).length = nb := by simp [tabC]
theorem tabC_get {nb n k i : Nat} {β : Nat → Nat} (hi : i < nb) (hk : i < k) : (tabC nb n β k).toArray[i * 1]? = some (.slice (some ⟨β i, 0, none⟩) n n) := by simp [tabC, hi, hk]
theorem tabC_set {nb n k b : Nat} {β : Nat → Nat} (_hk : k < nb) : (tabC nb n β k).set k (.slice (some ⟨b, 0, none⟩) n n) = tabC nb n (fun i => if i = k then b else β i) (k + 1) := by
 apply List.ext_getElem
 ·simp [tabC]
 ·intro i h2 h3
  simp only [tabC, List.getElem_set, List.getElem_map, List.getElem_range]
  by_cases h : k = i
  ·subst h; simp
  ·have h4 : ¬ i = k := fun hc => h hc.symm
   by_cases h5 : i < k
   ·have h6 : i < k + 1 := by omega
    simp [h, h4, h5, h6]
   ·have h6 : ¬ i < k + 1 := by omega
    simp [h, h5, h6]
theorem tab_push {β : Nat → Nat} {E : Nat → List Int} {k b : Nat} {L : List Res} : Ent (Box b 3 ((E k).map (Value.int .i64)).toArray :: Coll k (tabR β E) :: L) (Coll (k + 1) (tabR (fun i => if i = k then b else β i) E) :: L) :=
 Ent.trans coll_push (coll_congr fun i hi => by
  unfold setR tabR
  by_cases h : i = k
  ·subst h; simp
  ·simp [h])
theorem table_ok (w : World) (nb n : Nat) (hb : nb ≤ 60) (hn : n ≤ 16) :
  OkM Tryz.prog 24 [.int .i64 (nb : Int), .int .i64 (n : Int)].toArray w (fun x : Nat × (Nat → Nat) => .slice (some ⟨x.1, 0, none⟩) nb nb) (fun x => [Coll nb (tabR x.2 (fun _ => List.replicate n (-1))), Box x.1 23 (tabC nb n x.2 nb).toArray]) := by
 unfold OkM
 refine ok_enter Tryz.func24 rfl Tryz.ntmps24 rfl ?_
 (refine gV ?_; refine gM ?_; refine gN ?_; refine gM ?_)
 refine gw_make1 (n := nb) rfl rfl rfl rfl rfl (by omega) (by omega) rfl (fun g => ?_)
 rw [show Array.replicate nb ((Value.slice none 0 0).cells.getD 0 undef) = (tabC nb n (fun _ => 0) 0).toArray from by
  have : tabC nb n (fun _ => 0) 0 = List.replicate nb (.slice none 0 0) := by
   apply List.ext_getElem
   ·simp [tabC]
   ·intro i a1 a2
    simp [tabC]
  rw [this]
  simp [Value.cells]]
 (refine gM ?_; refine gO ?_; refine gQ ?_; refine gV ?_; refine gM ?_; refine gL ?_; refine gM ?_; refine gO ?_; refine gB ?_)
 refine gc_ent (coll_nil (F := tabR (fun _ => 0) (fun _ => List.replicate n (-1)))) ?_
 refine gc_loop (σ := Nat × (Nat → Nat)) [13, 14, 6, 15, 16, 17, 18, 19, 20, 21, 22, 23, 24, 25, 26, 27, 7, 28, 29, 30, 31, 32, 33, 34, 35, 12] (fun s => [(12, .int .i64 s.1)]) (fun s => [Coll s.1 (tabR s.2 (fun _ => List.replicate n (-1))), Box g 23 (tabC nb n s.2 s.1).toArray]) (fun s => s.1 ≤ nb) (fun s => nb - s.1) (0, fun _ => 0) (Nat.zero_le _) ⟨rfl, trivial⟩ (Sub.all _) ?_
 rintro ⟨k, β⟩ base hk
 dsimp only at hk ⊢
 have hcl := tabC_len nb n β k
 (refine gV ?_; refine gC ?_; refine gO ?_; refine gQ ?_)
 refine gc_if_dec rfl (fun h => ?_) (fun h => ?_)
 ·have hkn : k < nb := by omega
  (refine gK ?_; refine gX ?_; refine gQ ?_; refine gB ?_; refine gV ?_; (iterate 2 refine gM ?_); refine gN ?_; (iterate 3 refine gM ?_))
  refine gw_make1 (n := n) rfl rfl rfl rfl rfl (by omega) (by omega) rfl (fun b => ?_)
  rw [show Array.replicate n ((Value.int .i64 0).cells.getD 0 undef) = ((filL n 0).map (Value.int .i64)).toArray from row_make (Value.int .i64) n 0]
  (apply gw_d; exact w_index (m := k) rfl rfl rfl rfl rfl hkn)
  refine w_store_row (n := 1) (v := .slice (some ⟨b, 0, none⟩) n n) (cs' := (tabC nb n (fun i => if i = k then b else β i) (k + 1)).toArray) rfl rfl rfl rfl rfl (.there (.there .here)) (by simp; omega) (by
   rw [Nat.mul_one, set_row (by simp; omega) rfl]
   rw [← tabC_set hkn]) ?_
  have hget : (tabC nb n (fun i => if i = k then b else β i) (k + 1)).toArray[k * 1]? = some (.slice (some ⟨b, 0, none⟩) n n) := by
   rw [tabC_get hkn (by omega)]
   simp
  (refine gN ?_; (iterate 2 refine gM ?_); apply gw_d; exact w_index (m := k) rfl rfl rfl rfl rfl hkn; apply gw_d; exact w_load_row rfl rfl rfl .here hget; refine gL ?_; refine gM ?_; refine gO ?_; refine gB ?_)
  refine gc_loop (σ := Nat) [26, 27, 7, 28, 29, 30, 31, 32, 33, 34, 25] (fun j => [(25, .int .i64 j)]) (fun j => [Box b 3 ((filL n j).map (Value.int .i64)).toArray, Coll k (tabR β (fun _ => List.replicate n (-1))), Box g 23 (tabC nb n (fun i => if i = k then b else β i) (k + 1)).toArray]) (fun j => j ≤ n) (fun j => n - j) 0 (Nat.zero_le _) ⟨rfl, trivial⟩ (.cons (.there .here) (.cons (.there .here) (.cons .here .nil))) ?_
  rintro j base2 hj
  have hfl := filL_len hj
  (refine gV ?_; refine gC ?_; refine gO ?_; refine gQ ?_)
  refine gc_if_dec rfl (fun h2 => ?_) (fun h2 => ?_)
  ·have hjn : j < n := by omega
   (refine gK ?_; refine gX ?_; refine gQ ?_; refine gB ?_; refine gV ?_; (iterate 2 refine gM ?_); refine gO ?_; refine gG ?_; (iterate 2 refine gM ?_); apply gw_d; exact w_index (m := k) rfl rfl rfl rfl rfl hkn; apply gw_d; exact w_load_row rfl rfl rfl (.there (.there .here)) hget; refine gM ?_; apply gw_d; exact w_index (m := j) rfl rfl rfl rfl rfl hjn)
   refine w_store_row (n := 1) (v := .int .i64 (-1)) rfl rfl rfl rfl rfl .here (by rw [List.size_toArray, List.length_map, hfl]; omega) (row_set (Value.int .i64) (by rw [hfl]; exact hjn) (-1)) ?_
   rw [filL_next hjn]
   (refine gw_nil ?_; refine gH ?_; refine gX ?_; refine gG ?_; refine gA ?_; refine gM ?_; refine gw_nil ?_)
   exact gx_round (j + 1) (by omega) (by omega) kK ⟨rfl, trivial⟩ (Sub.all _)
  ·obtain rfl : j = n := by omega
   rw [show filL j j = List.replicate j (-1) from by unfold filL; rw [Nat.sub_self, List.replicate_zero, List.append_nil]]
   (refine gI ?_; (iterate 2 refine gZ ?_); refine gJ ?_; refine gH ?_; refine gX ?_; refine gG ?_; refine gA ?_; refine gM ?_; refine gw_nil ?_)
   exact gx_roundE (k + 1, fun i => if i = k then b else β i) hkn (by dsimp only; omega) kK ⟨rfl, trivial⟩ (tab_push (E := fun _ => List.replicate j (-1)))
 ·obtain rfl : k = nb := by omega
  (refine gI ?_; (iterate 2 refine gZ ?_); refine gJ ?_; refine gX ?_; refine gV ?_; (iterate 2 refine gM ?_); refine gO ?_; refine gR ?_)
  exact gx_ret1 (v := .slice _ _ _) rfl rfl (fun w' s => ⟨(g, β), rfl, s.sep⟩)
section
variable {P : Program} {N : Nat} {w0 : World} {L L' : List Res} {e : Env}
end
end Go.Proofs.YtafbfldjcikmcaaGreat
