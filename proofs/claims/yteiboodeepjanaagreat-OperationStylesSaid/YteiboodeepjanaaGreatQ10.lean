/- Plain facts of the law OperationStyles: a style without the uses of its operations. -/
import Derived.Test.YteiboodeepjanaaGreatC23
namespace Go.Proofs.YteiboodeepjanaaGreat
open Go.RowKit

def bare (l : List Opn) : List Opn := l.map fun o => { o with uses := [] }
theorem bare_len (l : List Opn) : (bare l).length = l.length := by simp [bare]
theorem bare_at (l : List Opn) (i : Nat) : (bare l)[i]? = (l[i]?).map fun o => { o with uses := [] } := by unfold bare; rw [List.getElem?_map]
theorem op_parts {l : List Opn} {n : Int} {i : Nat} {o : Opn} (ho : l[i]? = some o) (h : opE l n i = 0) : ¬ (¬ nameB o.name = true) ∧ ¬ ((l.take i).any fun x => eqS x.name o.name) = true ∧ ¬ (o.machine < 0 ∨ o.machine ≥ 8 ∨ o.minutes < 1 ∨ o.minutes > 10000) ∧
    ¬ (areIx o.after l.length = false ∨ (0 ≤ n ∧ areIx o.uses n = false)) ∧ ¬ (dupL o.after o.after.length = true ∨ (0 ≤ n ∧ dupL o.uses o.uses.length = true)) := by
  unfold opE at h
  rw [ho] at h
  dsimp only at h
  split at h
  · cases h
  rename_i c1
  split at h
  · cases h
  rename_i c2
  split at h
  · cases h
  rename_i c3
  split at h
  · cases h
  rename_i c4
  split at h
  · cases h
  rename_i c5
  exact ⟨c1, c2, c3, c4, c5⟩
theorem op_mk {l : List Opn} {n : Int} {i : Nat} {o : Opn} (ho : l[i]? = some o) (c1 : ¬ (¬ nameB o.name = true)) (c2 : ¬ ((l.take i).any fun x => eqS x.name o.name) = true) (c3 : ¬ (o.machine < 0 ∨ o.machine ≥ 8 ∨ o.minutes < 1 ∨ o.minutes > 10000)) :
    opE l n i = if areIx o.after l.length = false ∨ (0 ≤ n ∧ areIx o.uses n = false) then 3 else if dupL o.after o.after.length = true ∨ (0 ≤ n ∧ dupL o.uses o.uses.length = true) then 7 else 0 := by
  unfold opE
  rw [ho]
  dsimp only
  rw [if_neg c1, if_neg c2, if_neg c3]
theorem opE_none {l : List Opn} {n : Int} {i : Nat} (h : l[i]? = none) : opE l n i = 0 := by unfold opE; rw [h]
theorem opE_bare (l : List Opn) (n : Int) (i : Nat) (h : opE l n i = 0) : opE (bare l) n i = 0 := by
  cases hi : l[i]? with
  | none => exact opE_none (by rw [bare_at, hi]; rfl)
  | some o =>
    obtain ⟨c1, c2, c3, c4, c5⟩ := op_parts hi h
    have e1 : (((bare l).take i).any fun x => eqS x.name o.name) = ((l.take i).any fun x => eqS x.name o.name) := by
      unfold bare
      rw [← List.map_take, List.any_map]
      rfl
    rw [op_mk (l := bare l) (o := { o with uses := [] }) (by rw [bare_at, hi]; rfl) c1 (by rw [e1]; exact c2) c3, bare_len, if_neg, if_neg]
    · exact fun h => h.elim (fun a => c5 (.inl a)) (fun b => Bool.noConfusion (show false = true from b.2))
    · exact fun h => h.elim (fun a => c4 (.inl a)) (fun b => Bool.noConfusion (show true = false from b.2))
theorem opE_drop (l : List Opn) (n : Int) (i : Nat) (h : opE l n i = 0) : opE l (-1) i = 0 := by
  cases hi : l[i]? with
  | none => exact opE_none hi
  | some o =>
    obtain ⟨c1, c2, c3, c4, c5⟩ := op_parts hi h
    rw [op_mk hi c1 c2 c3, if_neg, if_neg]
    · exact fun h => h.elim (fun a => c5 (.inl a)) (fun b => by omega)
    · exact fun h => h.elim (fun a => c4 (.inl a)) (fun b => by omega)
theorem opE_37 (l : List Opn) (n : Int) (i : Nat) (h : opE l (-1) i = 0) : opE l n i = 0 ∨ opE l n i = 3 ∨ opE l n i = 7 := by
  cases hi : l[i]? with
  | none => exact .inl (opE_none hi)
  | some o =>
    obtain ⟨c1, c2, c3, c4, c5⟩ := op_parts hi h
    rw [op_mk hi c1 c2 c3]
    split
    · exact .inr (.inl rfl)
    · split
      · exact .inr (.inr rfl)
      · exact .inl rfl
theorem firstE_all {f : Nat → Int} : ∀ n, (∀ k, k < n → f k = 0) → firstE f n = 0
  | 0, _ => rfl
  | n + 1, h => firstE_snoc (firstE_all n fun k hk => h k (by omega)) (h n (by omega))
theorem firstE_mem {f : Nat → Int} : ∀ n, firstE f n = 0 ∨ ∃ k, k < n ∧ firstE f n = f k
  | 0 => .inl rfl
  | n + 1 => by
    show (if firstE f n = 0 then f n else firstE f n) = 0 ∨ ∃ k, k < n + 1 ∧ (if firstE f n = 0 then f n else firstE f n) = f k
    split
    · exact .inr ⟨n, by omega, rfl⟩
    · rcases firstE_mem (f := f) n with h | ⟨k, hk, h⟩
      · exact .inl h
      · exact .inr ⟨k, by omega, h⟩
theorem list_parts {l : List Opn} {n : Int} (h : listE l n = 0) : ¬ 16 < l.length ∧ firstE (opE l n) l.length = 0 ∧ fullB l = true := by
  unfold listE at h
  split at h
  · cases h
  rename_i c1
  split at h
  · rename_i c2; exact absurd h c2
  rename_i c2
  split at h
  · rename_i c3; exact ⟨c1, Classical.not_not.1 c2, c3⟩
  · cases h
theorem list_mk {l : List Opn} {n : Int} (h1 : ¬ 16 < l.length) (h3 : fullB l = true) : listE l n = firstE (opE l n) l.length := by
  unfold listE
  rw [if_neg h1, if_pos h3]
  split
  · rfl
  · rename_i h; exact (Classical.not_not.1 h).symm
theorem list_drop {l : List Opn} {n : Int} (h : listE l n = 0) : listE l (-1) = 0 := by
  obtain ⟨h1, h2, h3⟩ := list_parts h
  rw [list_mk h1 h3]
  exact firstE_all _ fun k hk => opE_drop l n k (firstE_at h2 k hk)
theorem list_37 {l : List Opn} {n : Int} (h : listE l (-1) = 0) : listE l n = 0 ∨ listE l n = 3 ∨ listE l n = 7 := by
  obtain ⟨h1, h2, h3⟩ := list_parts h
  rw [list_mk h1 h3]
  rcases firstE_mem (f := opE l n) l.length with h4 | ⟨k, hk, h4⟩
  · exact .inl h4
  · rw [h4]
    exact opE_37 l n k (firstE_at h2 k hk)
theorem afterOf_bare (l : List Opn) (i : Nat) : afterOf (bare l) i = afterOf l i := by
  unfold afterOf
  rw [bare_at]
  cases l[i]? <;> rfl
theorem nextOf_bare (l : List Opn) (o : List Int) : nextOf (bare l) o = nextOf l o := by
  have : readyB (bare l) o = readyB l o := by funext i; unfold readyB; rw [afterOf_bare]
  unfold nextOf
  rw [this, bare_len]
theorem arr_bare (l : List Opn) : ∀ (f : Nat) (o : List Int), arr (bare l) f o = arr l f o
  | 0, _ => rfl
  | f + 1, o => by
    show (match nextOf (bare l) o with | some i => arr (bare l) f (o ++ [(i : Int)]) | none => o) = (match nextOf l o with | some i => arr l f (o ++ [(i : Int)]) | none => o)
    rw [nextOf_bare]
    cases nextOf l o with
    | none => rfl
    | some i => exact arr_bare l f _
theorem full_bare (l : List Opn) : fullB (bare l) = fullB l := by
  have : sortedL (bare l) = sortedL l := by unfold sortedL; rw [arr_bare, bare_len]
  unfold fullB
  rw [this, bare_len]
theorem list_bare {l : List Opn} {n : Int} (h : listE l n = 0) : listE (bare l) n = 0 := by
  obtain ⟨h1, h2, h3⟩ := list_parts h
  rw [list_mk (by rw [bare_len]; exact h1) (by rw [full_bare]; exact h3), bare_len]
  exact firstE_all _ fun k hk => opE_bare l n k (firstE_at h2 k hk)
theorem marks_bare (n : Nat) (l : List Opn) : marks n (bare l) = List.replicate n false := by
  unfold marks bare
  rw [List.foldl_map]
  suffices h : ∀ (l : List Opn) (bs : List Bool), l.foldl (fun bs (o : Opn) => markIn bs ({ o with uses := [] } : Opn).uses) bs = bs by exact h l _
  intro l
  induction l with
  | nil => intro bs; rfl
  | cons x l ih => intro bs; exact ih bs
def bareS (s : Sty) : Sty := { s with ops := bare s.ops }
theorem style_bare (s : Sty) (pl : Pc → Int) : styleE (bareS s) pl = styleE s pl := by
  have h1 : wholeE (bareS s) = wholeE s := by
    unfold wholeE bareS
    simp only [bare_len]
  unfold styleE
  rw [h1]
  rfl
theorem check_parts {s : Sty} {pl : Pc → Int} (h : opCheckE s pl = 0) : styleE s pl = 0 ∧ listE s.ops s.uses.length = 0 ∧ (marks s.uses.length s.ops).all id = true := by
  unfold opCheckE at h
  split at h
  · rename_i c; exact absurd h c
  rename_i c1
  split at h
  · rename_i c; exact absurd h c
  rename_i c2
  split at h
  · rename_i c3; exact ⟨Classical.not_not.1 c1, Classical.not_not.1 c2, c3⟩
  · cases h
theorem check_bare {s : Sty} {pl : Pc → Int} (h : opCheckE s pl = 0) : opCheckE (bareS s) pl = if s.uses.length = 0 then 0 else 20 := by
  obtain ⟨h1, h2, h3⟩ := check_parts h
  unfold opCheckE
  rw [style_bare, if_neg (by rw [h1]; decide)]
  have e1 : listE (bareS s).ops (bareS s).uses.length = 0 := list_bare h2
  have e2 : marks (bareS s).uses.length (bareS s).ops = List.replicate s.uses.length false := marks_bare _ _
  rw [if_neg (by rw [e1]; decide), e2]
  by_cases hz : s.uses.length = 0
  · rw [hz]; rfl
  · rw [if_neg hz, if_neg]
    obtain ⟨m, hm⟩ : ∃ m, s.uses.length = m + 1 := ⟨s.uses.length - 1, by omega⟩
    rw [hm]
    simp
theorem check_bad {s : Sty} {pl : Pc → Int} (h : ¬ opCheckE s pl = 0) : (styleE s pl = 0 ∨ opCheckE s pl = styleE s pl) ∧ (¬ styleE s pl = 0 ∨ ¬ listE s.ops (-1) = 0 ∨ opCheckE s pl = 3 ∨ opCheckE s pl = 7 ∨ opCheckE s pl = 20) := by
  by_cases h1 : styleE s pl = 0
  · refine ⟨.inl h1, .inr ?_⟩
    by_cases h2 : listE s.ops (-1) = 0
    · have h3 := list_37 (n := s.uses.length) h2
      unfold opCheckE at h ⊢
      rw [if_neg (by rw [h1]; decide)] at h ⊢
      split
      · omega
      · rename_i c
        rw [if_neg c] at h
        split
        · rename_i c2; rw [if_pos c2] at h; exact absurd rfl h
        · omega
    · exact .inl h2
  · refine ⟨.inr ?_, .inl h1⟩
    unfold opCheckE
    rw [if_pos h1]
/-! ### The cells, as they are cleared one by one -/
def clr : Nat → List Value → List Value
  | 0, cs => cs
  | k + 1, cs => (clr k cs).set (k * 5 + 4) (.slice none 0 0)
theorem clr_len : ∀ k cs, (clr k cs).length = cs.length
  | 0, _ => rfl
  | k + 1, cs => by
    show ((clr k cs).set _ _).length = _
    rw [List.length_set, clr_len k cs]
theorem clr_take {m : Nat} : ∀ k cs, (clr k cs).take m = clr k (cs.take m)
  | 0, _ => rfl
  | k + 1, cs => by
    show ((clr k cs).set _ _).take m = (clr k (cs.take m)).set _ _
    rw [List.take_set, clr_take k cs]
theorem clr_at : ∀ k (cs : List Value) i, i < cs.length → (clr k cs)[i]? = if i % 5 = 4 ∧ i / 5 < k then some (.slice none 0 0) else cs[i]?
  | 0, cs, i, _ => by rw [if_neg (by omega)]; rfl
  | k + 1, cs, i, hi => by
    show ((clr k cs).set _ _)[i]? = _
    rw [List.getElem?_set, clr_len, clr_at k cs i hi]
    by_cases h : k * 5 + 4 = i
    · rw [if_pos h, if_pos (by omega), if_pos (by omega)]
    · rw [if_neg h]
      by_cases h2 : i % 5 = 4 ∧ i / 5 < k
      · rw [if_pos h2, if_pos (by omega)]
      · rw [if_neg h2, if_neg (by omega)]
theorem clr_chunk {n k : Nat} {cs : List Value} (hl : cs.length = n * 5) (hk : k < n) {a b c d f : Value} (h : (cs.drop (k * 5)).take 5 = [a, b, c, d, f]) : ((clr n cs).drop (k * 5)).take 5 = [a, b, c, d, .slice none 0 0] := by
  have hc : ∀ j, j < 5 → cs[k * 5 + j]? = [a, b, c, d, f][j]? := fun j hj => by
    rw [← h, List.getElem?_take, if_pos hj, List.getElem?_drop]
  apply List.ext_getElem?
  intro j
  rw [List.getElem?_take]
  by_cases hj : j < 5
  · rw [if_pos hj, List.getElem?_drop, clr_at _ _ _ (by omega), hc j hj]
    match j, hj with
    | 0, _ => rw [if_neg (by omega)]; rfl
    | 1, _ => rw [if_neg (by omega)]; rfl
    | 2, _ => rw [if_neg (by omega)]; rfl
    | 3, _ => rw [if_neg (by omega)]; rfl
    | 4, _ => rw [if_pos (by omega)]; rfl
  · rw [if_neg hj, List.getElem?_eq_none (by simp; omega)]
end Go.Proofs.YteiboodeepjanaaGreat
