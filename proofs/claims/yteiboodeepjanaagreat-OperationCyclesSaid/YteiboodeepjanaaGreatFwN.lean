/- Regions that draw, where an operation may read what a later one writes. No program in sight. -/
import Derived.Test.YteiboodeepjanaaGreatFwB
namespace Go.Proofs.YteiboodeepjanaaGreat
open Go.RowKit

section
variable {P : Program} {ops : Array Oper} {Q : Exit → Act → World → Prop} {N : Nat} {w0 : World} {L : List Res} {rest : List Oper} {e : Env} {o : Oper}
def opOkB (ops : Array Oper) (k i : Nat) (o : Oper) : Bool :=
  (o.after.all fun x => !Region.binds .any x || Nat.blt x.on i) && (match o.op with | .select .. => false | _ => true) &&
  (bif Nat.blt i k then
     (List.range k).all fun j => match (ops[j]?).bind (·.dst) with
       | none => true
       | some d => (Nat.beq j i || o.dst != some d) && (!(o.looksAt ops).contains d || (Nat.blt j i && bindsOn o j) || (Nat.blt i j && (match ops[j]? with | some oj => bindsOn oj i | none => false)))
   else (List.range k).all (bindsOn o ·) && (Nat.beq i k || bindsOn o (i - 1)))

def drawOkB (ops : Array Oper) (k : Nat) : Bool :=
  Nat.ble k ops.size && (List.range ops.size).all fun i => match ops[i]? with
    | none => true
    | some o => opOkB ops k i o


theorem opOk_of2 {k : Nat} (h : drawOkB ops k = true) {i : Nat} (hi : ops[i]? = some o) : opOkB ops k i o = true := by
  unfold drawOkB at h
  rw [Bool.and_eq_true, List.all_eq_true] at h
  have := h.2 i (List.mem_range.2 (Array.getElem?_eq_some_iff.1 hi).1)
  simpa [hi] using this

theorem opOk_edges2 {k i : Nat} (h : opOkB ops k i o = true) : ∀ x ∈ o.after, Region.binds .any x = true → x.on < i := by
  unfold opOkB at h
  rw [Bool.and_eq_true, Bool.and_eq_true, Array.all_eq_true_iff_forall_mem] at h
  intro x hx hb
  have := h.1.1 x hx
  rw [hb] at this
  simpa using this

theorem opOk_select2 {k i : Nat} (h : opOkB ops k i o = true) : ∀ cs b, o.op ≠ .select cs b := by
  unfold opOkB at h
  rw [Bool.and_eq_true, Bool.and_eq_true] at h
  intro cs b heq
  have := h.1.2
  rw [heq] at this
  simp at this

theorem opOk_first2 {k i : Nat} (h : opOkB ops k i o = true) (hik : i < k) {j d : Nat} (hj : j < k) (hd : (ops[j]?).bind (·.dst) = some d) :
    (j = i ∨ o.dst ≠ some d) ∧ (d ∈ o.looksAt ops → (j < i ∧ bindsOn o j = true) ∨ (i < j ∧ ∀ oj, ops[j]? = some oj → bindsOn oj i = true)) := by
  unfold opOkB at h
  rw [Bool.and_eq_true] at h
  have h2 := h.2
  have hlt : Nat.blt i k = true := by rw [Nat.blt_eq]; exact hik
  rw [hlt] at h2
  simp only [cond_true, List.all_eq_true, List.mem_range] at h2
  have h3 := h2 j hj
  simp only [hd, Bool.and_eq_true, Bool.or_eq_true, Bool.not_eq_true', bne_iff_ne, Nat.blt_eq] at h3
  refine ⟨h3.1.imp (fun h => Nat.eq_of_beq_eq_true h) id, fun hl => ?_⟩
  rcases h3.2 with (h4 | h4) | h4
  · have : (o.looksAt ops).contains d = true := List.contains_iff_mem.2 hl
    rw [this] at h4
    cases h4
  · exact .inl h4
  · refine .inr ⟨h4.1, fun oj hoj => ?_⟩
    have h5 := h4.2
    rw [hoj] at h5
    exact h5

theorem opOk_rest2 {k i : Nat} (h : opOkB ops k i o = true) (hik : ¬ i < k) : (∀ j, j < k → bindsOn o j = true) ∧ (i = k ∨ bindsOn o (i - 1) = true) := by
  unfold opOkB at h
  rw [Bool.and_eq_true] at h
  have h2 := h.2
  have hb : Nat.blt i k = false := by rw [← Bool.not_eq_true, Nat.blt_eq]; exact hik
  rw [hb] at h2
  simp only [cond_false, Bool.and_eq_true, List.all_eq_true, List.mem_range, Bool.or_eq_true] at h2
  exact ⟨h2.1, h2.2.imp (fun h => Nat.eq_of_beq_eq_true h) id⟩


theorem any_rest2 {k : Nat} (hok : drawOkB ops k = true) : ∀ (fuel m : Nat) (listed : Array Bool) (a : Act) (w : World), k ≤ m → m + fuel = ops.size → listed.size = ops.size →
    (∀ i, i < ops.size → listed.getD i true = decide (i < m)) → wpList P ops Q (ops.toList.drop m) a w → wpAny P .any ops Q fuel listed a w := by
  intro fuel
  induction fuel with
  | zero =>
    intro m listed a w hkm hm hsz hl h
    have hready : Region.ready .any ops listed = [] := by
      rw [List.eq_nil_iff_forall_not_mem]
      intro j hj
      obtain ⟨h0, o, ho, _⟩ := mem_ready.1 hj
      have hlt := (Array.getElem?_eq_some_iff.1 ho).1
      rw [hl j hlt] at h0
      simp at h0
      omega
    rw [List.drop_eq_nil_of_le (by simp; omega)] at h
    exact ⟨hready, h⟩
  | succ fuel ih =>
    intro m listed a w hkm hm hsz hl h
    have hlt : m < ops.size := by omega
    have hom : ops[m]? = some ops[m] := Array.getElem?_eq_getElem hlt
    have hdrop : ops.toList.drop m = ops[m] :: ops.toList.drop (m + 1) := by
      rw [List.drop_eq_getElem_cons (by simpa using hlt)]
      simp
    have hlist : ∀ i, listed.getD i false = decide (i < m) := fun i => by
      by_cases hi : i < ops.size
      · have := hl i hi
        rw [← this]
        have hi' : i < listed.size := by omega
        simp [hi']
      · have hi' : ¬ i < listed.size := by omega
        simp [hi']
        omega
    have hmem : m ∈ Region.ready .any ops listed := by
      rw [mem_ready]
      refine ⟨by rw [hl m hlt]; simp, _, hom, fun x hx hb => ?_⟩
      have := opOk_edges2 (opOk_of2 hok hom) x hx hb
      rw [hlist]
      simpa using this
    refine ⟨fun h0 => (by rw [h0] at hmem; cases hmem), fun j hj => ?_⟩
    have hjm : j = m := by
      obtain ⟨h0, oj, hoj, hall⟩ := mem_ready.1 hj
      have hjlt := (Array.getElem?_eq_some_iff.1 hoj).1
      rw [hl j hjlt] at h0
      simp at h0
      rcases (opOk_rest2 (opOk_of2 hok hoj) (by omega)).2 with h1 | h1
      · omega
      · have := bindsOn_listed h1 hall
        rw [hlist] at this
        simp at this
        omega
    subst hjm
    rw [hdrop] at h
    unfold wpList at h
    unfold wpOp
    simp only [hom]
    have hnext : ∀ a w, wpList P ops Q (ops.toList.drop (j + 1)) a w → wpAny P .any ops Q fuel (listed.setIfInBounds j true) a w := fun a w h => by
      refine ih (j + 1) _ a w (by omega) (by omega) (by simpa using hsz) (fun i hi => ?_) h
      by_cases hij : j = i
      · subst hij
        have : j < listed.size := by omega
        simp [this]
      · rw [getD_set_ne true hij, hl i hi]
        simp
        omega
    split
    · rename_i hw
      rw [if_pos hw] at h
      exact h.imp (Oper.wp_mono hnext) id
    · rename_i hw
      rw [if_neg hw] at h
      exact hnext _ _ h

/-- How many are listed. -/

theorem any_first2 {k : Nat} (hok : drawOkB ops k = true) {cs : List Value} {e : Env} (hcs : cs.length = k)
    (hdet : ∀ (i : Nat) (o : Oper), ops[i]? = some o → i < k → ∃ c, cs[i]? = some c ∧ Det P ops N w0 L o (envAt e (ops.toList.take i) (cs.take i)) c)
    (htail : GW P ops Q N w0 L (ops.toList.drop k) (envAt e (ops.toList.take k) cs)) :
    ∀ (fuel : Nat) (listed : Array Bool) (e' : Env) (w : World), listed.size = ops.size → listedCount listed ops.size + fuel = ops.size → (∀ i, k ≤ i → listed.getD i false = false) →
      (∀ (i : Nat) (o : Oper) (d : Nat) (c : Value), i < k → listed.getD i false = true → ops[i]? = some o → o.dst = some d → cs[i]? = some c → e' d = c) →
      (∀ t, (∀ (i : Nat) (o : Oper), i < k → listed.getD i false = true → ops[i]? = some o → o.dst ≠ some t) → e' t = e t) →
      (∀ (j : Nat) (oj : Oper) (i : Nat), listed.getD j false = true → ops[j]? = some oj → bindsOn oj i = true → listed.getD i false = true) →
      St w0 L w → wpAny P .any ops Q fuel listed (mk N e') w := by
  have hkn : k ≤ ops.size := by
    unfold drawOkB at hok
    rw [Bool.and_eq_true] at hok
    exact Nat.le_of_ble_eq_true hok.1
  have huniq : ∀ (i j : Nat) (oi oj : Oper) (d : Nat), i < k → j < k → ops[i]? = some oi → ops[j]? = some oj → oi.dst = some d → oj.dst = some d → i = j := fun i j oi oj d hi hj hoi hoj hdi hdj => by
    have := (opOk_first2 (opOk_of2 hok hoi) hi hj (d := d) (by simp [hoj, hdj])).1
    rcases this with h | h
    · exact h.symm
    · exact absurd hdi h
  have hspec : ∀ i, i ≤ k → ∀ t, ((∀ (j : Nat) (oj : Oper), j < i → ops[j]? = some oj → oj.dst ≠ some t) → envAt e (ops.toList.take i) (cs.take i) t = e t) ∧
      (∀ (j : Nat) (oj : Oper) (c : Value), j < i → ops[j]? = some oj → oj.dst = some t → cs[j]? = some c → envAt e (ops.toList.take i) (cs.take i) t = c) := fun i hi t => by
    have hget : ∀ (j : Nat) (oj : Oper), (ops.toList.take i)[j]? = some oj ↔ j < i ∧ ops[j]? = some oj := fun j oj => by
      rw [List.getElem?_take]
      by_cases hji : j < i
      · simp [hji]
      · simp [hji]
    have h := envAt_spec (ops.toList.take i) (cs.take i) e t (by simp; omega) (fun a b oa ob ha hb hda hdb => by
      obtain ⟨ha1, ha2⟩ := (hget a oa).1 ha
      obtain ⟨hb1, hb2⟩ := (hget b ob).1 hb
      exact huniq a b oa ob t (by omega) (by omega) ha2 hb2 hda hdb)
    refine ⟨fun hn => h.1 fun j oj hj => hn j oj ((hget j oj).1 hj).1 ((hget j oj).1 hj).2, fun j oj c hji hoj hd hc => h.2 j oj c ((hget j oj).2 ⟨hji, hoj⟩) hd ?_⟩
    rw [List.getElem?_take, if_pos hji]
    exact hc
  intro fuel
  induction fuel with
  | zero =>
    intro listed e' w hsz hcnt hrest hval hold hclos s
    have hall := count_all ops.size (by omega : listedCount listed ops.size = ops.size)
    by_cases hk : k < ops.size
    · have h1 := hall k hk
      rw [hrest k (Nat.le_refl _)] at h1
      cases h1
    · have hkeq : k = ops.size := by omega
      have he : e' = envAt e (ops.toList.take k) cs := by
        funext t
        have hs := hspec k (Nat.le_refl _) t
        rw [List.take_of_length_le (by omega : cs.length ≤ k)] at hs
        by_cases hex : ∃ j oj, j < k ∧ ops[j]? = some oj ∧ oj.dst = some t
        · obtain ⟨j, oj, hj, hoj, hd⟩ := hex
          obtain ⟨c, hc⟩ : ∃ c, cs[j]? = some c := ⟨cs[j], List.getElem?_eq_getElem (by omega)⟩
          rw [hval j oj t c hj (hall j (by omega)) hoj hd hc, hs.2 j oj c hj hoj hd hc]
        · rw [hold t fun i oi hi _ hoi hd => hex ⟨i, oi, hi, hoi, hd⟩, hs.1 fun j oj hj hoj hd => hex ⟨j, oj, hj, hoj, hd⟩]
      have hw := htail.h w s
      rw [← he] at hw
      exact any_rest2 hok 0 k listed _ w (Nat.le_refl _) (by omega) hsz (fun i hi => by
        have h1 := hall i hi
        have hi' : i < listed.size := by omega
        simp only [Array.getD_eq_getD_getElem?, hi', getElem?_pos, Option.getD_some] at h1 ⊢
        rw [h1]
        simp
        omega) hw
  | succ fuel ih =>
    intro listed e' w hsz hcnt hrest hval hold hclos s
    by_cases hfirst : ∃ i, i < k ∧ listed.getD i false = false
    · -- some operation of the first k is not listed: the least such one is ready
      have hleast : ∃ i, (i < k ∧ listed.getD i false = false) ∧ ∀ j, j < i → j < k → listed.getD j false = true := by
        obtain ⟨n, hn, hmin⟩ := exists_least hfirst
        refine ⟨n, hn, fun j hj hjk => ?_⟩
        cases hb : listed.getD j false with
        | true => rfl
        | false => have := hmin j ⟨hjk, hb⟩; omega
      obtain ⟨i0, ⟨hi0, hun0⟩, hmin⟩ := hleast
      have hi0n : i0 < ops.size := by omega
      have hready0 : i0 ∈ Region.ready .any ops listed := by
        rw [mem_ready]
        refine ⟨?_, _, Array.getElem?_eq_getElem hi0n, fun x hx hb => ?_⟩
        · have : i0 < listed.size := by omega
          simpa [this] using hun0
        · have := opOk_edges2 (opOk_of2 hok (Array.getElem?_eq_getElem hi0n)) x hx hb
          exact hmin x.on this (by omega)
      refine ⟨fun h0 => (by rw [h0] at hready0; cases hready0), fun i hi => ?_⟩
      obtain ⟨hun, oi, hoi, hall⟩ := mem_ready.1 hi
      have hilt := (Array.getElem?_eq_some_iff.1 hoi).1
      have hilt' : i < listed.size := by omega
      have hun' : listed.getD i false = false := by simpa [hilt'] using hun
      have hik : i < k := by
        rcases Nat.lt_or_ge i k with h | h
        · exact h
        · have := bindsOn_listed ((opOk_rest2 (opOk_of2 hok hoi) (by omega)).1 i0 hi0) hall
          rw [hun0] at this
          cases this
      obtain ⟨c, hc, hd⟩ := hdet i oi hoi hik
      have hsame : ∀ t ∈ oi.looksAt ops, envAt e (ops.toList.take i) (cs.take i) t = e' t := fun t ht => by
        have hs := hspec i (by omega) t
        by_cases hex : ∃ j oj, j < k ∧ ops[j]? = some oj ∧ oj.dst = some t
        · obtain ⟨j, oj, hj, hoj, hdj⟩ := hex
          rcases (opOk_first2 (opOk_of2 hok hoi) hik hj (d := t) (by simp [hoj, hdj])).2 ht with ⟨hji, hbd⟩ | ⟨hij, hbd⟩
          · obtain ⟨cj, hcj⟩ : ∃ c, cs[j]? = some c := ⟨cs[j], List.getElem?_eq_getElem (by omega)⟩
            rw [hs.2 j oj cj hji hoj hdj hcj, hval j oj t cj hj (bindsOn_listed hbd hall) hoj hdj hcj]
          · have hjn : ¬ listed.getD j false = true := fun hl => by
              have := hclos j oj i hl hoj (hbd oj hoj)
              rw [hun'] at this
              cases this
            rw [hs.1 fun m om hm hom hd => by
              have := huniq m j om oj t (by omega) hj hom hoj hd hdj
              omega, hold t fun m om hm hl hom hd => by
              have := huniq m j om oj t hm hj hom hoj hd hdj
              subst this
              exact hjn hl]
        · rw [hs.1 fun j oj hj hoj hd => hex ⟨j, oj, by omega, hoj, hd⟩, hold t fun j oj hj _ hoj hd => hex ⟨j, oj, hj, hoj, hd⟩]
      have hd' := det_congr (opOk_select2 (opOk_of2 hok hoi)) hsame hd
      refine det_wpOp hoi hd' s fun w' s' => ?_
      have hset : ∀ j, (listed.setIfInBounds i true).getD j false = if i = j then true else listed.getD j false := fun j => by
        by_cases hij : i = j
        · subst hij; simp [hilt']
        · rw [getD_set_ne false hij, if_neg hij]
      refine ih _ _ w' (by simpa using hsz) ?_ (fun j hj => ?_) (fun j oj d cj hj hl hoj hdj hcj => ?_) (fun t ht => ?_) (fun j oj m hl hoj hb => ?_) s'
      · rw [count_set hilt' hun', if_pos hilt]; omega
      · rw [hset, if_neg (by omega)]; exact hrest j hj
      · rw [hset] at hl
        by_cases hij : i = j
        · subst hij
          rw [hoi] at hoj
          injection hoj with hoj
          subst hoj
          rw [hc] at hcj
          injection hcj with hcj
          subst hcj
          rw [hdj]
          show upd e' d c d = c
          rw [upd_apply, if_pos rfl]
        · rw [if_neg hij] at hl
          have := hval j oj d cj hj hl hoj hdj hcj
          cases hdi : oi.dst with
          | none => exact this
          | some d' =>
            show upd e' d' c d = cj
            rw [upd_apply, if_neg]
            · exact this
            · intro heq
              subst heq
              exact hij (huniq i j oi oj d hik hj hoi hoj hdi hdj)
      · have h1 : e' t = e t := hold t fun j oj hj hl hoj => ht j oj hj (by rw [hset, hl]; split <;> rfl) hoj
        have h2 := ht i oi hik (by rw [hset, if_pos rfl]) hoi
        cases hdi : oi.dst with
        | none => exact h1
        | some d' =>
          show upd e' d' c t = e t
          rw [upd_apply, if_neg]
          · exact h1
          · intro heq
            exact h2 (by rw [hdi, heq])
      · rw [hset]
        by_cases him : i = m
        · rw [if_pos him]
        · rw [if_neg him]
          rw [hset] at hl
          by_cases hij : i = j
          · subst hij
            rw [hoi] at hoj
            injection hoj with hoj
            subst hoj
            exact bindsOn_listed hb hall
          · rw [if_neg hij] at hl
            exact hclos j oj m hl hoj hb
    · -- all of the first k are listed
      have hlist : ∀ i, i < k → listed.getD i false = true := fun i hi => by
        cases hb : listed.getD i false with
        | true => rfl
        | false => exact absurd ⟨i, hi, hb⟩ hfirst
      have he : e' = envAt e (ops.toList.take k) cs := by
        funext t
        have hs := hspec k (Nat.le_refl _) t
        rw [List.take_of_length_le (by omega : cs.length ≤ k)] at hs
        by_cases hex : ∃ j oj, j < k ∧ ops[j]? = some oj ∧ oj.dst = some t
        · obtain ⟨j, oj, hj, hoj, hd⟩ := hex
          obtain ⟨c, hc⟩ : ∃ c, cs[j]? = some c := ⟨cs[j], List.getElem?_eq_getElem (by omega)⟩
          rw [hval j oj t c hj (hlist j hj) hoj hd hc, hs.2 j oj c hj hoj hd hc]
        · rw [hold t fun i oi hi _ hoi hd => hex ⟨i, oi, hi, hoi, hd⟩, hs.1 fun j oj hj hoj hd => hex ⟨j, oj, hj, hoj, hd⟩]
      have hcount : listedCount listed ops.size = k := by
        have hsplit : ∀ n, (∀ i, k ≤ i → listed.getD i false = false) → (∀ i, i < k → listed.getD i false = true) → listedCount listed n = min n k := by
          intro n h1 h2
          induction n with
          | zero => simp [listedCount]
          | succ n ihn =>
            rw [count_succ, ihn]
            by_cases hnk : n < k
            · rw [h2 n hnk]; simp; omega
            · rw [h1 n (by omega)]; simp; omega
        rw [hsplit _ hrest hlist]; omega
      have hw := htail.h w s
      rw [← he] at hw
      refine any_rest2 hok (fuel + 1) k listed _ w (Nat.le_refl _) (by omega) hsz (fun i hi => ?_) hw
      have hi' : i < listed.size := by omega
      by_cases hik : i < k
      · have h1 := hlist i hik
        simp only [Array.getD_eq_getD_getElem?, hi', getElem?_pos, Option.getD_some] at h1 ⊢
        rw [h1]; simp [hik]
      · have h1 := hrest i (by omega)
        simp only [Array.getD_eq_getD_getElem?, hi', getElem?_pos, Option.getD_some] at h1 ⊢
        rw [h1]; simp [hik]

/-- A REGION THAT DRAWS: the first k operations give known values, in whatever order; the rest come after them, one after the other. -/
theorem gc_draw2 {id : Nat} {l : List Oper} (k : Nat) (hm : P.follows .mixedOrders = true) (hok : drawOkB l.toArray k = true)
    (h : GD P l.toArray N w0 L (fun e' => GW P l.toArray Q N w0 L (l.drop k) e') (l.take k) e) : GC P Q N w0 L (.region id l.toArray true) e := ⟨fun w s => by
  obtain ⟨cs, hl, hdet, htail⟩ := gd_vals _ _ h
  have hkn : k ≤ l.length := by
    unfold drawOkB at hok
    rw [Bool.and_eq_true] at hok
    simpa using Nat.le_of_ble_eq_true hok.1
  have hlk : cs.length = k := by rw [hl, List.length_take]; omega
  refine wp_region_any hm (any_first2 hok hlk (fun i o hi hik => ?_) htail l.toArray.size _ e _ (by simp) ?_ ?_ ?_ (fun _ _ => rfl) (fun j oj m hl' => by by_cases hi : j < l.length <;> simp [hi] at hl') (s.ext (Ext.drawn w _)))
  · obtain ⟨c, hc, hd⟩ := hdet i o (by rw [List.getElem?_take, if_pos hik]; simpa using hi)
    refine ⟨c, hc, ?_⟩
    rw [List.take_take, Nat.min_eq_left (by omega)] at hd
    exact hd
  · have : listedCount (Array.replicate l.toArray.size false) l.toArray.size = 0 := by
      unfold listedCount
      rw [List.length_eq_zero_iff, List.filter_eq_nil_iff]
      intro i _
      by_cases hi : i < l.length <;> simp [hi]
    omega
  · intro i _
    by_cases hi : i < l.length <;> simp [hi]
  · intro i o d c _ hl'
    by_cases hi : i < l.length <;> simp [hi] at hl'⟩


end
end Go.Proofs.YteiboodeepjanaaGreat
