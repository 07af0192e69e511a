/- Texts in one file: S58 QR Shop Open4. -/
import Derived.Test.YtljibjlkjelpbaaGreatDoorJF
import Derived.Test.YtljibjlkjelpbaaGreatDoorJG
/- Returns and charges: how they lie; what returns come to. No program in sight. -/
namespace Go.Proofs.YtljibjlkjelpbaaGreatDoor
open Go.RowKit

structure Ret where
  (tick ply op : Int)
  deriving DecidableEq
structure Chg where
  (who tick ply op amt : Int)
  deriving DecidableEq
def rRet : Rp Ret where
  size := 3
  rep _ _ b cs := cs = [.int .i64 b.tick, .int .i64 b.ply, .int .i64 b.op] ∧ inI64 b.tick ∧ inI64 b.ply ∧ inI64 b.op
  len h := by rw [h.1]; rfl
  mono _ h := h
  grow _ h := h
def rChg : Rp Chg where
  size := 5
  rep _ _ b cs := cs = [.int .i64 b.who, .int .i64 b.tick, .int .i64 b.ply, .int .i64 b.op, .int .i64 b.amt] ∧ inI64 b.who ∧ inI64 b.tick ∧ inI64 b.ply ∧ inI64 b.op ∧ inI64 b.amt
  len h := by rw [h.1]; rfl
  mono _ h := h
  grow _ h := h
def encC (c : Chg) : List Value := [.int .i64 c.who, .int .i64 c.tick, .int .i64 c.ply, .int .i64 c.op, .int .i64 c.amt]
def encR (c : Ret) : List Value := [.int .i64 c.tick, .int .i64 c.ply, .int .i64 c.op]
def retF (r : Ret) : List Int := [r.tick, r.ply, r.op]
theorem retF_inj (a b : Ret) (h : retF a = retF b) : a = b := by
  cases a; cases b
  simp only [retF, List.cons.injEq, and_true] at h
  obtain ⟨h1, h2, h3⟩ := h
  rw [h1, h2, h3]

/-! ### Who was paid -/
def bunAt (bs : List Bun) (t : Int) : Option Bun := bs.find? fun b => decide (b.tick = t)
def bunZ : Bun := ⟨0, 0, 0, 0, 0, 0⟩
def whoAt (ps : List Scn) (t o : Int) : Option Scn := ps.find? fun x => decide (x.tick = t) && decide (x.op = o)
def trE (n : Nat) (bs : List Bun) (ps : List Scn) (r : Ret) : Int := match bunAt bs r.tick with
  | none => 6
  | some b => if r.ply < b.fr ∨ r.ply ≥ b.upto ∨ r.op < 0 ∨ r.op ≥ n then 3 else match whoAt ps r.tick r.op with
    | none => 6
    | some _ => 0
def trW (n : Nat) (bs : List Bun) (ps : List Scn) (r : Ret) : Int := if trE n bs ps r = 0 then ((whoAt ps r.tick r.op).map (·.who)).getD 0 else 0
def trB (n : Nat) (bs : List Bun) (ps : List Scn) (r : Ret) : Bun := if trE n bs ps r = 0 then (bunAt bs r.tick).getD bunZ else bunZ
structure Traced (n : Nat) (bs : List Bun) (ps : List Scn) (r : Ret) (b : Bun) (x : Scn) : Prop where
  bun : bunAt bs r.tick = some b
  ply : b.fr ≤ r.ply ∧ r.ply < b.upto
  op : 0 ≤ r.op ∧ r.op < n
  who : whoAt ps r.tick r.op = some x
  w : trW n bs ps r = x.who
  b : trB n bs ps r = b
theorem trE_zero {n : Nat} {bs : List Bun} {ps : List Scn} {r : Ret} (h : trE n bs ps r = 0) : ∃ b x, Traced n bs ps r b x := by
  have h' := h
  unfold trE at h
  split at h
  · cases h
  · rename_i b hb
    split at h
    · cases h
    · rename_i hr
      split at h
      · cases h
      · rename_i x hx
        refine ⟨b, x, hb, by omega, by omega, hx, ?_, ?_⟩
        · unfold trW; rw [if_pos h', hx]; rfl
        · unfold trB; rw [if_pos h', hb]; rfl
theorem trE_mk {n : Nat} {bs : List Bun} {ps : List Scn} {r : Ret} {b : Bun} {x : Scn} (hb : bunAt bs r.tick = some b) (h1 : b.fr ≤ r.ply ∧ r.ply < b.upto) (h2 : 0 ≤ r.op ∧ r.op < n) (hx : whoAt ps r.tick r.op = some x) : trE n bs ps r = 0 := by
  unfold trE
  rw [hb]
  dsimp only
  rw [if_neg (by omega), hx]
theorem trE_bad {n : Nat} {bs : List Bun} {ps : List Scn} {r : Ret} (h : ¬ trE n bs ps r = 0) : trW n bs ps r = 0 ∧ trB n bs ps r = bunZ := by
  unfold trW trB
  rw [if_neg h, if_neg h]
  exact ⟨rfl, rfl⟩
theorem bunAt_mem {bs : List Bun} {t : Int} {b : Bun} (h : bunAt bs t = some b) : b ∈ bs ∧ b.tick = t := ⟨List.mem_of_find?_eq_some h, by simpa using List.find?_some h⟩
theorem whoAt_mem {ps : List Scn} {t o : Int} {x : Scn} (h : whoAt ps t o = some x) : x ∈ ps ∧ x.tick = t ∧ x.op = o := by
  refine ⟨List.mem_of_find?_eq_some h, ?_⟩
  have := List.find?_some h
  simpa using this
theorem cnt_bun {bs : List Bun} {t : Int} {b : Bun} (h : bunAt bs t = some b) : cntAt bs t = b.upto - b.fr := by
  unfold cntAt
  unfold bunAt at h
  rw [h]
  rfl

/-! ### What is charged -/
def frAt (bs : List Bun) (t : Int) : Int := ((bunAt bs t).map (·.fr)).getD 0
def shareOf (r le : Int) (l : List Opn) (bs : List Bun) (x : Ret) : Int := (shL (amtF r le l bs (x.tick, x.op)) (cntAt bs x.tick).toNat).getD (x.ply - frAt bs x.tick).toNat 0
def chgOf (r le : Int) (l : List Opn) (bs : List Bun) (ps : List Scn) (x : Ret) : Chg := ⟨trW l.length bs ps x, x.tick, x.ply, x.op, shareOf r le l bs x⟩
def okR (n : Nat) (bs : List Bun) (ps : List Scn) (x : Ret) : Bool := decide (trE n bs ps x = 0)
section
variable (ok : Ret → Bool)
def nextD (D : List Ret) (x : Ret) : List Ret := if ok x = true ∧ ¬ x ∈ D then D ++ [x] else D
def doneL (xs : List Ret) : List Ret := xs.foldl (nextD ok) []
def outR (D : List Ret) (x : Ret) : Int := if ok x = false then 3 else if x ∈ D then 2 else 1
def outsR : List Ret → List Ret → List Int
  | _, [] => []
  | D, x :: xs => outR ok D x :: outsR (nextD ok D x) xs
end
section
variable {ok : Ret → Bool}
theorem doneL_snoc (xs : List Ret) (x : Ret) : doneL ok (xs ++ [x]) = nextD ok (doneL ok xs) x := by
  unfold doneL
  rw [List.foldl_append]
  rfl
theorem outsR_snoc (x : Ret) : ∀ (xs D : List Ret), outsR ok D (xs ++ [x]) = outsR ok D xs ++ [outR ok (xs.foldl (nextD ok) D) x]
  | [], _ => rfl
  | y :: xs, D => by
    show _ :: outsR ok _ (xs ++ [x]) = _
    rw [outsR_snoc x xs]
    rfl
theorem outsR_len : ∀ (xs D : List Ret), (outsR ok D xs).length = xs.length
  | [], _ => rfl
  | _ :: xs, _ => congrArg (· + 1) (outsR_len xs _)
theorem outsR_append : ∀ (xs ys D : List Ret), outsR ok D (xs ++ ys) = outsR ok D xs ++ outsR ok (xs.foldl (nextD ok) D) ys
  | [], _, _ => rfl
  | x :: xs, ys, D => by
    show _ :: outsR ok _ (xs ++ ys) = _
    rw [outsR_append xs ys]
    rfl
theorem outsR_at' : ∀ {xs D : List Ret} {i : Nat} (hi : i < xs.length), (outsR ok D xs).getD i 0 = outR ok ((xs.take i).foldl (nextD ok) D) xs[i]
  | x :: xs, D, 0, _ => rfl
  | x :: xs, D, i + 1, hi => by
    show (outsR ok (nextD ok D x) xs).getD i 0 = _
    rw [outsR_at' (by simpa using hi)]
    rfl
theorem done_ind' {φ : List Ret → Prop} (step : ∀ D x, φ D → ok x = true → ¬ x ∈ D → φ (D ++ [x])) : ∀ (xs D : List Ret), φ D → φ (xs.foldl (nextD ok) D)
  | [], _, h => h
  | x :: xs, D, h => done_ind' step xs (nextD ok D x) (by
      unfold nextD
      split
      · rename_i h1; exact step D x h h1.1 h1.2
      · exact h)
theorem done_nodup (xs : List Ret) : (doneL ok xs).Nodup := done_ind' (φ := fun D => D.Nodup) (fun D x h _ hx => by
  rw [List.nodup_append]
  exact ⟨h, by simp, fun a ha b hb => by
    rw [List.mem_singleton] at hb
    subst hb
    rintro rfl
    exact hx ha⟩) xs [] List.nodup_nil
theorem done_mem' : ∀ (xs D : List Ret) (y : Ret), y ∈ xs.foldl (nextD ok) D ↔ y ∈ D ∨ (y ∈ xs ∧ ok y = true)
  | [], D, y => by simp
  | x :: xs, D, y => by
    rw [List.foldl_cons, done_mem' xs]
    unfold nextD
    by_cases h : ok x = true ∧ ¬ x ∈ D
    · rw [if_pos h, List.mem_append, List.mem_singleton, List.mem_cons]
      constructor
      · rintro ((h1 | rfl) | h1)
        · exact .inl h1
        · exact .inr ⟨.inl rfl, h.1⟩
        · exact .inr ⟨.inr h1.1, h1.2⟩
      · rintro (h1 | ⟨rfl | h1, h2⟩)
        · exact .inl (.inl h1)
        · exact .inl (.inr rfl)
        · exact .inr ⟨h1, h2⟩
    · rw [if_neg h, List.mem_cons]
      constructor
      · rintro (h1 | h1)
        · exact .inl h1
        · exact .inr ⟨.inr h1.1, h1.2⟩
      · rintro (h1 | ⟨rfl | h1, h2⟩)
        · exact .inl h1
        · by_cases hd : y ∈ D
          · exact .inl hd
          · exact absurd ⟨h2, hd⟩ h
        · exact .inr ⟨h1, h2⟩
theorem done_mem {xs : List Ret} {y : Ret} : y ∈ doneL ok xs ↔ y ∈ xs ∧ ok y = true := by
  unfold doneL
  rw [done_mem']
  simp
theorem done_len' : ∀ (xs D : List Ret), (xs.foldl (nextD ok) D).length ≤ D.length + xs.length
  | [], D => by simp
  | x :: xs, D => by
    have h1 := done_len' xs (nextD ok D x)
    have h2 : (nextD ok D x).length ≤ D.length + 1 := by unfold nextD; split <;> simp
    simp only [List.foldl_cons, List.length_cons]
    omega
theorem done_len (xs : List Ret) : (doneL ok xs).length ≤ xs.length := by
  have := done_len' (ok := ok) xs []
  unfold doneL
  simpa using this
theorem done_again' {D : List Ret} : ∀ (ys : List Ret), (∀ y ∈ ys, ok y = true → y ∈ D) → ys.foldl (nextD ok) D = D
  | [], _ => rfl
  | y :: ys, h => by
    have e : nextD ok D y = D := by
      unfold nextD
      rw [if_neg]
      rintro ⟨h1, h2⟩
      exact h2 (h y List.mem_cons_self h1)
    rw [List.foldl_cons, e]
    exact done_again' ys fun z hz => h z (List.mem_cons_of_mem _ hz)
/-- All returns once more charge nothing more. -/
theorem done_twice (xs : List Ret) : doneL ok (xs ++ xs) = doneL ok xs := by
  have : doneL ok (xs ++ xs) = xs.foldl (nextD ok) (doneL ok xs) := by unfold doneL; rw [List.foldl_append]
  rw [this]
  exact done_again' xs fun y hy h => done_mem.2 ⟨hy, h⟩
theorem outs_again' {D : List Ret} : ∀ (ys : List Ret), (∀ y ∈ ys, ok y = true → y ∈ D) → outsR ok D ys = ys.map fun y => if ok y = false then 3 else 2
  | [], _ => rfl
  | y :: ys, h => by
    have e : nextD ok D y = D := by
      unfold nextD
      rw [if_neg]
      rintro ⟨h1, h2⟩
      exact h2 (h y List.mem_cons_self h1)
    show outR ok D y :: outsR ok (nextD ok D y) ys = _
    rw [e, outs_again' ys fun z hz => h z (List.mem_cons_of_mem _ hz), List.map_cons]
    congr 1
    unfold outR
    by_cases hy : ok y = false
    · rw [if_pos hy, if_pos hy]
    · rw [if_neg hy, if_neg hy, if_pos (h y List.mem_cons_self (by simpa using hy))]
theorem outs_twice (xs : List Ret) : outsR ok [] (xs ++ xs) = outsR ok [] xs ++ xs.map fun y => if ok y = false then 3 else 2 := by
  rw [outsR_append]
  congr 1
  exact outs_again' xs fun y hy h => done_mem.2 ⟨hy, h⟩
theorem done_perm {xs ys : List Ret} (h : ∀ y, y ∈ xs ↔ y ∈ ys) : (doneL ok xs).Perm (doneL ok ys) :=
  (List.perm_ext_iff_of_nodup (done_nodup xs) (done_nodup ys)).2 fun y => by rw [done_mem, done_mem, h y]
theorem done_all {xs : List Ret} (hn : xs.Nodup) (h : ∀ y ∈ xs, ok y = true) : doneL ok xs = xs := by
  have : ∀ (ys D : List Ret), (D ++ ys).Nodup → (∀ y ∈ ys, ok y = true) → ys.foldl (nextD ok) D = D ++ ys := by
    intro ys
    induction ys with
    | nil => intro D _ _; simp
    | cons y ys ih =>
      intro D hD ho
      have hy : ¬ y ∈ D := fun hc => by
        rw [List.nodup_append] at hD
        exact hD.2.2 y hc y List.mem_cons_self rfl
      have e : nextD ok D y = D ++ [y] := by unfold nextD; rw [if_pos ⟨ho y List.mem_cons_self, hy⟩]
      rw [List.foldl_cons, e, ih (D ++ [y]) (by simpa using hD) fun z hz => ho z (List.mem_cons_of_mem _ hz)]
      simp
  have := this xs [] (by simpa using hn) h
  simpa [doneL] using this
end
def chgL (r le : Int) (l : List Opn) (bs : List Bun) (ps : List Scn) (xs : List Ret) : List Chg := (doneL (okR l.length bs ps) xs).map (chgOf r le l bs ps)

/-! ### Nets -/
def satI (a b : Int) : Int := if moneyB a = true then a + b else a
def satF (cs : List Chg) (k : Int) : Int := cs.foldl (fun a c => if c.who = k then satI a c.amt else a) 0
theorem satF_snoc (cs : List Chg) (c : Chg) (k : Int) : satF (cs ++ [c]) k = if c.who = k then satI (satF cs k) c.amt else satF cs k := by
  unfold satF
  rw [List.foldl_append]
  rfl
def chgE (c : Chg) : Bool := moneyB c.amt
def netPE (cs : List Chg) (ps : List Pay) (i : Nat) : Int := match ps[i]? with
  | some p => if ((ps.take i).any fun q => decide (q.who = p.who)) = true then 7 else if moneyB p.work = false ∨ moneyB p.top = false ∨ moneyB (p.work + p.top) = false ∨ moneyB (satF cs p.who) = false then 3 else 0
  | none => 0
def netE (cs : List Chg) (ps : List Pay) : Int := if cs.all chgE = false then 3 else firstE (netPE cs ps) ps.length
def netV (cs : List Chg) (p : Pay) : Int := max (p.work - satF cs p.who) 0 + p.top
def netL (cs : List Chg) (ps : List Pay) : List Int := ps.map (netV cs)
theorem sat_range {cs : List Chg} (h : cs.all chgE = true) (k : Int) : 0 ≤ satF cs k ∧ satF cs k ≤ 2199023255552 := by
  have : ∀ (cs : List Chg) (a : Int), cs.all chgE = true → 0 ≤ a ∧ a ≤ 2199023255552 → 0 ≤ cs.foldl (fun a c => if c.who = k then satI a c.amt else a) a ∧ cs.foldl (fun a c => if c.who = k then satI a c.amt else a) a ≤ 2199023255552 := by
    intro cs
    induction cs with
    | nil => intro a _ h; exact h
    | cons c cs ih =>
      intro a hc ha
      rw [List.all_cons, Bool.and_eq_true] at hc
      have h1 := money_iff.1 hc.1
      rw [List.foldl_cons]
      have hn : 0 ≤ (if c.who = k then satI a c.amt else a) ∧ (if c.who = k then satI a c.amt else a) ≤ 2199023255552 := by
        by_cases hk : c.who = k
        · rw [if_pos hk]
          unfold satI
          by_cases h2 : moneyB a = true
          · rw [if_pos h2]
            have := money_iff.1 h2
            omega
          · rw [if_neg h2]
            exact ha
        · rw [if_neg hk]
          exact ha
      exact ih _ hc.2 hn
  exact this cs 0 h ⟨by decide, by decide⟩
/-- The true sum of the charges of a worker. -/
def sumW (cs : List Chg) (k : Int) : Int := sumI ((cs.filter fun c => decide (c.who = k)).map (·.amt))
theorem sumW_snoc (cs : List Chg) (c : Chg) (k : Int) : sumW (cs ++ [c]) k = if c.who = k then sumW cs k + c.amt else sumW cs k := by
  unfold sumW
  rw [List.filter_append]
  by_cases h : c.who = k
  · simp [h, sumI_snoc]
  · simp [h]
theorem sumW_nonneg {cs : List Chg} (h : cs.all chgE = true) (k : Int) : 0 ≤ sumW cs k := sumI_nonneg fun x hx => by
  obtain ⟨c, hc, rfl⟩ := List.mem_map.1 hx
  exact (money_iff.1 (List.all_eq_true.1 h c (List.mem_filter.1 hc).1)).1
theorem sat_sum : ∀ {cs : List Chg} (_ : cs.all chgE = true) (k : Int), (moneyB (satF cs k) = true → satF cs k = sumW cs k) ∧ (moneyB (satF cs k) = false → sumW cs k > 1099511627776) := by
  intro cs
  suffices h : ∀ n, n ≤ cs.length → cs.all chgE = true → ∀ k : Int, (moneyB (satF (cs.take n) k) = true → satF (cs.take n) k = sumW (cs.take n) k) ∧ (moneyB (satF (cs.take n) k) = false → sumW (cs.take n) k > 1099511627776) by
    intro hc k
    have := h cs.length (Nat.le_refl _) hc k
    rwa [List.take_length] at this
  intro n
  induction n with
  | zero =>
    intro _ _ k
    rw [List.take_zero]
    exact ⟨fun _ => rfl, fun h => by cases h⟩
  | succ n ih =>
    intro hn hc k
    obtain ⟨h1, h2⟩ := ih (by omega) hc k
    have ha := money_iff.1 (List.all_eq_true.1 hc cs[n] (List.getElem_mem (by omega)))
    have h0 := sumW_nonneg (cs := cs.take n) (List.all_eq_true.2 fun c hcc => List.all_eq_true.1 hc c (List.mem_of_mem_take hcc)) k
    rw [List.take_succ_eq_append_getElem (by omega), satF_snoc, sumW_snoc]
    by_cases hk : cs[n].who = k
    · rw [if_pos hk, if_pos hk]
      unfold satI
      cases hm : moneyB (satF (cs.take n) k) with
      | true =>
        rw [if_pos rfl, h1 hm]
        refine ⟨fun _ => rfl, fun hf => ?_⟩
        have : ¬ (0 ≤ sumW (cs.take n) k + cs[n].amt ∧ sumW (cs.take n) k + cs[n].amt ≤ 1099511627776) := fun hc => by
          rw [money_iff.2 hc] at hf
          cases hf
        omega
      | false =>
        rw [if_neg (by decide)]
        have := h2 hm
        refine ⟨fun hf => ?_, fun _ => by omega⟩
        rw [hm] at hf
        cases hf
    · rw [if_neg hk, if_neg hk]
      exact ⟨h1, h2⟩
end Go.Proofs.YtljibjlkjelpbaaGreatDoor

/- Plain facts of the chapter 58: sums of charges. No program in sight. -/
namespace Go.Proofs.YtljibjlkjelpbaaGreatDoor
open Go.RowKit

/-! ### Sums of shares -/
def shS (a : Int) (n k : Nat) : Int := (k : Int) * (a / n) + min (k : Int) (a % n)
theorem shS_next (a : Int) {n : Nat} (hn : 0 < n) (k : Nat) : shS a n (k + 1) = shS a n k + shF a n k := by
  unfold shS shF
  have h1 : ((k + 1 : Nat) : Int) * (a / n) = (k : Int) * (a / n) + a / n := by
    rw [Int.natCast_add, Int.add_mul]
    simp
  have h2 : 0 ≤ a % (n : Int) := Int.emod_nonneg _ (by omega)
  rw [h1]
  split <;> omega
theorem shS_full (a : Int) {n : Nat} (hn : 0 < n) : shS a n n = a := by
  unfold shS
  have h1 := Int.mul_ediv_add_emod a n
  have h2 : a % (n : Int) < n := Int.emod_lt_of_pos _ (by omega)
  rw [Int.min_eq_right (by omega)]
  exact h1
theorem shS_zero (a : Int) {n : Nat} (hn : 0 < n) : shS a n 0 = 0 := by
  have h2 : 0 ≤ a % (n : Int) := Int.emod_nonneg _ (by omega)
  unfold shS
  rw [Int.min_eq_left (by simpa using h2)]
  simp
theorem sh_sum (a : Int) {n : Nat} (hn : 0 < n) : ∀ k, sumI ((List.range k).map (shF a n)) = shS a n k
  | 0 => (shS_zero a hn).symm
  | k + 1 => by rw [List.range_succ, List.map_append, sumI_append, sh_sum a hn k, shS_next a hn]; simp [sumI]
theorem shF_nonneg {a : Int} {n : Nat} (h0 : 0 ≤ a) (i : Nat) : 0 ≤ shF a n i := by
  have h3 : 0 ≤ a / (n : Int) := Int.ediv_nonneg h0 (by omega)
  unfold shF
  split <;> omega
theorem shF_le {a : Int} {n : Nat} (hn : 0 < n) (h0 : 0 ≤ a) {i : Nat} (hi : i < n) : shF a n i ≤ a := by
  have h1 := sh_sum a hn n
  rw [shS_full a hn] at h1
  have h2 := sum_sub (f := shF a n) (fun p => shF_nonneg h0 p) [i] (List.range n) (by simp) (fun x hx => by rw [List.mem_singleton] at hx; subst hx; exact List.mem_range.2 hi)
  rw [h1] at h2
  simpa [sumI] using h2
theorem shL_at {a : Int} {n k : Nat} (hk : k < n) : (shL a n).getD k 0 = shF a n k := by simp [shL, hk]

/-! ### A shop in order -/
structure Plies (bs : List Bun) : Prop where
  h : ∀ b ∈ bs, 1 ≤ b.upto - b.fr ∧ b.upto - b.fr ≤ 40
theorem ScanOk.bundles {e : Int} {bs : List Bun} {ws : List Wrk} (h : ScanOk e bs ws) : Plies bs := ⟨fun b hb => by
  obtain ⟨k, hk, rfl⟩ := List.getElem_of_mem hb
  exact h.plies k hk⟩
section
variable {r le : Int} {l : List Opn} {bs : List Bun} {ps : List Scn}
theorem share_at {x : Ret} {b : Bun} {y : Scn} (hp : Plies bs) (h : Traced l.length bs ps x b y) : ∃ n k : Nat, b.upto - b.fr = n ∧ x.ply - b.fr = k ∧ k < n ∧ 1 ≤ n ∧ n ≤ 40 ∧ shareOf r le l bs x = shF (amtF r le l bs (x.tick, x.op)) n k := by
  have h1 := hp.h b (bunAt_mem h.bun).1
  have h2 := h.ply
  refine ⟨(b.upto - b.fr).toNat, (x.ply - b.fr).toNat, by omega, by omega, by omega, by omega, by omega, ?_⟩
  unfold shareOf frAt
  rw [cnt_bun h.bun, h.bun]
  show (shL _ _).getD (x.ply - b.fr).toNat 0 = _
  exact shL_at (by omega)
theorem share_range {x : Ret} (hp : Plies bs) (h : okR l.length bs ps x = true) : 0 ≤ shareOf r le l bs x ∧ shareOf r le l bs x ≤ 1000000000 := by
  obtain ⟨b, y, ht⟩ := trE_zero (of_decide_eq_true h)
  obtain ⟨n, k, _, _, hk, hn, _, he⟩ := share_at (r := r) (le := le) hp ht
  have ha := amtF_range r le l bs (x.tick, x.op)
  rw [he]
  have h1 := shF_nonneg (n := n) ha.1 k
  have h2 := shF_le (by omega) ha.1 hk
  omega
/-- The sum of the charges for an operation on a bundle. -/
def sumTO (cs : List Chg) (t o : Int) : Int := sumI ((cs.filter fun c => decide (c.tick = t ∧ c.op = o)).map (·.amt))
theorem sumTO_snoc (cs : List Chg) (c : Chg) (t o : Int) : sumTO (cs ++ [c]) t o = if c.tick = t ∧ c.op = o then sumTO cs t o + c.amt else sumTO cs t o := by
  unfold sumTO
  rw [List.filter_append]
  by_cases h : c.tick = t ∧ c.op = o
  · simp [h, sumI_snoc]
  · rw [if_neg h]
    simp [h]
theorem sumTO_map (D : List Ret) (t o : Int) : sumTO (D.map (chgOf r le l bs ps)) t o = sumI ((D.filter fun x => decide (x.tick = t ∧ x.op = o)).map (shareOf r le l bs)) := by
  unfold sumTO
  rw [List.filter_map, List.map_map]
  rfl
theorem sum_pos {t o : Int} {b : Bun} {n : Nat} (hp : Plies bs) (hb : bunAt bs t = some b) (hn : b.upto - b.fr = n) (D : List Ret) (hD : ∀ x ∈ D, okR l.length bs ps x = true ∧ x.tick = t ∧ x.op = o) :
    sumI (D.map (shareOf r le l bs)) = sumI ((D.map fun x => (x.ply - b.fr).toNat).map (shF (amtF r le l bs (t, o)) n)) := by
  rw [List.map_map]
  congr 1
  apply List.map_congr_left
  intro x hx
  obtain ⟨h1, h2, h3⟩ := hD x hx
  obtain ⟨b', y, ht⟩ := trE_zero (of_decide_eq_true h1)
  obtain ⟨n', k, e1, e2, _, _, _, he⟩ := share_at (r := r) (le := le) hp ht
  have hbb : b' = b := by
    have := ht.bun
    rw [h2, hb] at this
    exact (Option.some.inj this).symm
  subst hbb
  rw [he, h2, h3]
  show _ = shF (amtF r le l bs (t, o)) n (x.ply - b'.fr).toNat
  have e3 : n' = n := by omega
  have e4 : k = (x.ply - b'.fr).toNat := by omega
  rw [e3, e4]
theorem pos_of {t o : Int} {b : Bun} {n : Nat} (hb : bunAt bs t = some b) (hn : b.upto - b.fr = n) {x : Ret} (hx : okR l.length bs ps x = true ∧ x.tick = t ∧ x.op = o) : b.fr ≤ x.ply ∧ x.ply < b.upto := by
  obtain ⟨h1, h2, _⟩ := hx
  obtain ⟨b', y, ht⟩ := trE_zero (of_decide_eq_true h1)
  have hbb : b' = b := by
    have := ht.bun
    rw [h2, hb] at this
    exact (Option.some.inj this).symm
  subst hbb
  exact ht.ply
/-- All charges for an operation on a bundle together are at most what it paid. -/
theorem sum_most {t o : Int} {b : Bun} (hp : Plies bs) (hb : bunAt bs t = some b) (xs : List Ret) : sumTO (chgL r le l bs ps xs) t o ≤ amtF r le l bs (t, o) := by
  have h1 := hp.h b (bunAt_mem hb).1
  obtain ⟨n, hn⟩ : ∃ n : Nat, b.upto - b.fr = n := ⟨(b.upto - b.fr).toNat, by omega⟩
  unfold chgL
  rw [sumTO_map]
  have hD : ∀ x ∈ (doneL (okR l.length bs ps) xs).filter fun x => decide (x.tick = t ∧ x.op = o), okR l.length bs ps x = true ∧ x.tick = t ∧ x.op = o := fun x hx => by
    obtain ⟨g1, g2⟩ := List.mem_filter.1 hx
    exact ⟨(done_mem.1 g1).2, of_decide_eq_true g2⟩
  have hnd : ((doneL (okR l.length bs ps) xs).filter fun x => decide (x.tick = t ∧ x.op = o)).Nodup := (done_nodup xs).filter _
  generalize (doneL (okR l.length bs ps) xs).filter (fun x => decide (x.tick = t ∧ x.op = o)) = D at hD hnd
  rw [sum_pos hp hb hn D hD]
  have hfull := sh_sum (amtF r le l bs (t, o)) (n := n) (by omega) n
  rw [shS_full _ (by omega)] at hfull
  refine Int.le_trans ?_ (Int.le_of_eq hfull)
  refine sum_sub (f := shF (amtF r le l bs (t, o)) n) (fun p => shF_nonneg (amtF_range r le l bs (t, o)).1 p) _ _ ?_ fun p hp => ?_
  · unfold List.Nodup
    rw [List.pairwise_map]
    refine List.Pairwise.imp_of_mem (fun {x y} hx hy hne he => ?_) hnd
    have px := pos_of hb hn (hD x hx)
    have py := pos_of hb hn (hD y hy)
    obtain ⟨_, a1, a2⟩ := hD x hx
    obtain ⟨_, b1, b2⟩ := hD y hy
    apply hne
    cases x; cases y
    simp only at a1 a2 b1 b2 px py he
    subst a1 a2 b1 b2
    congr 1
    omega
  · obtain ⟨x, hx, rfl⟩ := List.mem_map.1 hp
    have px := pos_of hb hn (hD x hx)
    exact List.mem_range.2 (by omega)
/-- The returns of all plies of a bundle. -/
def allP (t fr o : Int) (n : Nat) : List Ret := (List.range n).map fun i => ⟨t, fr + (i : Nat), o⟩
theorem allP_len (t fr o : Int) (n : Nat) : (allP t fr o n).length = n := by simp [allP]
theorem allP_succ (t fr o : Int) (n : Nat) : allP t fr o (n + 1) = allP t fr o n ++ [⟨t, fr + (n : Nat), o⟩] := by
  unfold allP
  rw [List.range_succ, List.map_append]
  rfl
theorem allP_nodup (t fr o : Int) (n : Nat) : (allP t fr o n).Nodup := by
  unfold allP List.Nodup
  rw [List.pairwise_map]
  refine List.Pairwise.imp (fun {a b} h he => ?_) (List.nodup_range (n := n))
  injection he with _ h2 _
  exact h (by omega)
theorem allP_mem {t fr o : Int} {n : Nat} {x : Ret} (h : x ∈ allP t fr o n) : x.tick = t ∧ x.op = o ∧ fr ≤ x.ply ∧ x.ply < fr + n := by
  obtain ⟨i, hi, rfl⟩ := List.mem_map.1 h
  have := List.mem_range.1 hi
  refine ⟨rfl, rfl, ?_, ?_⟩ <;> dsimp only <;> omega
theorem sum_all {t o : Int} {b : Bun} {y : Scn} {n : Nat} (hp : Plies bs) (hb : bunAt bs t = some b) (hn : b.upto - b.fr = n) (ho : 0 ≤ o ∧ o < l.length) (hy : whoAt ps t o = some y) :
    doneL (okR l.length bs ps) (allP t b.fr o n) = allP t b.fr o n ∧ sumI ((chgL r le l bs ps (allP t b.fr o n)).map (·.amt)) = amtF r le l bs (t, o) := by
  have h1 := hp.h b (bunAt_mem hb).1
  have hok : ∀ x ∈ allP t b.fr o n, okR l.length bs ps x = true := fun x hx => by
    obtain ⟨e1, e2, h3, h4⟩ := allP_mem hx
    exact decide_eq_true (trE_mk (b := b) (x := y) (by rw [e1]; exact hb) (by omega) (by rw [e2]; exact ho) (by rw [e1, e2]; exact hy))
  have hd := done_all (allP_nodup t b.fr o n) hok
  refine ⟨hd, ?_⟩
  unfold chgL
  rw [hd, List.map_map]
  show sumI ((allP t b.fr o n).map (shareOf r le l bs)) = _
  rw [sum_pos (ps := ps) hp hb hn (allP t b.fr o n) fun x hx => ⟨hok x hx, (allP_mem hx).1, (allP_mem hx).2.1⟩]
  have hfull := sh_sum (amtF r le l bs (t, o)) (n := n) (by omega) n
  rw [shS_full _ (by omega)] at hfull
  refine Eq.trans ?_ hfull
  congr 2
  unfold allP
  rw [List.map_map]
  apply List.ext_getElem
  · simp
  · intro i h2 h3
    simp only [List.getElem_map, List.getElem_range, Function.comp]
    omega
theorem chg_mem {xs : List Ret} {c : Chg} (h : c ∈ chgL r le l bs ps xs) : ∃ x, c = chgOf r le l bs ps x ∧ x ∈ xs ∧ okR l.length bs ps x = true := by
  obtain ⟨x, hx, rfl⟩ := List.mem_map.1 h
  exact ⟨x, rfl, done_mem.1 hx⟩
theorem chg_range (hp : Plies bs) {xs : List Ret} {c : Chg} (h : c ∈ chgL r le l bs ps xs) : 0 ≤ c.amt ∧ c.amt ≤ 1000000000 := by
  obtain ⟨x, rfl, _, hok⟩ := chg_mem h
  exact share_range hp hok
end
end Go.Proofs.YtljibjlkjelpbaaGreatDoor

/- Shops: how they lie. -/
namespace Go.Proofs.YtljibjlkjelpbaaGreatDoor
open Go.RowKit
structure Shp where
  (sty : Sty) (bs : List Bun) (ws : List Wrk) (xs : List Scn) (r le : Int)
def ShopV (w : World) (v : Value) (c : Shp) : Prop :=
  ∃ v0 v1 v2 v3 v4 v5 v6 vb vw vx, v = .agg #[v0, v1, v2, v3, v4, v5, v6, vb, vw, vx, .int .i64 c.r, .int .i64 c.le] ∧ StyV w w.heap.size (.agg #[v0, v1, v2, v3, v4, v5, v6]) c.sty ∧ Sl rBun w w.heap.size vb c.bs ∧ Sl rWrk w w.heap.size vw c.ws ∧ Sl rScn w w.heap.size vx c.xs
theorem ShopV.later {w0 w : World} {L : List Res} {v : Value} {c : Shp} (s : St w0 L w) (h : ShopV w0 v c) : ShopV w v c := by
  obtain ⟨v0, v1, v2, v3, v4, v5, v6, vb, vw, vx, rfl, h1, h2, h3, h4⟩ := h
  exact ⟨v0, v1, v2, v3, v4, v5, v6, vb, vw, vx, rfl, StyV.later s h1, h2.later s, h3.later s, h4.later s⟩
theorem Sl.ret {w : World} {B : Nat} {v : Value} {l : List Ret} (h : Sl rRet w B v l) : ∃ A c, v = .slice A l.length c ∧ l.length ≤ c ∧ l.length ≤ 9223372036854775807 ∧
    ∀ k (hk : k < l.length), ∃ ad, A = some ad ∧ ad.block < B ∧ (∀ j u, [Value.int .i64 l[k].tick, .int .i64 l[k].ply, .int .i64 l[k].op][j]? = some u → w.cell? (ad.add (k * 3 + j)) = some u) ∧ inI64 l[k].tick ∧ inI64 l[k].ply ∧ inI64 l[k].op := by
  obtain ⟨A, c, hv, h1, h2, h3⟩ := h
  refine ⟨A, c, hv, h1, by unfold maxLen at h2; omega, fun k hk => ?_⟩
  obtain ⟨ad, cs, ha, hlt, hc, rfl, hr⟩ := h3 k hk
  exact ⟨ad, ha, hlt, hc, hr⟩
theorem Sl.chg {w : World} {B : Nat} {v : Value} {l : List Chg} (h : Sl rChg w B v l) : ∃ A c, v = .slice A l.length c ∧ l.length ≤ c ∧ l.length ≤ 9223372036854775807 ∧
    ∀ k (hk : k < l.length), ∃ ad, A = some ad ∧ ad.block < B ∧ (∀ j u, [Value.int .i64 l[k].who, .int .i64 l[k].tick, .int .i64 l[k].ply, .int .i64 l[k].op, .int .i64 l[k].amt][j]? = some u → w.cell? (ad.add (k * 5 + j)) = some u) ∧ inI64 l[k].who ∧ inI64 l[k].tick ∧ inI64 l[k].ply ∧ inI64 l[k].op ∧ inI64 l[k].amt := by
  obtain ⟨A, c, hv, h1, h2, h3⟩ := h
  refine ⟨A, c, hv, h1, by unfold maxLen at h2; omega, fun k hk => ?_⟩
  obtain ⟨ad, cs, ha, hlt, hc, rfl, hr⟩ := h3 k hk
  exact ⟨ad, ha, hlt, hc, hr⟩
end Go.Proofs.YtljibjlkjelpbaaGreatDoor

/- Arguments of the laws of chapter 58: shops, returns, charges, as they came in. -/
namespace Go.Proofs.YtljibjlkjelpbaaGreatDoor
open Go.ChangeShapes Go.WideShapes Go.ChangeAt Go.RowKit
section
variable {H : Type} {enc : TypeId × Value → H} {w : World} {base : Nat} {spare : Nat → Bool} {held : Bool}
theorem ret_trod {n : Nat} {cs : List Value} {x : DataW H × List MemPlace} (hl : cs.length = 3) (h : DataW.trod enc Tryz.prog w base spare held n 76 cs = some x) : ∃ o, rRet.rep w (fun b => b < w.heap.size) o cs := by
  match cs, hl with
  | [c0, c1, c2], _ =>
    obtain ⟨_, _, h0⟩ := field_trod (i := 0) (ft := 3) h (by kernel_rfl) rfl
    obtain ⟨_, _, h1⟩ := field_trod (i := 1) (ft := 3) h (by kernel_rfl) rfl
    obtain ⟨_, _, h2⟩ := field_trod (i := 2) (ft := 3) h (by kernel_rfl) rfl
    obtain ⟨i0, rfl, hi0⟩ := int_trod (by kernel_rfl) h0
    obtain ⟨i1, rfl, hi1⟩ := int_trod (by kernel_rfl) h1
    obtain ⟨i2, rfl, hi2⟩ := int_trod (by kernel_rfl) h2
    exact ⟨⟨i0, i1, i2⟩, rfl, hi0, hi1, hi2⟩
theorem chg_trod {n : Nat} {cs : List Value} {x : DataW H × List MemPlace} (hl : cs.length = 5) (h : DataW.trod enc Tryz.prog w base spare held n 74 cs = some x) : ∃ o, rChg.rep w (fun b => b < w.heap.size) o cs := by
  match cs, hl with
  | [c0, c1, c2, c3, c4], _ =>
    obtain ⟨_, _, h0⟩ := field_trod (i := 0) (ft := 3) h (by kernel_rfl) rfl
    obtain ⟨_, _, h1⟩ := field_trod (i := 1) (ft := 3) h (by kernel_rfl) rfl
    obtain ⟨_, _, h2⟩ := field_trod (i := 2) (ft := 3) h (by kernel_rfl) rfl
    obtain ⟨_, _, h3⟩ := field_trod (i := 3) (ft := 3) h (by kernel_rfl) rfl
    obtain ⟨_, _, h4⟩ := field_trod (i := 4) (ft := 3) h (by kernel_rfl) rfl
    obtain ⟨i0, rfl, hi0⟩ := int_trod (by kernel_rfl) h0
    obtain ⟨i1, rfl, hi1⟩ := int_trod (by kernel_rfl) h1
    obtain ⟨i2, rfl, hi2⟩ := int_trod (by kernel_rfl) h2
    obtain ⟨i3, rfl, hi3⟩ := int_trod (by kernel_rfl) h3
    obtain ⟨i4, rfl, hi4⟩ := int_trod (by kernel_rfl) h4
    exact ⟨⟨i0, i1, i2, i3, i4⟩, rfl, hi0, hi1, hi2, hi3, hi4⟩
theorem rets_Trod {v : Value} {d : DataW H} {p : List MemPlace} {A : Option Addr} {n c : Nat} (hv : v = .slice A n c) (h : DataW.Trod enc Tryz.prog w base spare held 67 v d p) : ∃ l, Sl rRet w w.heap.size v l := by
  subst hv
  obtain ⟨fuel, hf⟩ := h
  exact sl_of_trod (R := rRet) (e := 76) (by kernel_rfl) (by kernel_rfl) (by decide) (fun _ _ _ hl hy => ret_trod hl hy) hf
theorem chgs_Trod {v : Value} {d : DataW H} {p : List MemPlace} {A : Option Addr} {n c : Nat} (hv : v = .slice A n c) (h : DataW.Trod enc Tryz.prog w base spare held 60 v d p) : ∃ l, Sl rChg w w.heap.size v l := by
  subst hv
  obtain ⟨fuel, hf⟩ := h
  exact sl_of_trod (R := rChg) (e := 74) (by kernel_rfl) (by kernel_rfl) (by decide) (fun _ _ _ hl hy => chg_trod hl hy) hf
theorem shop_trod {n : Nat} {cs : List Value} {x : DataW H × List MemPlace} (hl : cs.length = 12) (h : DataW.trod enc Tryz.prog w base spare held n 66 cs = some x) : ∃ c, ShopV w (.agg cs.toArray) c := by
  match cs, hl with
  | [c0, c1, c2, c3, c4, c5, c6, c7, c8, c9, c10, c11], _ =>
    obtain ⟨_, _, h0⟩ := fieldK_trod (i := 0) (o := 0) (k := 7) (ft := 29) h (by kernel_rfl) rfl
    obtain ⟨_, _, h1⟩ := fieldK_trod (i := 1) (o := 7) (k := 1) (ft := 30) h (by kernel_rfl) rfl
    obtain ⟨_, _, h2⟩ := fieldK_trod (i := 2) (o := 8) (k := 1) (ft := 31) h (by kernel_rfl) rfl
    obtain ⟨_, _, h3⟩ := fieldK_trod (i := 3) (o := 9) (k := 1) (ft := 32) h (by kernel_rfl) rfl
    obtain ⟨_, _, h4⟩ := fieldK_trod (i := 4) (o := 10) (k := 2) (ft := 36) h (by kernel_rfl) rfl
    obtain ⟨s, hs⟩ := sty_trod rfl h0
    obtain ⟨l1, k1⟩ := sl_of_trod (R := rBun) (e := 49) (by kernel_rfl) (by kernel_rfl) (by decide) (fun _ _ _ hl hy => bun_trod hl hy) h1
    obtain ⟨l2, k2⟩ := sl_of_trod (R := rWrk) (e := 87) (by kernel_rfl) (by kernel_rfl) (by decide) (fun _ _ _ hl hy => wrk_trod hl hy) h2
    obtain ⟨l3, k3⟩ := sl_of_trod (R := rScn) (e := 51) (by kernel_rfl) (by kernel_rfl) (by decide) (fun _ _ _ hl hy => scn_trod hl hy) h3
    obtain ⟨r, le, ht, _, _⟩ := tariff_trod rfl h4
    injection ht with e1 e2
    injection e2 with e2
    subst e1 e2
    exact ⟨⟨s, l1, l2, l3, r, le⟩, c0, c1, c2, c3, c4, c5, c6, c7, c8, c9, rfl, hs, k1, k2, k3⟩
theorem shop_Trod {v : Value} {d : DataW H} {p : List MemPlace} {cs : Array Value} (hv : v = .agg cs) (hn : cs.size = 12) (h : DataW.Trod enc Tryz.prog w base spare held 66 v d p) : ∃ c, ShopV w v c := by
  subst hv
  obtain ⟨fuel, hf⟩ := h
  exact shop_trod (cs := cs.toList) (by simpa using hn) hf
end
end Go.Proofs.YtljibjlkjelpbaaGreatDoor
