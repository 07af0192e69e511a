/- What wages come to: amounts by worker, rows of rows. No program in sight. -/
import Derived.Test.YtbglhkngdagmeaaGreatDoorW8
namespace Go.Proofs.YtbglhkngdagmeaaGreatDoor
open Go.RowKit

def minAt (l : List Opn) (o : Int) : Int := ((l[o.toNat]?).map (·.minutes)).getD 0
def cntAt (bs : List Bun) (t : Int) : Int := ((bs.find? fun b => decide (b.tick = t)).map fun b => b.upto - b.fr).getD 0
def amtOf (r le : Int) (l : List Opn) (bs : List Bun) (x : Scn) : Int := amtV r le (minAt l x.op) (cntAt bs x.tick)
def amts (r le : Int) (l : List Opn) (bs : List Bun) (ps : List Scn) (m : Nat) : List Int := (ps.filter fun x => decide (x.who = (m : Int))).map (amtOf r le l bs)
theorem amts_snoc (r le : Int) (l : List Opn) (bs : List Bun) (ps : List Scn) (x : Scn) (m : Nat) : amts r le l bs (ps ++ [x]) m = if x.who = (m : Int) then amts r le l bs ps m ++ [amtOf r le l bs x] else amts r le l bs ps m := by
  unfold amts
  rw [List.filter_append]
  by_cases h : x.who = (m : Int)
  · simp [h]
  · simp [h]
theorem cnt_at {bs : List Bun} (h : Tix (ticks bs)) {j : Nat} (hj : j < bs.length) : cntAt bs bs[j].tick = bs[j].upto - bs[j].fr := by
  unfold cntAt
  cases hf : bs.find? fun b => decide (b.tick = bs[j].tick) with
  | none =>
    have := List.find?_eq_none.1 hf bs[j] (List.getElem_mem hj)
    simp at this
  | some b =>
    have h1 : b.tick = bs[j].tick := by simpa using List.find?_some hf
    obtain ⟨i, hi, rfl⟩ := List.getElem_of_mem (List.mem_of_find?_eq_some hf)
    have hij : i = j := h.inj (by simpa [ticks] using hi) (by simpa [ticks] using hj) (by rw [ticks_at hi, ticks_at hj, h1])
    subst hij
    rfl
def mapV (tk : List Int) (f : Nat → Value) : Nat → List (Int × Value)
  | 0 => []
  | k + 1 => aset (mapV tk f k) (tkAt tk k) (f k)
theorem mapV_old {tk : List Int} {f : Nat → Value} (h : Tix tk) : ∀ k, k ≤ tk.length → ∀ i, i < k → aget (mapV tk f k) (tkAt tk i) = some (f i)
  | 0, _, i, hi => by omega
  | k + 1, hk, i, hi => by
    show aget (aset (mapV tk f k) (tkAt tk k) (f k)) (tkAt tk i) = _
    rw [aget_aset]
    split
    · rename_i he
      rw [h.inj (by omega) (by omega) he]
    · rename_i he
      exact mapV_old h k (by omega) i (by
        have : ¬ i = k := fun hc => he (by rw [hc])
        omega)
def cntV (bs : List Bun) (i : Nat) : Value := .int .i64 (((bs[i]?).map fun b => b.upto - b.fr).getD 0)
theorem cntV_at {bs : List Bun} {i : Nat} (hi : i < bs.length) : cntV bs i = .int .i64 (bs[i].upto - bs[i].fr) := by
  unfold cntV
  rw [List.getElem?_eq_getElem hi]
  rfl

theorem outs_at' {l : List Opn} {ws : List Wrk} {tk : List Int} : ∀ {xs ps : List Scn} {i : Nat} (hi : i < xs.length), (outs l ws tk ps xs).getD i 0 = outE l ws tk ((xs.take i).foldl (nextP l ws tk) ps) xs[i]
  | x :: xs, ps, 0, _ => rfl
  | x :: xs, ps, i + 1, hi => by
    show (outs l ws tk (nextP l ws tk ps x) xs).getD i 0 = _
    rw [outs_at' (by simpa using hi)]
    rfl
theorem outs_at {l : List Opn} {ws : List Wrk} {tk : List Int} {xs : List Scn} {i : Nat} (hi : i < xs.length) : (outs l ws tk [] xs).getD i 0 = outE l ws tk (paidL l ws tk (xs.take i)) xs[i] := outs_at' hi
theorem out_one {l : List Opn} {ws : List Wrk} {tk : List Int} {ps : List Scn} {x : Scn} (h : outE l ws tk ps x = 1) : hasB tk x.tick = true ∧ (0 ≤ x.op ∧ x.op < l.length) ∧ (0 ≤ x.who ∧ x.who < ws.length) := by
  unfold outE at h
  split at h
  · cases h
  · rename_i h1
    refine ⟨by simpa using h1, ?_⟩
    unfold judgeE at h
    split at h
    · cases h
    · rename_i h2
      have h3 : knownB l ws x = true := by simpa using h2
      unfold knownB at h3
      have := of_decide_eq_true h3
      omega

theorem next_len (l : List Opn) (ws : List Wrk) (tk : List Int) (ps : List Scn) (x : Scn) : (nextP l ws tk ps x).length ≤ ps.length + 1 := by
  unfold nextP
  split <;> simp
theorem paid_len' (l : List Opn) (ws : List Wrk) (tk : List Int) : ∀ (xs ps : List Scn), (xs.foldl (nextP l ws tk) ps).length ≤ ps.length + xs.length
  | [], ps => by simp
  | x :: xs, ps => by
    have h1 := paid_len' l ws tk xs (nextP l ws tk ps x)
    have h2 := next_len l ws tk ps x
    simp only [List.foldl_cons, List.length_cons]
    omega
theorem paidL_len (l : List Opn) (ws : List Wrk) (tk : List Int) (xs : List Scn) : (paidL l ws tk xs).length ≤ xs.length := by
  have := paid_len' l ws tk xs []
  unfold paidL
  simpa using this
theorem amts_len (r le : Int) (l : List Opn) (bs : List Bun) (ps : List Scn) (m : Nat) : (amts r le l bs ps m).length ≤ ps.length := by
  unfold amts
  rw [List.length_map]
  exact List.length_filter_le _ _

theorem amtV_range (r l m c : Int) : 0 ≤ amtV r l m c ∧ amtV r l m c ≤ 1000000000 := by
  unfold amtV
  split
  · rename_i h
    have := (amt_range h).2
    omega
  · omega
theorem amts_range {r le : Int} {l : List Opn} {bs : List Bun} {ps : List Scn} {m : Nat} : ∀ x ∈ amts r le l bs ps m, 0 ≤ x ∧ x ≤ 1000000000 := fun x hx => by
  unfold amts at hx
  obtain ⟨y, _, rfl⟩ := List.mem_map.1 hx
  exact amtV_range _ _ _ _

/-! ### Rows of rows -/
def rowC (n : Nat) (A : Nat → Option Addr × Nat) (F : Nat → List Int) : List Value := (List.range n).map fun m => .slice (A m).1 (F m).length (A m).2
def setA (A : Nat → Option Addr × Nat) (m : Nat) (a : Option Addr × Nat) : Nat → Option Addr × Nat := fun j => if j = m then a else A j
def rowR (el : TypeId) (A : Nat → Option Addr × Nat) (F : Nat → List Int) (m : Nat) : Res := Own (A m).1 (F m).length (A m).2 el 1 ((F m).map (Value.int .i64))
theorem rowC_len (n : Nat) (A : Nat → Option Addr × Nat) (F : Nat → List Int) : (rowC n A F).length = n := by simp [rowC]
theorem rowC_get {n m : Nat} (A : Nat → Option Addr × Nat) (F : Nat → List Int) (hm : m < n) : (rowC n A F).toArray[m * 1]? = some (.slice (A m).1 (F m).length (A m).2) := by simp [rowC, hm]
theorem rowC_set {n m : Nat} {A : Nat → Option Addr × Nat} {F F' : Nat → List Int} (hm : m < n) {a : Option Addr × Nat} (h1 : ∀ j, ¬ j = m → F' j = F j) : (rowC n A F).set m (.slice a.1 (F' m).length a.2) = rowC n (setA A m a) F' := by
  apply List.ext_getElem
  · simp [rowC]
  · intro i h2 h3
    simp only [rowC, List.getElem_set, List.getElem_map, List.getElem_range, setA]
    by_cases h : m = i
    · subst h; simp
    · have : ¬ i = m := fun hc => h hc.symm
      simp [h, this, h1 i this]
theorem row_put {n m : Nat} {el : TypeId} {A : Nat → Option Addr × Nat} {F F' : Nat → List Int} {a : Option Addr × Nat} {L : List Res} (hm : m < n) (h1 : ∀ j, ¬ j = m → F' j = F j) :
    Ent (Own a.1 (F' m).length a.2 el 1 ((F' m).map (Value.int .i64)) :: Coll n (setR (rowR el A F) m Emp) :: L) (Coll n (rowR el (setA A m a) F') :: L) :=
  Ent.trans (coll_put hm) (coll_congr fun j hj => by
    unfold setR rowR setA
    by_cases h : j = m
    · subst h; simp
    · simp [h, h1 j h])
theorem rows_nil {n : Nat} {el : TypeId} {F : Nat → List Int} (hF : ∀ m, F m = []) {L : List Res} : Ent L (Coll n (rowR el (fun _ => (none, 0)) F) :: L) := fun w0 w s => by
  have hfp : ∀ m b, ¬ (rowR el (fun _ => (none, 0)) F m).fp b := fun m b hb => by
    unfold rowR at hb
    rw [hF m] at hb
    simp [Own, Value.ownBlock] at hb
  refine ⟨s.below, ⟨fun m _ => ?_, fun i j _ _ _ b hb => absurd hb (hfp i b)⟩, fun b ⟨i, _, hb⟩ => absurd hb (hfp i b), fun b ⟨i, _, hb⟩ => absurd hb (hfp i b), s.sep⟩
  unfold rowR
  rw [hF m]
  exact World.ownsRow_nil w 0 el 1
theorem Sl.rowAt {w0 w : World} {L L' : List Res} {n m : Nat} {el : TypeId} {A : Nat → Option Addr × Nat} {F : Nat → List Int} (s : St w0 L w) (hp : Pick L (Coll n (rowR el A F)) L') (hm : m < n) (hin : ∀ x ∈ F m, inI64 x) : Sl rInt w w.heap.size (.slice (A m).1 (F m).length (A m).2) (F m) :=
  Sl.ownI (coll_take hm w0 w (s.pick hp)) .here rfl hin

/-! ### Pays -/
def payOf (le : Int) (m : Nat) (l : List Int) : List Pay := if l.length = 0 then [] else [⟨m, sumI l, max (le - sumI l) 0⟩]
def payP (le : Int) (F : Nat → List Int) (k : Nat) : List Pay := (List.range k).flatMap fun m => payOf le m (F m)
theorem payP_snoc (le : Int) (F : Nat → List Int) (k : Nat) : payP le F (k + 1) = payP le F k ++ payOf le k (F k) := by
  unfold payP
  rw [List.range_succ, List.flatMap_append]
  simp
theorem payP_len (le : Int) (F : Nat → List Int) : ∀ k, (payP le F k).length ≤ k
  | 0 => Nat.le_refl _
  | k + 1 => by
    rw [payP_snoc, List.length_append]
    have := payP_len le F k
    have : (payOf le k (F k)).length ≤ 1 := by unfold payOf; split <;> simp
    omega
def encP (p : Pay) : List Value := [.int .i64 p.who, .int .i64 p.work, .int .i64 p.top]
def paysL (r le : Int) (l : List Opn) (bs : List Bun) (ws : List Wrk) (xs : List Scn) : List Pay := payP le (amts r le l bs (paidL l ws (ticks bs) xs)) ws.length
end Go.Proofs.YtbglhkngdagmeaaGreatDoor
