/- Bundles, workers, scans, pays: how they lie in memory; what scans come to. No program in sight. -/
import Derived.Test.YtbglhkngdagmeaaGreatDoorFwM
import Derived.Test.YtbglhkngdagmeaaGreatDoorC20
namespace Go.Proofs.YtbglhkngdagmeaaGreatDoor
open Go.RowKit

/-! ### How they lie -/
structure Bun where
  (tick garm size lot fr upto : Int)
def rBun : Rp Bun where
  size := 6
  rep _ _ b cs := cs = [.int .i64 b.tick, .int .i64 b.garm, .int .i64 b.size, .int .i64 b.lot, .int .i64 b.fr, .int .i64 b.upto] ∧ inI64 b.tick ∧ inI64 b.fr ∧ inI64 b.upto
  len h := by rw [h.1]; rfl
  mono _ h := h
  grow _ h := h
structure Wrk where
  (name : ByteArray) (machines : List Int)
def rWrk : Rp Wrk where
  size := 2
  rep w S o cs := ∃ A c, cs = [.string o.name, .slice A o.machines.length c] ∧ o.name.size ≤ maxLen ∧ SlS rInt w S (.slice A o.machines.length c) o.machines
  len h := by obtain ⟨_, _, rfl, _⟩ := h; rfl
  mono hb h := by obtain ⟨A, c, h0, h1, h2⟩ := h; exact ⟨A, c, h0, h1, h2.mono hb⟩
  grow hb h := by obtain ⟨A, c, h0, h1, h2⟩ := h; exact ⟨A, c, h0, h1, h2.grow hb⟩
structure Scn where
  (tick op who time : Int)
  deriving DecidableEq
def rScn : Rp Scn where
  size := 4
  rep _ _ b cs := cs = [.int .i64 b.tick, .int .i64 b.op, .int .i64 b.who, .int .i64 b.time] ∧ inI64 b.tick ∧ inI64 b.op ∧ inI64 b.who ∧ inI64 b.time
  len h := by rw [h.1]; rfl
  mono _ h := h
  grow _ h := h
structure Pay where
  (who work top : Int)
  deriving DecidableEq
def rPay : Rp Pay where
  size := 3
  rep _ _ b cs := cs = [.int .i64 b.who, .int .i64 b.work, .int .i64 b.top] ∧ inI64 b.who ∧ inI64 b.work ∧ inI64 b.top
  len h := by rw [h.1]; rfl
  mono _ h := h
  grow _ h := h

/-! ### What scans come to -/
def paidB (ps : List Scn) (t o : Int) : Bool := ps.any fun y => decide (y.tick = t) && decide (y.op = o)
def lastT (ps : List Scn) (t : Int) : Int := ps.foldl (fun a y => if y.tick = t then y.time else a) 0
def afterAt (l : List Opn) (o : Int) : List Int := ((l[o.toNat]?).map (·.after)).getD []
def machAt (l : List Opn) (o : Int) : Int := ((l[o.toNat]?).map (·.machine)).getD 0
def canAt (ws : List Wrk) (k m : Int) : Bool := hasB (((ws[k.toNat]?).map (·.machines)).getD []) m
def knownB (l : List Opn) (ws : List Wrk) (x : Scn) : Bool := decide (0 ≤ x.op ∧ x.op < l.length ∧ 0 ≤ x.who ∧ x.who < ws.length ∧ 0 ≤ x.time ∧ x.time ≤ 1073741824)
def judgeE (l : List Opn) (ws : List Wrk) (ps : List Scn) (x : Scn) : Int :=
  if knownB l ws x = false then 3 else if canAt ws x.who (machAt l x.op) = false then 4 else if paidB ps x.tick x.op = true then 2 else if (afterAt l x.op).all (fun a => paidB ps x.tick a) = false then 5 else if x.time < lastT ps x.tick then 6 else 1
def outE (l : List Opn) (ws : List Wrk) (tk : List Int) (ps : List Scn) (x : Scn) : Int := if hasB tk x.tick = false then 3 else judgeE l ws ps x
def nextP (l : List Opn) (ws : List Wrk) (tk : List Int) (ps : List Scn) (x : Scn) : List Scn := if outE l ws tk ps x = 1 then ps ++ [x] else ps
def paidL (l : List Opn) (ws : List Wrk) (tk : List Int) (xs : List Scn) : List Scn := xs.foldl (nextP l ws tk) []
def outs (l : List Opn) (ws : List Wrk) (tk : List Int) : List Scn → List Scn → List Int
  | _, [] => []
  | ps, x :: xs => outE l ws tk ps x :: outs l ws tk (nextP l ws tk ps x) xs
theorem outs_len (l : List Opn) (ws : List Wrk) (tk : List Int) : ∀ (xs ps : List Scn), (outs l ws tk ps xs).length = xs.length
  | [], _ => rfl
  | _ :: xs, _ => congrArg (· + 1) (outs_len l ws tk xs _)
theorem outs_snoc (l : List Opn) (ws : List Wrk) (tk : List Int) (x : Scn) : ∀ (xs ps : List Scn), outs l ws tk ps (xs ++ [x]) = outs l ws tk ps xs ++ [outE l ws tk (xs.foldl (nextP l ws tk) ps) x]
  | [], _ => rfl
  | y :: xs, ps => by
    show _ :: outs l ws tk _ (xs ++ [x]) = _
    rw [outs_snoc l ws tk x xs]
    rfl
theorem paidL_snoc (l : List Opn) (ws : List Wrk) (tk : List Int) (xs : List Scn) (x : Scn) : paidL l ws tk (xs ++ [x]) = nextP l ws tk (paidL l ws tk xs) x := by
  unfold paidL
  rw [List.foldl_append]
  rfl

/-! ### The record of a ticket -/
def recC (ps : List Scn) (t : Int) : Array Value := ((List.range 16).map (fun k => Value.bool (paidB ps t (k : Nat))) ++ [Value.int .i64 (lastT ps t)]).toArray
theorem recC_size (ps : List Scn) (t : Int) : (recC ps t).size = 17 := by simp [recC]
theorem recC_nil (t : Int) : recC [] t = #[.bool false, .bool false, .bool false, .bool false, .bool false, .bool false, .bool false, .bool false, .bool false, .bool false, .bool false, .bool false, .bool false, .bool false, .bool false, .bool false, .int .i64 0] := rfl
theorem recC_paid (ps : List Scn) (t : Int) {o : Nat} (ho : o < 16) : (recC ps t)[o]? = some (.bool (paidB ps t o)) := by
  unfold recC
  rw [List.getElem?_toArray, List.getElem?_append_left (by simp; omega), List.getElem?_map, List.getElem?_range ho]
  rfl
theorem recC_last (ps : List Scn) (t : Int) : (recC ps t)[16]? = some (.int .i64 (lastT ps t)) := by
  unfold recC
  rw [List.getElem?_toArray, List.getElem?_append_right (by simp)]
  simp
theorem paidB_snoc (ps : List Scn) (x : Scn) (t o : Int) : paidB (ps ++ [x]) t o = (paidB ps t o || (decide (x.tick = t) && decide (x.op = o))) := by
  unfold paidB
  rw [List.any_append]
  simp
theorem lastT_snoc (ps : List Scn) (x : Scn) (t : Int) : lastT (ps ++ [x]) t = if x.tick = t then x.time else lastT ps t := by
  unfold lastT
  rw [List.foldl_append]
  rfl
theorem recC_other (ps : List Scn) (x : Scn) {t : Int} (h : ¬ x.tick = t) : recC (ps ++ [x]) t = recC ps t := by
  unfold recC
  have e1 : ∀ o, paidB (ps ++ [x]) t o = paidB ps t o := fun o => by rw [paidB_snoc, decide_eq_false h]; simp
  simp only [e1, lastT_snoc, if_neg h]
theorem recC_pay (ps : List Scn) (x : Scn) {o : Nat} (ho : x.op = (o : Int)) (h16 : o < 16) : ((recC ps x.tick).toList.set o (.bool true)).set 16 (.int .i64 x.time) = (recC (ps ++ [x]) x.tick).toList := by
  apply List.ext_getElem?
  intro j
  have hl : (recC ps x.tick).toList.length = 17 := by rw [Array.length_toList]; exact recC_size _ _
  have e1 : ∀ q t (j : Nat), (recC q t).toList[j]? = (recC q t)[j]? := fun q t j => by rw [Array.getElem?_toList]
  rw [List.getElem?_set, List.getElem?_set, List.length_set, hl, e1, e1]
  by_cases h1 : 16 = j
  · subst h1
    rw [if_pos rfl, if_pos (by omega), recC_last, lastT_snoc, if_pos rfl]
  · rw [if_neg h1]
    by_cases h2 : o = j
    · subst h2
      rw [if_pos rfl, if_pos (by omega), recC_paid _ _ h16, paidB_snoc, ho]
      simp
    · rw [if_neg h2]
      by_cases h3 : j < 16
      · rw [recC_paid _ _ h3, recC_paid _ _ h3, paidB_snoc, ho, decide_eq_false (p := (o : Int) = (j : Int)) (by omega)]
        simp
      · rw [Array.getElem?_eq_none (by rw [recC_size]; omega), Array.getElem?_eq_none (by rw [recC_size]; omega)]
theorem set_row {cs : Array Value} {i : Nat} {v : Value} (hi : i < cs.size) (hv : v.cells = #[v]) : (cs.toList.take i ++ v.cells.toList ++ cs.toList.drop (i + 1)).toArray = (cs.toList.set i v).toArray := by
  rw [List.set_eq_take_append_cons_drop, if_pos (by rw [Array.length_toList]; exact hi), hv, List.append_assoc]
  rfl
end Go.Proofs.YtbglhkngdagmeaaGreatDoor

/- The records of all tickets, and the map that leads to them. No program in sight. -/
namespace Go.Proofs.YtbglhkngdagmeaaGreatDoor
open Go.RowKit

def tkAt (tk : List Int) (i : Nat) : Int := tk.getD i 0
def Tix (tk : List Int) : Prop := ∀ i j, i < j → j < tk.length → ¬ tkAt tk i = tkAt tk j
def ptrAt (β : Nat → Nat) (i : Nat) : Value := .pointer (some ⟨β i, 0, none⟩)
def recF (tk : List Int) (β : Nat → Nat) (rt : TypeId) (ps : List Scn) (i : Nat) : Res := Box (β i) rt (recC ps (tkAt tk i))
def mapK (tk : List Int) (β : Nat → Nat) : Nat → List (Int × Value)
  | 0 => []
  | k + 1 => aset (mapK tk β k) (tkAt tk k) (ptrAt β k)
theorem Tix.inj {tk : List Int} (h : Tix tk) {i j : Nat} (hi : i < tk.length) (hj : j < tk.length) (he : tkAt tk i = tkAt tk j) : i = j := by
  rcases Nat.lt_trichotomy i j with h1 | h1 | h1
  · exact absurd he (h i j h1 hj)
  · exact h1
  · exact absurd he.symm (h j i h1 hi)
theorem mapK_old {tk : List Int} {β : Nat → Nat} (h : Tix tk) : ∀ k, k ≤ tk.length → ∀ i, i < k → aget (mapK tk β k) (tkAt tk i) = some (ptrAt β i)
  | 0, _, i, hi => by omega
  | k + 1, hk, i, hi => by
    show aget (aset (mapK tk β k) (tkAt tk k) (ptrAt β k)) (tkAt tk i) = _
    rw [aget_aset]
    split
    · rename_i he
      rw [h.inj (by omega) (by omega) he]
    · rename_i he
      exact mapK_old h k (by omega) i (by
        have : ¬ i = k := fun hc => he (by rw [hc])
        omega)
theorem mapK_none {tk : List Int} {β : Nat → Nat} {t : Int} : ∀ k, (∀ i, i < k → ¬ tkAt tk i = t) → aget (mapK tk β k) t = none
  | 0, _ => rfl
  | k + 1, h => by
    show aget (aset (mapK tk β k) (tkAt tk k) (ptrAt β k)) t = _
    rw [aget_aset, if_neg (h k (by omega))]
    exact mapK_none k fun i hi => h i (by omega)
theorem mapK_congr {tk : List Int} {β β' : Nat → Nat} : ∀ k, (∀ i, i < k → β i = β' i) → mapK tk β k = mapK tk β' k
  | 0, _ => rfl
  | k + 1, h => by
    show aset (mapK tk β k) (tkAt tk k) (ptrAt β k) = aset (mapK tk β' k) (tkAt tk k) (ptrAt β' k)
    rw [mapK_congr k fun i hi => h i (by omega)]
    unfold ptrAt
    rw [h k (by omega)]
theorem tk_has {tk : List Int} {t : Int} (h : hasB tk t = true) : ∃ i, i < tk.length ∧ tkAt tk i = t := by
  obtain ⟨i, hi, he⟩ := List.getElem_of_mem (hasB_iff.1 h)
  exact ⟨i, hi, by unfold tkAt; rw [List.getD_eq_getElem?_getD, List.getElem?_eq_getElem hi]; exact he⟩
theorem tk_not {tk : List Int} {t : Int} (h : hasB tk t = false) : ∀ i, i < tk.length → ¬ tkAt tk i = t := fun i hi he => by
  have : hasB tk t = true := hasB_iff.2 (by
    rw [← he]
    unfold tkAt
    rw [List.getD_eq_getElem?_getD, List.getElem?_eq_getElem hi]
    exact List.getElem_mem hi)
  rw [this] at h
  cases h
/-- One more record. -/
theorem rec_push {tk : List Int} {β : Nat → Nat} {rt : TypeId} {k b : Nat} {ps : List Scn} {L : List Res} : Ent (Box b rt (recC ps (tkAt tk k)) :: Coll k (recF tk β rt ps) :: L) (Coll (k + 1) (recF tk (fun i => if i = k then b else β i) rt ps) :: L) :=
  Ent.trans coll_push (coll_congr fun i hi => by
    unfold setR recF
    by_cases h : i = k
    · subst h; simp
    · simp [h])
theorem rec_take {tk : List Int} {β : Nat → Nat} {rt : TypeId} {n i : Nat} {ps : List Scn} {L : List Res} (hi : i < n) : Ent (Coll n (recF tk β rt ps) :: L) (Box (β i) rt (recC ps (tkAt tk i)) :: Coll n (setR (recF tk β rt ps) i Emp) :: L) := coll_take hi
theorem rec_put {tk : List Int} {β : Nat → Nat} {rt : TypeId} {i : Nat} {ps : List Scn} {x : Scn} {L : List Res} (h : Tix tk) (hi : i < tk.length) (hx : tkAt tk i = x.tick) : Ent (Box (β i) rt (recC (ps ++ [x]) x.tick) :: Coll tk.length (setR (recF tk β rt ps) i Emp) :: L) (Coll tk.length (recF tk β rt (ps ++ [x])) :: L) :=
  Ent.trans (coll_put hi) (coll_congr fun j hj => by
    unfold setR recF
    by_cases hji : j = i
    · subst hji; simp [hx]
    · simp only [if_neg hji]
      rw [recC_other _ _ fun hc => hji (h.inj hj hi (by rw [hx, hc]))])
/-- The row of outcomes, so far. -/
def outRow (l : List Int) (n : Nat) : List Int := l ++ List.replicate (n - l.length) 0
theorem outRow_len {l : List Int} {n : Nat} (h : l.length ≤ n) : (outRow l n).length = n := by simp [outRow]; omega
theorem outRow_set {l : List Int} {n : Nat} (h : l.length < n) (v : Int) : (outRow l n).set l.length v = outRow (l ++ [v]) n := by
  unfold outRow
  rw [List.set_append_right _ _ (Nat.le_refl _), Nat.sub_self]
  obtain ⟨m, hm⟩ : ∃ m, n - l.length = m + 1 := ⟨n - l.length - 1, by omega⟩
  rw [hm, List.replicate_succ, List.set_cons_zero, List.append_assoc, List.length_append]
  have : n - (l.length + [v].length) = m := by simp; omega
  rw [this]
  rfl
theorem outRow_full {l : List Int} : outRow l l.length = l := by simp [outRow]
theorem outRow_nil (n : Nat) : outRow [] n = List.replicate n 0 := by simp [outRow]
end Go.Proofs.YtbglhkngdagmeaaGreatDoor

