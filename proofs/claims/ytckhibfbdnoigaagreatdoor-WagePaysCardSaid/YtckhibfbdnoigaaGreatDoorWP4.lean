/- Texts in one file: S1 W4 W5 W6 W7 W1 W2 W8 S3 Q57 W12 W9 W3 C16 C23 W10 W11 Q10 FwK Case. -/
import Derived.Test.YtckhibfbdnoigaaGreatDoorWP3
import Derived.Test.YtckhibfbdnoigaaGreatDoorWP2
set_option maxRecDepth 100000
set_option maxHeartbeats 8000000
namespace Go.Proofs.YtckhibfbdnoigaaGreatDoor
open Go.RowKit
structure Bun where
  (tick garm size lot fr upto : Int)
def rBun : Rp Bun where
  size := 6
  rep _ _ b cs := cs = [.int .i64 b.tick, .int .i64 b.garm, .int .i64 b.size, .int .i64 b.lot, .int .i64 b.fr, .int .i64 b.upto] ∧ inI64 b.tick ∧ inI64 b.fr ∧ inI64 b.upto
  len h := by rw [h.1]; rfl
  mono _ h := h
  grow _ h := h
structure Wrk where
  (name : ByteArray) (machines : List Int)
def rWrk : Rp Wrk where
  size := 2
  rep w S o cs := ∃ A c, cs = [.string o.name, .slice A o.machines.length c] ∧ o.name.size ≤ maxLen ∧ SlS rInt w S (.slice A o.machines.length c) o.machines
  len h := by obtain ⟨_, _, rfl, _⟩ := h; rfl
  mono hb h := by obtain ⟨A, c, h0, h1, h2⟩ := h; exact ⟨A, c, h0, h1, h2.mono hb⟩
  grow hb h := by obtain ⟨A, c, h0, h1, h2⟩ := h; exact ⟨A, c, h0, h1, h2.grow hb⟩
structure Scn where
  (tick op who time : Int)
  deriving DecidableEq
def rScn : Rp Scn where
  size := 4
  rep _ _ b cs := cs = [.int .i64 b.tick, .int .i64 b.op, .int .i64 b.who, .int .i64 b.time] ∧ inI64 b.tick ∧ inI64 b.op ∧ inI64 b.who ∧ inI64 b.time
  len h := by rw [h.1]; rfl
  mono _ h := h
  grow _ h := h
structure Pay where
  (who work top : Int)
  deriving DecidableEq
def rPay : Rp Pay where
  size := 3
  rep _ _ b cs := cs = [.int .i64 b.who, .int .i64 b.work, .int .i64 b.top] ∧ inI64 b.who ∧ inI64 b.work ∧ inI64 b.top
  len h := by rw [h.1]; rfl
  mono _ h := h
  grow _ h := h

def paidB (ps : List Scn) (t o : Int) : Bool := ps.any fun y => decide (y.tick = t) && decide (y.op = o)
def lastT (ps : List Scn) (t : Int) : Int := ps.foldl (fun a y => if y.tick = t then y.time else a) 0
def afterAt (l : List Opn) (o : Int) : List Int := ((l[o.toNat]?).map (·.after)).getD []
def machAt (l : List Opn) (o : Int) : Int := ((l[o.toNat]?).map (·.machine)).getD 0
def canAt (ws : List Wrk) (k m : Int) : Bool := hasB (((ws[k.toNat]?).map (·.machines)).getD []) m
def knownB (l : List Opn) (ws : List Wrk) (x : Scn) : Bool := decide (0 ≤ x.op ∧ x.op < l.length ∧ 0 ≤ x.who ∧ x.who < ws.length ∧ 0 ≤ x.time ∧ x.time ≤ 1073741824)
def judgeE (l : List Opn) (ws : List Wrk) (ps : List Scn) (x : Scn) : Int :=
  if knownB l ws x = false then 3 else if canAt ws x.who (machAt l x.op) = false then 4 else if paidB ps x.tick x.op = true then 2 else if (afterAt l x.op).all (fun a => paidB ps x.tick a) = false then 5 else if x.time < lastT ps x.tick then 6 else 1
def outE (l : List Opn) (ws : List Wrk) (tk : List Int) (ps : List Scn) (x : Scn) : Int := if hasB tk x.tick = false then 3 else judgeE l ws ps x
def nextP (l : List Opn) (ws : List Wrk) (tk : List Int) (ps : List Scn) (x : Scn) : List Scn := if outE l ws tk ps x = 1 then ps ++ [x] else ps
def paidL (l : List Opn) (ws : List Wrk) (tk : List Int) (xs : List Scn) : List Scn := xs.foldl (nextP l ws tk) []
def outs (l : List Opn) (ws : List Wrk) (tk : List Int) : List Scn → List Scn → List Int
  | _, [] => []
  | ps, x :: xs => outE l ws tk ps x :: outs l ws tk (nextP l ws tk ps x) xs
theorem outs_len (l : List Opn) (ws : List Wrk) (tk : List Int) : ∀ (xs ps : List Scn), (outs l ws tk ps xs).length = xs.length
  | [], _ => rfl
  | _ :: xs, _ => congrArg (· + 1) (outs_len l ws tk xs _)
theorem outs_snoc (l : List Opn) (ws : List Wrk) (tk : List Int) (x : Scn) : ∀ (xs ps : List Scn), outs l ws tk ps (xs ++ [x]) = outs l ws tk ps xs ++ [outE l ws tk (xs.foldl (nextP l ws tk) ps) x]
  | [], _ => rfl
  | y :: xs, ps => by
    show _ :: outs l ws tk _ (xs ++ [x]) = _
    rw [outs_snoc l ws tk x xs]
    rfl
theorem paidL_snoc (l : List Opn) (ws : List Wrk) (tk : List Int) (xs : List Scn) (x : Scn) : paidL l ws tk (xs ++ [x]) = nextP l ws tk (paidL l ws tk xs) x := by
  unfold paidL
  rw [List.foldl_append]
  rfl

def recC (ps : List Scn) (t : Int) : Array Value := ((List.range 16).map (fun k => Value.bool (paidB ps t (k : Nat))) ++ [Value.int .i64 (lastT ps t)]).toArray
theorem recC_size (ps : List Scn) (t : Int) : (recC ps t).size = 17 := by simp [recC]
theorem recC_paid (ps : List Scn) (t : Int) {o : Nat} (ho : o < 16) : (recC ps t)[o]? = some (.bool (paidB ps t o)) := by
  unfold recC
  rw [List.getElem?_toArray, List.getElem?_append_left (by simp; omega), List.getElem?_map, List.getElem?_range ho]
  rfl
theorem recC_last (ps : List Scn) (t : Int) : (recC ps t)[16]? = some (.int .i64 (lastT ps t)) := by
  unfold recC
  rw [List.getElem?_toArray, List.getElem?_append_right (by simp)]
  simp
theorem paidB_snoc (ps : List Scn) (x : Scn) (t o : Int) : paidB (ps ++ [x]) t o = (paidB ps t o || (decide (x.tick = t) && decide (x.op = o))) := by
  unfold paidB
  rw [List.any_append]
  simp
theorem lastT_snoc (ps : List Scn) (x : Scn) (t : Int) : lastT (ps ++ [x]) t = if x.tick = t then x.time else lastT ps t := by
  unfold lastT
  rw [List.foldl_append]
  rfl
theorem recC_other (ps : List Scn) (x : Scn) {t : Int} (h : ¬ x.tick = t) : recC (ps ++ [x]) t = recC ps t := by
  unfold recC
  have e1 : ∀ o, paidB (ps ++ [x]) t o = paidB ps t o := fun o => by rw [paidB_snoc, decide_eq_false h]; simp
  simp only [e1, lastT_snoc, if_neg h]
theorem recC_pay (ps : List Scn) (x : Scn) {o : Nat} (ho : x.op = (o : Int)) (h16 : o < 16) : ((recC ps x.tick).toList.set o (.bool true)).set 16 (.int .i64 x.time) = (recC (ps ++ [x]) x.tick).toList := by
  apply List.ext_getElem?
  intro j
  have hl : (recC ps x.tick).toList.length = 17 := by rw [Array.length_toList]; exact recC_size _ _
  have e1 : ∀ q t (j : Nat), (recC q t).toList[j]? = (recC q t)[j]? := fun q t j => by rw [Array.getElem?_toList]
  rw [List.getElem?_set, List.getElem?_set, List.length_set, hl, e1, e1]
  by_cases h1 : 16 = j
  · subst h1
    rw [if_pos rfl, if_pos (by omega), recC_last, lastT_snoc, if_pos rfl]
  · rw [if_neg h1]
    by_cases h2 : o = j
    · subst h2
      rw [if_pos rfl, if_pos (by omega), recC_paid _ _ h16, paidB_snoc, ho]
      simp
    · rw [if_neg h2]
      by_cases h3 : j < 16
      · rw [recC_paid _ _ h3, recC_paid _ _ h3, paidB_snoc, ho, decide_eq_false (p := (o : Int) = (j : Int)) (by omega)]
        simp
      · rw [Array.getElem?_eq_none (by rw [recC_size]; omega), Array.getElem?_eq_none (by rw [recC_size]; omega)]
theorem set_row {cs : Array Value} {i : Nat} {v : Value} (hi : i < cs.size) (hv : v.cells = #[v]) : (cs.toList.take i ++ v.cells.toList ++ cs.toList.drop (i + 1)).toArray = (cs.toList.set i v).toArray := by
  rw [List.set_eq_take_append_cons_drop, if_pos (by rw [Array.length_toList]; exact hi), hv, List.append_assoc]
  rfl

/- The records of all tickets, and the map that leads to them. No program in sight. -/

def tkAt (tk : List Int) (i : Nat) : Int := tk.getD i 0
def Tix (tk : List Int) : Prop := ∀ i j, i < j → j < tk.length → ¬ tkAt tk i = tkAt tk j
def ptrAt (β : Nat → Nat) (i : Nat) : Value := .pointer (some ⟨β i, 0, none⟩)
def recF (tk : List Int) (β : Nat → Nat) (rt : TypeId) (ps : List Scn) (i : Nat) : Res := Box (β i) rt (recC ps (tkAt tk i))
def mapK (tk : List Int) (β : Nat → Nat) : Nat → List (Int × Value)
  | 0 => []
  | k + 1 => aset (mapK tk β k) (tkAt tk k) (ptrAt β k)
theorem Tix.inj {tk : List Int} (h : Tix tk) {i j : Nat} (hi : i < tk.length) (hj : j < tk.length) (he : tkAt tk i = tkAt tk j) : i = j := by
  rcases Nat.lt_trichotomy i j with h1 | h1 | h1
  · exact absurd he (h i j h1 hj)
  · exact h1
  · exact absurd he.symm (h j i h1 hi)
theorem mapK_old {tk : List Int} {β : Nat → Nat} (h : Tix tk) : ∀ k, k ≤ tk.length → ∀ i, i < k → aget (mapK tk β k) (tkAt tk i) = some (ptrAt β i)
  | 0, _, i, hi => by omega
  | k + 1, hk, i, hi => by
    show aget (aset (mapK tk β k) (tkAt tk k) (ptrAt β k)) (tkAt tk i) = _
    rw [aget_aset]
    split
    · rename_i he
      rw [h.inj (by omega) (by omega) he]
    · rename_i he
      exact mapK_old h k (by omega) i (by
        have : ¬ i = k := fun hc => he (by rw [hc])
        omega)
theorem mapK_none {tk : List Int} {β : Nat → Nat} {t : Int} : ∀ k, (∀ i, i < k → ¬ tkAt tk i = t) → aget (mapK tk β k) t = none
  | 0, _ => rfl
  | k + 1, h => by
    show aget (aset (mapK tk β k) (tkAt tk k) (ptrAt β k)) t = _
    rw [aget_aset, if_neg (h k (by omega))]
    exact mapK_none k fun i hi => h i (by omega)
theorem mapK_congr {tk : List Int} {β β' : Nat → Nat} : ∀ k, (∀ i, i < k → β i = β' i) → mapK tk β k = mapK tk β' k
  | 0, _ => rfl
  | k + 1, h => by
    show aset (mapK tk β k) (tkAt tk k) (ptrAt β k) = aset (mapK tk β' k) (tkAt tk k) (ptrAt β' k)
    rw [mapK_congr k fun i hi => h i (by omega)]
    unfold ptrAt
    rw [h k (by omega)]
theorem tk_has {tk : List Int} {t : Int} (h : hasB tk t = true) : ∃ i, i < tk.length ∧ tkAt tk i = t := by
  obtain ⟨i, hi, he⟩ := List.getElem_of_mem (hasB_iff.1 h)
  exact ⟨i, hi, by unfold tkAt; rw [List.getD_eq_getElem?_getD, List.getElem?_eq_getElem hi]; exact he⟩
theorem tk_not {tk : List Int} {t : Int} (h : hasB tk t = false) : ∀ i, i < tk.length → ¬ tkAt tk i = t := fun i hi he => by
  have : hasB tk t = true := hasB_iff.2 (by
    rw [← he]
    unfold tkAt
    rw [List.getD_eq_getElem?_getD, List.getElem?_eq_getElem hi]
    exact List.getElem_mem hi)
  rw [this] at h
  cases h
/-- One more record. -/
theorem rec_push {tk : List Int} {β : Nat → Nat} {rt : TypeId} {k b : Nat} {ps : List Scn} {L : List Res} : Ent (Box b rt (recC ps (tkAt tk k)) :: Coll k (recF tk β rt ps) :: L) (Coll (k + 1) (recF tk (fun i => if i = k then b else β i) rt ps) :: L) :=
  Ent.trans coll_push (coll_congr fun i hi => by
    unfold setR recF
    by_cases h : i = k
    · subst h; simp
    · simp [h])
theorem rec_take {tk : List Int} {β : Nat → Nat} {rt : TypeId} {n i : Nat} {ps : List Scn} {L : List Res} (hi : i < n) : Ent (Coll n (recF tk β rt ps) :: L) (Box (β i) rt (recC ps (tkAt tk i)) :: Coll n (setR (recF tk β rt ps) i Emp) :: L) := coll_take hi
theorem rec_put {tk : List Int} {β : Nat → Nat} {rt : TypeId} {i : Nat} {ps : List Scn} {x : Scn} {L : List Res} (h : Tix tk) (hi : i < tk.length) (hx : tkAt tk i = x.tick) : Ent (Box (β i) rt (recC (ps ++ [x]) x.tick) :: Coll tk.length (setR (recF tk β rt ps) i Emp) :: L) (Coll tk.length (recF tk β rt (ps ++ [x])) :: L) :=
  Ent.trans (coll_put hi) (coll_congr fun j hj => by
    unfold setR recF
    by_cases hji : j = i
    · subst hji; simp [hx]
    · simp only [if_neg hji]
      rw [recC_other _ _ fun hc => hji (h.inj hj hi (by rw [hx, hc]))])
/-- The row of outcomes, so far. -/
def outRow (l : List Int) (n : Nat) : List Int := l ++ List.replicate (n - l.length) 0
theorem outRow_len {l : List Int} {n : Nat} (h : l.length ≤ n) : (outRow l n).length = n := by simp [outRow]; omega
theorem outRow_set {l : List Int} {n : Nat} (h : l.length < n) (v : Int) : (outRow l n).set l.length v = outRow (l ++ [v]) n := by
  unfold outRow
  rw [List.set_append_right _ _ (Nat.le_refl _), Nat.sub_self]
  obtain ⟨m, hm⟩ : ∃ m, n - l.length = m + 1 := ⟨n - l.length - 1, by omega⟩
  rw [hm, List.replicate_succ, List.set_cons_zero, List.append_assoc, List.length_append]
  have : n - (l.length + [v].length) = m := by simp; omega
  rw [this]
  rfl
theorem outRow_full {l : List Int} : outRow l l.length = l := by simp [outRow]
theorem outRow_nil (n : Nat) : outRow [] n = List.replicate n 0 := by simp [outRow]
theorem Sl.wrk {w : World} {B : Nat} {v : Value} {l : List Wrk} (h : Sl rWrk w B v l) : ∃ A c, v = .slice A l.length c ∧ l.length ≤ c ∧ l.length ≤ 9223372036854775807 ∧
    ∀ k (hk : k < l.length), ∃ ad Am cm, A = some ad ∧ ad.block < B ∧ (∀ j u, [Value.string l[k].name, .slice Am l[k].machines.length cm][j]? = some u → w.cell? (ad.add (k * 2 + j)) = some u) ∧ l[k].name.size ≤ 9223372036854775807 ∧ Sl rInt w B (.slice Am l[k].machines.length cm) l[k].machines := by
  obtain ⟨A, c, hv, h1, h2, h3⟩ := h
  refine ⟨A, c, hv, h1, by unfold maxLen at h2; omega, fun k hk => ?_⟩
  obtain ⟨ad, cs, ha, hlt, hc, Am, cm, rfl, hn, hs⟩ := h3 k hk
  exact ⟨ad, Am, cm, ha, hlt, hc, by unfold maxLen at hn; omega, hs⟩

theorem isMachine_ok (w : World) (m : Int) : Ok Tryz.prog 75 [.int .i64 m].toArray w fun x _ => x = .bool (decide (0 ≤ m ∧ m < 8)) := by
  refine ok_enter Tryz.func75 rfl Tryz.ntmps75 rfl ?_
  focus (refine gV ?_; refine gM ?_; refine gN ?_; refine gM ?_; refine gC rfl rfl rfl rfl rfl ?_; refine gM ?_; refine gw_guard_dec rfl rfl (fun _ => ?_) (fun _ => ?_); refine gM ?_; refine gC rfl rfl rfl rfl rfl ?_; refine gPt rfl rfl rfl rfl ?_; refine gM ?_; refine gO ?_; refine gR ?_; rotate_left; (iterate 2 refine gU ?_); refine gPf rfl rfl rfl rfl ?_; refine gM ?_; refine gO ?_; refine gR ?_; rotate_left)
  · refine gx_ret1 (v := .bool _) rfl rfl (fun _ _ => ?_)
    rename_i h _ _
    congr 1
    simp only [show 0 ≤ m from h, true_and]
  · refine gx_ret1 (v := .bool _) rfl rfl (fun _ _ => ?_)
    rename_i h _ _
    congr 1
    rw [decide_eq_false (fun h2 => h h2.1)]
theorem can_ok (w : World) (nm : ByteArray) (A : Option Addr) (_c m : Int) (k : Nat) (ms : List Int) (hl : Sl rInt w w.heap.size (.slice A ms.length k) ms) : Ok Tryz.prog 65 [.agg #[.string nm, .slice A ms.length k], .int .i64 m].toArray w fun x _ => x = .bool (hasB ms m) := by
  refine ok_enter Tryz.func65 rfl Tryz.ntmps65 rfl ?_
  focus (refine gV ?_; refine gw_boxd (v := .agg _) rfl rfl (fun _ => ?_); refine gM ?_; refine gN ?_; refine gF rfl rfl rfl ?_; refine gW rfl rfl rfl .here rfl ?_; refine gM ?_; apply gw_d; exact w_call rfl rfl (fun w' s => containsInt_ok w' _ ms m (hl.later s)) rfl; refine gM ?_; refine gO ?_; refine gR ?_)
  refine gx_ret1 (v := .bool _) rfl rfl (fun _ _ => ?_)
  congr 1
  unfold hasB isI
  congr 1
  funext x
  simp [eq_comm]
def machF (ms : List Int) (j : Nat) : Int := match ms[j]? with
  | some m => if ¬ (0 ≤ m ∧ m < 8) then 3 else if hasB (ms.take j) m = true then 7 else 0
  | none => 0
def machE (ms : List Int) : Int := firstE (machF ms) ms.length
def wrkE (l : List Wrk) (i : Nat) : Int := match l[i]? with
  | some x => if nameB x.name = false then 1 else if ((l.take i).any fun y => eqS y.name x.name) = true then 7 else machE x.machines
  | none => 0
def skillE (l : List Wrk) : Int := if l.length > 12 then 5 else firstE (wrkE l) l.length
def seenL (ms : List Int) : List Bool := (List.range 8).map fun i => hasB ms ((i : Nat) : Int)
theorem seenL_len (ms : List Int) : (seenL ms).length = 8 := by simp [seenL]
theorem seenL_get (ms : List Int) {m : Nat} (hm : m < 8) : (seenL ms).getD m false = hasB ms m := by
  simp [seenL, hm]
theorem seenL_snoc (ms : List Int) {m : Nat} (_hm : m < 8) : (seenL ms).set m true = seenL (ms ++ [(m : Int)]) := by
  apply List.ext_getElem
  · simp [seenL]
  · intro i h1 h2
    simp only [seenL, List.getElem_set, List.getElem_map, List.getElem_range, hasB, List.any_append]
    by_cases h : m = i
    · subst h; simp
    · have : ¬ (m : Int) = (i : Int) := by omega
      simp [h, this]
theorem skillCheck_ok (w : World) (v : Value) (l : List Wrk) (hl : Sl rWrk w w.heap.size v l) : Ok Tryz.prog 64 [v].toArray w fun x _ => x = .int .i64 (skillE l) := by
  obtain ⟨A, c, rfl, hc, hm, hcell⟩ := hl.wrk
  refine ok_enter Tryz.func64 rfl Tryz.ntmps64 rfl ?_
  focus (refine gV ?_; refine gM ?_; refine gO ?_; refine gQ ?_; refine gV ?_; refine gM ?_; refine gL rfl rfl rfl ?_; refine gC rfl rfl rfl rfl rfl ?_; refine gO ?_)
  refine gc_if_dec rfl (fun h => ?_) (fun h12 => ?_)
  · focus (refine gV ?_; refine gM ?_; refine gO ?_; refine gR ?_; refine gT ?_)
    refine gx_ret1 (v := .int _ _) rfl rfl (fun _ _ => ?_)
    unfold skillE
    rw [if_pos (by omega)]
  have hE : skillE l = firstE (wrkE l) l.length := by unfold skillE; rw [if_neg (by omega)]
  rw [hE]
  focus (refine gK ?_; refine gX ?_; refine gQ ?_; refine gV ?_; refine gM ?_; refine gL rfl rfl rfl ?_; refine gM ?_; refine gO ?_; refine gB ?_)
  refine gc_loopK (σ := Nat) [16, 17, 18, 19, 4, 3, 20, 21, 22, 23, 24, 2, 25, 26, 27, 28, 29, 30, 31, 32, 6, 33, 34, 35, 36, 37, 38, 7, 39, 40, 41, 42, 43, 44, 45, 9, 46, 47, 48, 49, 50, 51, 52, 53, 54, 55, 15] (fun k => [(15, .int .i64 k)]) (fun k => k ≤ l.length ∧ firstE (wrkE l) k = 0) (fun k => l.length - k) 0 ⟨Nat.zero_le _, rfl⟩ ⟨rfl, trivial⟩ ?_
  rintro k base ⟨hk, hI⟩
  focus (refine gV ?_; refine gC rfl rfl rfl rfl rfl ?_; refine gO ?_; refine gQ ?_)
  refine gc_if_dec rfl (fun h => ?_) (fun h => ?_)
  · have hlt : k < l.length := by omega
    obtain ⟨ad, Am, cm, rfl, hb, hce, hnm, hms⟩ := hcell k hlt
    have hW : wrkE l k = if nameB l[k].name = false then 1 else if ((l.take k).any fun y => eqS y.name l[k].name) = true then 7 else machE l[k].machines := by
      unfold wrkE
      rw [List.getElem?_eq_getElem hlt]
    focus (refine gK ?_; refine gX ?_; refine gQ ?_; refine gB ?_; refine gV ?_; refine gM ?_; apply gw_d; exact w_index rfl rfl rfl rfl (by with_reducible exact rfl) (by omega); apply gw_d; exact w_load_elem rfl rfl rfl (by assumption) (by assumption) (by rfl); refine w_alloc rfl (fun _ => ?_); refine gM ?_; refine w_store_all rfl rfl rfl rfl rfl .here rfl ?_; refine gO ?_; refine gQ ?_; refine gV ?_; refine gF rfl rfl rfl ?_; refine gW rfl rfl rfl .here rfl ?_)
    focus (apply gw_d; exact w_buildP [(0, .int .i64 2), (2, .string l[k].name)] (cells := #[.int .i64 2, .bool false, .slice none 0 0, .slice none 0 0, .string l[k].name, .slice none 0 0]) (by rfl) rfl rfl rfl; apply gw_d; exact w_call rfl rfl (fun w _ => fcheck_ok w l[k].name hnm) rfl; refine gC rfl rfl rfl rfl rfl ?_; refine gO ?_)
    refine gc_if_dec rfl (fun h => ?_) (fun h => ?_)
    · focus (refine gV ?_; refine gM ?_; refine gO ?_; refine gR ?_; refine gT ?_; refine gY ?_; (iterate 2 refine gT ?_); refine gY ?_; refine gT ?_)
      refine gx_ret1 (v := .int _ _) rfl rfl (fun _ _ => ?_)
      have hn : nameB l[k].name = false := by cases h2 : nameB l[k].name <;> simp_all
      rw [if_pos hn] at hW
      rw [firstE_stop hI (by rw [hW]; decide) hlt, hW]
    have hn : nameB l[k].name = true := by cases h2 : nameB l[k].name <;> simp_all
    rw [if_neg (by rw [hn]; decide)] at hW
    focus (refine gK ?_; refine gX ?_; refine gQ ?_; refine gV ?_; (iterate 2 refine gM ?_); apply gw_d; exact w_cut_hi rfl rfl rfl rfl (by with_reducible exact rfl) (by omega); refine gL rfl rfl rfl ?_; refine gM ?_; refine gO ?_; refine gB ?_)
    refine gc_loopK (σ := Nat) [30, 31, 32, 6, 33, 34, 35, 36, 37, 2, 38, 29] (fun j => [(29, .int .i64 j)]) (fun j => j ≤ k ∧ ((l.take j).any fun y => eqS y.name l[k].name) = false) (fun j => k - j) 0 ⟨Nat.zero_le _, rfl⟩ ⟨rfl, trivial⟩ ?_
    rintro j base2 ⟨hj, hJ⟩
    focus (refine gV ?_; refine gC rfl rfl rfl rfl rfl ?_; refine gO ?_; refine gQ ?_)
    refine gc_if_dec rfl (fun h => ?_) (fun h => ?_)
    · have hjl : j < l.length := by omega
      obtain ⟨ad2, Am2, cm2, h2, hb2, hce2, _, _⟩ := hcell j hjl
      injection h2 with h2
      subst h2
      focus (refine gK ?_; refine gX ?_; refine gQ ?_; refine gB ?_; refine gV ?_; apply gw_d; exact w_index rfl rfl rfl rfl (by with_reducible exact rfl) (by omega); apply gw_d; exact w_load_elem rfl rfl rfl (by assumption) (by assumption) (by rfl); refine w_alloc rfl (fun _ => ?_); refine w_store_all rfl rfl rfl rfl rfl .here rfl ?_; refine gN ?_; refine gF rfl rfl rfl ?_; refine gW rfl rfl rfl .here rfl ?_; refine gF rfl rfl rfl ?_; refine gW rfl rfl rfl (.there .here) rfl ?_; apply gw_d; exact det_seq rfl rfl rfl rfl; refine gO ?_)
      refine gc_if rfl (fun h => ?_) (fun h => ?_)
      · focus (refine gV ?_; refine gM ?_; refine gO ?_; refine gR ?_; refine gY ?_; (iterate 2 refine gT ?_); refine gY ?_; refine gT ?_; refine gY ?_; (iterate 2 refine gT ?_); refine gY ?_; refine gT ?_)
        refine gx_ret1 (v := .int _ _) rfl rfl (fun _ _ => ?_)
        rw [if_pos (List.any_eq_true.2 ⟨l[j], List.mem_take_iff_getElem.2 ⟨j, by omega, rfl⟩, h⟩)] at hW
        rw [firstE_stop hI (by rw [hW]; decide) hlt, hW]
      · focus (refine gK ?_; refine gH ?_; refine gX ?_; refine gG ?_; refine gA rfl rfl rfl rfl rfl (by omega) ?_; refine gM ?_; refine gw_nil ?_)
        exact gx_round (j + 1) ⟨by omega, take_any_snoc hjl hJ h⟩ (by omega) (by repeat (first | exact Keeps.refl | refine Keeps.upd rfl ?_ | refine Keeps.sets rfl ?_ | refine Keeps.havoc rfl ?_)) ⟨rfl, trivial⟩ Sub.tail
    obtain rfl : j = k := by omega
    rw [if_neg (by rw [hJ]; decide)] at hW
    obtain ⟨_, _, hv, hmc, hmm, hmcell⟩ := hms.int
    injection hv with e1 e2 e3
    subst e1 e3
    focus (refine gI ?_; (iterate 2 refine gZ ?_); refine gJ ?_; refine gX ?_; refine gV ?_; refine w_alloc rfl (fun _ => ?_); refine gN ?_; refine gF rfl rfl rfl ?_; refine gW rfl rfl rfl (.there .here) rfl ?_; refine gL rfl rfl rfl ?_; refine gM ?_; refine gO ?_; refine gB ?_)
    refine gc_loop1 (σ := Nat) [43, 44, 45, 9, 46, 47, 48, 2, 49, 50, 51, 52, 53, 54, 42] (fun i => [(42, .int .i64 i)]) (fun i => Box _ 157 ((seenL (l[j].machines.take i)).map Value.bool).toArray) (fun i => i ≤ l[j].machines.length ∧ firstE (machF l[j].machines) i = 0) (fun i => l[j].machines.length - i) 0 ⟨Nat.zero_le _, rfl⟩ ⟨rfl, trivial⟩ rfl ?_
    rintro i base3 ⟨hi, hM⟩
    focus (refine gV ?_; refine gC rfl rfl rfl rfl rfl ?_; refine gO ?_; refine gQ ?_)
    refine gc_if_dec rfl (fun h => ?_) (fun h => ?_)
    · have hil : i < l[j].machines.length := by omega
      obtain ⟨ad3, rfl, hb3, hce3, _⟩ := hmcell i hil
      have hF : machF l[j].machines i = if ¬ (0 ≤ l[j].machines[i] ∧ l[j].machines[i] < 8) then 3 else if hasB (l[j].machines.take i) l[j].machines[i] = true then 7 else 0 := by
        unfold machF
        rw [List.getElem?_eq_getElem hil]
      focus (refine gK ?_; refine gX ?_; refine gQ ?_; refine gB ?_; refine gV ?_; apply gw_d; exact w_index rfl rfl rfl rfl (by with_reducible exact rfl) (by omega); apply gw_d; exact w_load_at rfl rfl rfl (by assumption) (by assumption); refine gM ?_; refine gO ?_; refine gQ ?_; refine gV ?_; refine gM ?_; apply gw_d; exact w_call rfl rfl (fun w _ => isMachine_ok w _) rfl; apply gw_d; exact det_not_dec rfl rfl rfl; refine gO ?_)
      refine gc_if rfl (fun h => ?_) (fun h => ?_)
      · focus (refine gV ?_; refine gM ?_; refine gO ?_; refine gR ?_; refine gT ?_; refine gY ?_; (iterate 2 refine gT ?_); (iterate 2 refine gY ?_); (iterate 2 refine gT ?_); refine gY ?_; refine gT ?_)
        refine gx_ret1 (v := .int _ _) rfl rfl (fun _ _ => ?_)
        have h' : ¬ (0 ≤ l[j].machines[i] ∧ l[j].machines[i] < 8) := by
          have h9 : l[j].machines[i] < 0 ∨ 8 ≤ l[j].machines[i] := by simpa using h
          omega
        rw [if_pos h'] at hF
        have hME : machE l[j].machines = 3 := by unfold machE; rw [firstE_stop hM (by rw [hF]; decide) hil, hF]
        rw [hME] at hW
        rw [firstE_stop hI (by rw [hW]; decide) hlt, hW]
      have h8 : 0 ≤ l[j].machines[i] ∧ l[j].machines[i] < 8 := by simpa using h
      obtain ⟨m, hmm⟩ : ∃ m : Nat, l[j].machines[i] = (m : Int) := ⟨l[j].machines[i].toNat, by omega⟩
      have hm8 : m < 8 := by omega
      rw [hmm] at hF
      rw [if_neg (by omega)] at hF
      have hsl := seenL_len (l[j].machines.take i)
      have hg : ((seenL (l[j].machines.take i)).map Value.bool).toArray[m * 1]? = some (.bool ((seenL (l[j].machines.take i)).getD m false)) := row_get Value.bool false (by omega)
      rw [seenL_get _ hm8] at hg
      focus (refine gK ?_; refine gX ?_; refine gQ ?_; refine gV ?_; refine gM ?_; apply gw_d; exact w_index_arr (m := m) rfl rfl rfl rfl hmm hm8; apply gw_d; exact w_load_row rfl rfl rfl .here hg; refine gO ?_)
      refine gc_if rfl (fun h => ?_) (fun h => ?_)
      · focus (refine gV ?_; refine gM ?_; refine gO ?_; refine gR ?_; refine gT ?_; refine gY ?_; (iterate 2 refine gT ?_); (iterate 2 refine gY ?_); (iterate 2 refine gT ?_); refine gY ?_; refine gT ?_)
        refine gx_ret1 (v := .int _ _) rfl rfl (fun _ _ => ?_)
        rw [if_pos h] at hF
        have hME : machE l[j].machines = 7 := by unfold machE; rw [firstE_stop hM (by rw [hF]; decide) hil, hF]
        rw [hME] at hW
        rw [firstE_stop hI (by rw [hW]; decide) hlt, hW]
      rw [if_neg (by rw [h]; decide)] at hF
      focus (refine gK ?_; refine gX ?_; refine gG ?_; refine gM ?_; apply gw_d; exact w_index_arr (m := m) rfl rfl rfl rfl hmm hm8)
      refine w_store_row (n := 1) (v := .bool true) rfl rfl rfl rfl rfl .here (by simp; omega) (row_set Value.bool (by omega) true) ?_
      rw [seenL_snoc _ hm8, ← hmm, ← List.take_succ_eq_append_getElem hil]
      focus (refine gw_nil ?_; refine gH ?_; refine gX ?_; refine gG ?_; refine gA rfl rfl rfl rfl rfl (by omega) ?_; refine gM ?_; refine gw_nil ?_)
      exact gx_round (i + 1) ⟨by omega, firstE_snoc hM hF⟩ (by omega) (by repeat (first | exact Keeps.refl | refine Keeps.upd rfl ?_ | refine Keeps.sets rfl ?_ | refine Keeps.havoc rfl ?_)) ⟨rfl, trivial⟩ (Sub.all _)
    · obtain rfl : i = l[j].machines.length := by omega
      have hME : machE l[j].machines = 0 := hM
      rw [hME] at hW
      focus (refine gI ?_; (iterate 2 refine gZ ?_); refine gJ ?_; refine gH ?_; refine gX ?_; refine gG ?_; refine gA rfl rfl rfl rfl rfl (by omega) ?_; refine gM ?_; refine gw_nil ?_)
      exact gx_round (j + 1) ⟨by omega, firstE_snoc hI hW⟩ (by omega) (by repeat (first | exact Keeps.refl | refine Keeps.upd rfl ?_ | refine Keeps.sets rfl ?_ | refine Keeps.havoc rfl ?_)) ⟨rfl, trivial⟩ (Sub.weak (Sub.weak (Sub.all _)))
  · obtain rfl : k = l.length := by omega
    focus (refine gI ?_; (iterate 2 refine gZ ?_); refine gJ ?_; refine gX ?_; refine gV ?_; refine gM ?_; refine gO ?_; refine gR ?_)
    refine gx_ret1 (v := .int _ _) rfl rfl (fun _ _ => ?_)
    rw [hI]
theorem Sl.bun {w : World} {B : Nat} {v : Value} {l : List Bun} (h : Sl rBun w B v l) : ∃ A c, v = .slice A l.length c ∧ l.length ≤ c ∧ l.length ≤ 9223372036854775807 ∧
    ∀ k (hk : k < l.length), ∃ ad, A = some ad ∧ ad.block < B ∧ (∀ j u, [Value.int .i64 l[k].tick, .int .i64 l[k].garm, .int .i64 l[k].size, .int .i64 l[k].lot, .int .i64 l[k].fr, .int .i64 l[k].upto][j]? = some u → w.cell? (ad.add (k * 6 + j)) = some u) ∧ inI64 l[k].tick ∧ inI64 l[k].fr ∧ inI64 l[k].upto := by
  obtain ⟨A, c, hv, h1, h2, h3⟩ := h
  refine ⟨A, c, hv, h1, by unfold maxLen at h2; omega, fun k hk => ?_⟩
  obtain ⟨ad, cs, ha, hlt, hc, rfl, hr⟩ := h3 k hk
  exact ⟨ad, ha, hlt, hc, hr⟩
def bunE (l : List Bun) (i : Nat) : Int := match l[i]? with
  | some b => if b.fr ≥ b.upto ∨ b.upto - b.fr > 40 then 3 else if ((l.take i).any fun y => decide (y.tick = b.tick)) = true then 7 else 0
  | none => 0
def scanE (e : Int) (bs : List Bun) (ws : List Wrk) : Int := if ¬ e = 0 then e else if bs.length > 60 then 5 else if ¬ firstE (bunE bs) bs.length = 0 then firstE (bunE bs) bs.length else skillE ws
theorem wrap_u64 (i : Int) : IntKind.u64.wrap i = i % 18446744073709551616 := by
  unfold IntKind.wrap
  rfl
theorem scanCheck_ok (w : World) (v0 v1 v2 v3 v4 v5 v6 vb vw : Value) (e : Int) (bs : List Bun) (ws : List Wrk) (hO : ∀ (L : List Res) (w' : World), St w L w' → Ok Tryz.prog 63 [.agg #[v0, v1, v2, v3, v4, v5, v6]].toArray w' fun x _ => x = .int .i64 e)
    (hb : Sl rBun w w.heap.size vb bs) (hw : Sl rWrk w w.heap.size vw ws) : Ok Tryz.prog 53 [.agg #[v0, v1, v2, v3, v4, v5, v6], vb, vw].toArray w fun x _ => x = .int .i64 (scanE e bs ws) := by
  obtain ⟨A, c, rfl, hc, hm, hcell⟩ := hb.bun
  obtain ⟨Aw, cw, rfl, hwc, hwm, _⟩ := hw.wrk
  refine ok_enter Tryz.func53 rfl Tryz.ntmps53 rfl ?_
  focus (refine gV ?_; refine gw_boxd (v := .agg _) rfl rfl (fun _ => ?_); refine gM ?_; refine gO ?_; refine gQ ?_; refine gV ?_; apply gw_d; exact w_load_boxN rfl rfl rfl .here rfl; apply gw_d; exact w_call rfl rfl (hO _) rfl; refine gM ?_; refine gN ?_; refine gM ?_; refine gC rfl rfl rfl rfl rfl ?_; refine gO ?_)
  refine gc_if_dec rfl (fun h => ?_) (fun h => ?_)
  · focus (refine gV ?_; (iterate 2 refine gM ?_); refine gO ?_; refine gR ?_; refine gT ?_)
    refine gx_ret1 (v := .int _ _) rfl rfl (fun _ _ => ?_)
    unfold scanE
    rw [if_pos h]
  have he : e = 0 := by simpa using h
  focus (refine gK ?_; refine gX ?_; refine gQ ?_; refine gV ?_; refine gM ?_; refine gL rfl rfl rfl ?_; refine gC rfl rfl rfl rfl rfl ?_; refine gO ?_)
  refine gc_if_dec rfl (fun h => ?_) (fun h60 => ?_)
  · focus (refine gV ?_; refine gM ?_; refine gO ?_; refine gR ?_; refine gT ?_)
    refine gx_ret1 (v := .int _ _) rfl rfl (fun _ _ => ?_)
    unfold scanE
    rw [if_neg (by rw [he]; decide), if_pos (by omega)]
  have hE : scanE e bs ws = if ¬ firstE (bunE bs) bs.length = 0 then firstE (bunE bs) bs.length else skillE ws := by
    unfold scanE
    rw [if_neg (by rw [he]; decide), if_neg (by omega)]
  rw [hE]
  focus (refine gK ?_; refine gX ?_; refine gQ ?_; refine gV ?_; refine gM ?_; refine gL rfl rfl rfl ?_; refine gM ?_; refine gO ?_; refine gB ?_)
  refine gc_loopK (σ := Nat) [23, 24, 25, 26, 9, 8, 27, 28, 29, 30, 31, 32, 33, 34, 35, 36, 37, 38, 39, 40, 41, 6, 42, 43, 44, 45, 46, 47, 48, 49, 11, 50, 51, 52, 53, 54, 55, 56, 22] (fun k => [(22, .int .i64 k)]) (fun k => k ≤ bs.length ∧ firstE (bunE bs) k = 0) (fun k => bs.length - k) 0 ⟨Nat.zero_le _, rfl⟩ ⟨rfl, trivial⟩ ?_
  rintro k base ⟨hk, hI⟩
  focus (refine gV ?_; refine gC rfl rfl rfl rfl rfl ?_; refine gO ?_; refine gQ ?_)
  refine gc_if_dec rfl (fun h => ?_) (fun h => ?_)
  · have hlt : k < bs.length := by omega
    obtain ⟨ad, rfl, hbk, hce, h1, h2, h3⟩ := hcell k hlt
    unfold inI64 at h1 h2 h3
    have hW : bunE bs k = if bs[k].fr ≥ bs[k].upto ∨ bs[k].upto - bs[k].fr > 40 then 3 else if ((bs.take k).any fun y => decide (y.tick = bs[k].tick)) = true then 7 else 0 := by
      unfold bunE
      rw [List.getElem?_eq_getElem hlt]
    have hstop : ∀ x : Int, bunE bs k = x → ¬ x = 0 → (if ¬ firstE (bunE bs) bs.length = 0 then firstE (bunE bs) bs.length else skillE ws) = x := fun x hx hx0 => by
      have := firstE_stop hI (by rw [hx]; exact hx0) hlt
      rw [this, hx, if_pos hx0]
    focus (refine gK ?_; refine gX ?_; refine gQ ?_; refine gB ?_; refine gV ?_; refine gM ?_; apply gw_d; exact w_index rfl rfl rfl rfl (by with_reducible exact rfl) (by omega); apply gw_d; exact w_load_elem rfl rfl rfl (by assumption) (by assumption) (by rfl); refine w_alloc rfl (fun _ => ?_); refine gM ?_; refine w_store_all rfl rfl rfl rfl rfl .here rfl ?_; refine gO ?_; refine gQ ?_; refine gV ?_; refine gF rfl rfl rfl ?_; refine gW rfl rfl rfl .here rfl ?_; refine gF rfl rfl rfl ?_; refine gW rfl rfl rfl .here rfl ?_; refine gC rfl rfl rfl rfl rfl ?_; refine gM ?_)
    by_cases h4 : bs[k].fr ≥ bs[k].upto
    · rw [if_pos (.inl h4)] at hW
      focus (refine gw_guard_dec rfl rfl (fun _ => ?_) (fun _ => ?_); (iterate 8 refine gU ?_); refine gPt rfl rfl rfl rfl ?_; refine gO ?_; refine gc_if_true rfl ?_; refine gV ?_; refine gM ?_; refine gO ?_; refine gR ?_; refine gT ?_; refine gY ?_; (iterate 2 refine gT ?_); refine gY ?_; refine gT ?_; rotate_left; refine gF rfl rfl rfl ?_; refine gW rfl rfl rfl .here rfl ?_; rotate_left)
      all_goals first | (exfalso; omega) | skip
      refine gx_ret1 (v := .int _ _) rfl rfl (fun _ _ => ?_)
      rw [hstop 3 hW (by decide)]
    have hu : (bs[k].upto % 18446744073709551616 - bs[k].fr % 18446744073709551616) % 18446744073709551616 = bs[k].upto - bs[k].fr := by omega
    by_cases h5 : bs[k].upto - bs[k].fr > 40
    · rw [if_pos (.inr h5)] at hW
      focus (refine gw_guard_dec rfl rfl (fun _ => ?_) (fun _ => ?_); (iterate 8 refine gU ?_); refine gPt rfl rfl rfl rfl ?_; refine gO ?_; refine gc_if_true rfl ?_; refine gV ?_; refine gM ?_; refine gO ?_; refine gR ?_; refine gT ?_; refine gY ?_; (iterate 2 refine gT ?_); refine gY ?_; refine gT ?_; rotate_left; refine gF rfl rfl rfl ?_; refine gW rfl rfl rfl .here rfl ?_; apply gw_d; exact det_conv (r := bs[k].upto % 18446744073709551616) rfl rfl rfl (wrap_u64 _); refine gF rfl rfl rfl ?_; refine gW rfl rfl rfl .here rfl ?_; apply gw_d; exact det_conv (r := bs[k].fr % 18446744073709551616) rfl rfl rfl (wrap_u64 _); apply gw_d; exact det_eq (c' := .int .u64 (bs[k].upto - bs[k].fr)) (det_ar_wrap rfl rfl rfl rfl rfl) (by rw [wrap_u64, hu]); refine gC rfl rfl rfl rfl rfl ?_; refine gPf rfl rfl rfl rfl ?_; refine gO ?_; refine gc_if_dec rfl (fun _ => ?_) (fun _ => ?_); refine gV ?_; refine gM ?_; refine gO ?_; refine gR ?_; refine gT ?_; refine gY ?_; (iterate 2 refine gT ?_); refine gY ?_; refine gT ?_; rotate_left; refine gK ?_; refine gX ?_; refine gV ?_; (iterate 2 refine gM ?_); apply gw_d; exact w_cut_hi rfl rfl rfl rfl (by with_reducible exact rfl) (by omega); refine gL rfl rfl rfl ?_; refine gM ?_; refine gO ?_; refine gB ?_; rotate_left)
      all_goals first | (exfalso; omega) | skip
      refine gx_ret1 (v := .int _ _) rfl rfl (fun _ _ => ?_)
      rw [hstop 3 hW (by decide)]
    rw [if_neg (by omega)] at hW
    focus (refine gw_guard_dec rfl rfl (fun _ => ?_) (fun _ => ?_); (iterate 8 refine gU ?_); refine gPt rfl rfl rfl rfl ?_; refine gO ?_; refine gc_if_true rfl ?_; refine gV ?_; refine gM ?_; refine gO ?_; refine gR ?_; refine gT ?_; refine gY ?_; (iterate 2 refine gT ?_); refine gY ?_; refine gT ?_; rotate_left; refine gF rfl rfl rfl ?_; refine gW rfl rfl rfl .here rfl ?_; apply gw_d; exact det_conv (r := bs[k].upto % 18446744073709551616) rfl rfl rfl (wrap_u64 _); refine gF rfl rfl rfl ?_; refine gW rfl rfl rfl .here rfl ?_; apply gw_d; exact det_conv (r := bs[k].fr % 18446744073709551616) rfl rfl rfl (wrap_u64 _); apply gw_d; exact det_eq (c' := .int .u64 (bs[k].upto - bs[k].fr)) (det_ar_wrap rfl rfl rfl rfl rfl) (by rw [wrap_u64, hu]); refine gC rfl rfl rfl rfl rfl ?_; refine gPf rfl rfl rfl rfl ?_; refine gO ?_; refine gc_if_dec rfl (fun _ => ?_) (fun _ => ?_); refine gV ?_; refine gM ?_; refine gO ?_; refine gR ?_; refine gT ?_; refine gY ?_; (iterate 2 refine gT ?_); refine gY ?_; refine gT ?_; rotate_left; refine gK ?_; refine gX ?_; refine gV ?_; (iterate 2 refine gM ?_); apply gw_d; exact w_cut_hi rfl rfl rfl rfl (by with_reducible exact rfl) (by omega); refine gL rfl rfl rfl ?_; refine gM ?_; refine gO ?_; refine gB ?_; rotate_left)
    all_goals first | (exfalso; omega) | skip
    refine gc_loopK (σ := Nat) [47, 48, 49, 11, 50, 51, 52, 53, 54, 6, 55, 46] (fun j => [(46, .int .i64 j)]) (fun j => j ≤ k ∧ ((bs.take j).any fun y => decide (y.tick = bs[k].tick)) = false) (fun j => k - j) 0 ⟨Nat.zero_le _, rfl⟩ ⟨rfl, trivial⟩ ?_
    rintro j base2 ⟨hj, hJ⟩
    focus (refine gV ?_; refine gC rfl rfl rfl rfl rfl ?_; refine gO ?_; refine gQ ?_)
    refine gc_if_dec rfl (fun h => ?_) (fun h => ?_)
    · have hjl : j < bs.length := by omega
      obtain ⟨ad2, h6, hb2, hce2, _⟩ := hcell j hjl
      injection h6 with h6
      subst h6
      focus (refine gK ?_; refine gX ?_; refine gQ ?_; refine gB ?_; refine gV ?_; apply gw_d; exact w_index rfl rfl rfl rfl (by with_reducible exact rfl) (by omega); apply gw_d; exact w_load_elem rfl rfl rfl (by assumption) (by assumption) (by rfl); refine w_alloc rfl (fun _ => ?_); refine w_store_all rfl rfl rfl rfl rfl .here rfl ?_; refine gN ?_; refine gF rfl rfl rfl ?_; refine gW rfl rfl rfl .here rfl ?_; refine gF rfl rfl rfl ?_; refine gW rfl rfl rfl (.there .here) rfl ?_; refine gC rfl rfl rfl rfl rfl ?_; refine gO ?_)
      refine gc_if_dec rfl (fun h => ?_) (fun h => ?_)
      · focus (refine gV ?_; refine gM ?_; refine gO ?_; refine gR ?_; refine gY ?_; (iterate 2 refine gT ?_); (iterate 2 refine gY ?_); (iterate 2 refine gT ?_); refine gY ?_; refine gT ?_)
        refine gx_ret1 (v := .int _ _) rfl rfl (fun _ _ => ?_)
        rw [if_pos (List.any_eq_true.2 ⟨bs[j], List.mem_take_iff_getElem.2 ⟨j, by omega, rfl⟩, decide_eq_true h⟩)] at hW
        rw [hstop 7 hW (by decide)]
      · focus (refine gK ?_; refine gH ?_; refine gX ?_; refine gG ?_; refine gA rfl rfl rfl rfl rfl (by omega) ?_; refine gM ?_; refine gw_nil ?_)
        exact gx_round (j + 1) ⟨by omega, take_any_snoc hjl hJ (decide_eq_false h)⟩ (by omega) (by repeat (first | exact Keeps.refl | refine Keeps.upd rfl ?_ | refine Keeps.sets rfl ?_ | refine Keeps.havoc rfl ?_)) ⟨rfl, trivial⟩ Sub.tail
    · obtain rfl : j = k := by omega
      rw [if_neg (by rw [hJ]; decide)] at hW
      focus (refine gI ?_; (iterate 2 refine gZ ?_); refine gJ ?_; refine gH ?_; refine gX ?_; refine gG ?_; refine gA rfl rfl rfl rfl rfl (by omega) ?_; refine gM ?_; refine gw_nil ?_)
      exact gx_round (j + 1) ⟨by omega, firstE_snoc hI hW⟩ (by omega) (by repeat (first | exact Keeps.refl | refine Keeps.upd rfl ?_ | refine Keeps.sets rfl ?_ | refine Keeps.havoc rfl ?_)) ⟨rfl, trivial⟩ Sub.tail
  · obtain rfl : k = bs.length := by omega
    rw [if_neg (by rw [hI]; decide)]
    focus (refine gI ?_; (iterate 2 refine gZ ?_); refine gJ ?_; refine gX ?_; refine gV ?_; refine gM ?_; apply gw_d; exact w_call rfl rfl (fun w' s => skillCheck_ok w' _ ws (hw.later s)) rfl; refine gM ?_; refine gO ?_; refine gR ?_)
    refine gx_ret1 (v := .int _ _) rfl rfl (fun _ _ => ?_)
    rfl
def Small (l : List Opn) : Prop := l.length ≤ 16 ∧ ∀ k (hk : k < l.length), ∀ a ∈ l[k].after, 0 ≤ a ∧ a < l.length
theorem judge_nil (w : World) (vl vw : Value) (x : Scn) : Ok Tryz.prog 54 [vl, vw, .pointer none, .agg #[.int .i64 x.tick, .int .i64 x.op, .int .i64 x.who, .int .i64 x.time]].toArray w fun r _ => r = .int .i64 3 := by
  refine ok_enter Tryz.func54 rfl Tryz.ntmps54 rfl ?_
  focus (refine gV ?_; refine gw_boxd (v := .agg _) rfl rfl (fun _ => ?_); refine gM ?_; refine gO ?_; refine gQ ?_; refine gV ?_; refine gM ?_; apply gw_d; exact w_peqnil (te := 130) (by kernel_rfl) rfl rfl rfl rfl; refine gM ?_; (iterate 3 refine gU ?_); refine gPt rfl rfl rfl rfl ?_; refine gM ?_; (iterate 5 refine gU ?_); refine gPt rfl rfl rfl rfl ?_; refine gM ?_; (iterate 3 refine gU ?_); refine gPt rfl rfl rfl rfl ?_; refine gM ?_; (iterate 5 refine gU ?_); refine gPt rfl rfl rfl rfl ?_; refine gM ?_; (iterate 3 refine gU ?_); refine gPt rfl rfl rfl rfl ?_; refine gM ?_; (iterate 3 refine gU ?_); refine gPt rfl rfl rfl rfl ?_; refine gO ?_; refine gc_if_true rfl ?_; refine gV ?_; refine gM ?_; refine gO ?_; refine gR ?_; refine gT ?_)
  refine gx_ret1 (v := .int _ _) rfl rfl (fun _ _ => ?_)
  rfl
theorem judge_ok (w : World) (vl vw : Value) (b : Nat) (ty : TypeId) (l : List Opn) (ws : List Wrk) (ps : List Scn) (x : Scn) (hl : Sl rOp w w.heap.size vl l) (hw : Sl rWrk w w.heap.size vw ws) (hS : Small l)
    (hr : w.heap[b]? = some (.cells (recC ps x.tick) ty (0, 0))) :
    Ok Tryz.prog 54 [vl, vw, .pointer (some ⟨b, 0, none⟩), .agg #[.int .i64 x.tick, .int .i64 x.op, .int .i64 x.who, .int .i64 x.time]].toArray w fun r _ => r = .int .i64 (judgeE l ws ps x) := by
  obtain ⟨A, c, rfl, hc, hm⟩ := len_small hl
  obtain ⟨Aw, cw, rfl, hwc, hwm, hwcell⟩ := hw.wrk
  have hbb : (⟨b, 0, none⟩ : Addr).block < w.heap.size := (Array.getElem?_eq_some_iff.1 hr).1
  have hcell : ∀ i, w.cell? ((⟨b, 0, none⟩ : Addr).add i) = (recC ps x.tick)[i]? := fun i => by
    rw [add_zero]
    exact Box.cell (ty := ty) hr i
  have hP : ∀ m : Nat, m < 16 → w.cell? ((⟨b, 0, none⟩ : Addr).add (0 + m * 1)) = some (.bool (paidB ps x.tick m)) := fun m hm => by
    rw [hcell, Nat.zero_add, Nat.mul_one, recC_paid _ _ hm]
  have hLst : w.cell? ((⟨b, 0, none⟩ : Addr).add 16) = some (.int .i64 (lastT ps x.tick)) := by rw [hcell, recC_last]
  by_cases hK : 0 ≤ x.op ∧ x.op < l.length ∧ 0 ≤ x.who ∧ x.who < ws.length ∧ 0 ≤ x.time ∧ x.time ≤ 1073741824
  · have hE : judgeE l ws ps x = if canAt ws x.who (machAt l x.op) = false then 4 else if paidB ps x.tick x.op = true then 2 else if (afterAt l x.op).all (fun a => paidB ps x.tick a) = false then 5 else if x.time < lastT ps x.tick then 6 else 1 := by
      unfold judgeE knownB
      rw [if_neg (by rw [decide_eq_true hK]; decide)]
    rw [hE]
    obtain ⟨o, ho⟩ : ∃ o : Nat, x.op = (o : Int) := ⟨x.op.toNat, by omega⟩
    obtain ⟨m, hmw⟩ : ∃ m : Nat, x.who = (m : Int) := ⟨x.who.toNat, by omega⟩
    have hol : o < l.length := by omega
    have hml : m < ws.length := by omega
    have ho16 : o < 16 := by have := hS.1; omega
    obtain ⟨ad, _, hv, _, _, hb, hocell⟩ := hl.at' 5 rfl (by omega)
    injection hv with e1 e2 e3
    subst e1 e3
    obtain ⟨cs, hce, Aa, ca, Au, cu, rfl, hnm, q1, q2⟩ := hocell o hol
    have ha : Sl rInt w w.heap.size (.slice Aa l[o].after.length ca) l[o].after := q1
    obtain ⟨_, _, hv, hac, ham, hacell⟩ := ha.int
    injection hv with e1 e2 e3
    subst e1 e3
    obtain ⟨ad2, Am, cm, rfl, hb2, hce2, hnm2, hms⟩ := hwcell m hml
    have hcan : canAt ws x.who (machAt l x.op) = hasB ws[m].machines l[o].machine := by
      unfold canAt machAt
      rw [ho, hmw, Int.toNat_natCast, Int.toNat_natCast, List.getElem?_eq_getElem hol, List.getElem?_eq_getElem hml]
      rfl
    have haft : afterAt l x.op = l[o].after := by
      unfold afterAt
      rw [ho, Int.toNat_natCast, List.getElem?_eq_getElem hol]
      rfl
    rw [hcan, haft]
    have hPo := hP o ho16
    rw [← ho] at hPo
    have hSa := hS.2 o hol
    have hCan : ∀ (L : List Res) (w' : World), St w L w' → Ok Tryz.prog 65 [.agg #[.string ws[m].name, .slice Am ws[m].machines.length cm], .int .i64 l[o].machine].toArray w' fun x _ => x = .bool (hasB ws[m].machines l[o].machine) := fun L w' s => can_ok w' ws[m].name Am 0 l[o].machine cm ws[m].machines (hms.later s)
    refine ok_enter Tryz.func54 rfl Tryz.ntmps54 rfl ?_
    focus (refine gV ?_; refine gw_boxd (v := .agg _) rfl rfl (fun _ => ?_); refine gM ?_; refine gO ?_; refine gQ ?_; refine gV ?_; refine gM ?_; apply gw_d; exact w_peqnil (te := 130) (by kernel_rfl) rfl rfl rfl rfl; refine gM ?_; refine gF rfl rfl rfl ?_; refine gW rfl rfl rfl .here rfl ?_; refine gC rfl rfl rfl rfl rfl ?_; refine gPf rfl rfl rfl rfl ?_; refine gM ?_; refine gw_guard_dec rfl rfl (fun _ => ?_) (fun _ => ?_); (iterate 5 refine gU ?_); refine gPt rfl rfl rfl rfl ?_; refine gM ?_; (iterate 3 refine gU ?_); refine gPt rfl rfl rfl rfl ?_; refine gM ?_; (iterate 5 refine gU ?_); refine gPt rfl rfl rfl rfl ?_; refine gM ?_; (iterate 3 refine gU ?_); refine gPt rfl rfl rfl rfl ?_; refine gM ?_; (iterate 3 refine gU ?_); refine gPt rfl rfl rfl rfl ?_; refine gO ?_; refine gc_if_true rfl ?_; refine gV ?_; refine gM ?_; refine gO ?_; refine gR ?_; refine gT ?_; rotate_left; refine gF rfl rfl rfl ?_; refine gW rfl rfl rfl .here rfl ?_; refine gM ?_; refine gL rfl rfl rfl ?_; refine gC rfl rfl rfl rfl rfl ?_; refine gPf rfl rfl rfl rfl ?_; refine gM ?_; refine gw_guard_dec rfl rfl (fun _ => ?_) (fun _ => ?_); (iterate 3 refine gU ?_); refine gPt rfl rfl rfl rfl ?_; refine gM ?_; (iterate 5 refine gU ?_); refine gPt rfl rfl rfl rfl ?_; refine gM ?_; (iterate 3 refine gU ?_); refine gPt rfl rfl rfl rfl ?_; refine gM ?_; (iterate 3 refine gU ?_); refine gPt rfl rfl rfl rfl ?_; refine gO ?_; refine gc_if_true rfl ?_; refine gV ?_; refine gM ?_; refine gO ?_; refine gR ?_; refine gT ?_; rotate_left; refine gF rfl rfl rfl ?_; refine gW rfl rfl rfl .here rfl ?_; refine gC rfl rfl rfl rfl rfl ?_; refine gPf rfl rfl rfl rfl ?_; refine gM ?_; refine gw_guard_dec rfl rfl (fun _ => ?_) (fun _ => ?_); (iterate 5 refine gU ?_); refine gPt rfl rfl rfl rfl ?_; refine gM ?_; (iterate 3 refine gU ?_); refine gPt rfl rfl rfl rfl ?_; refine gM ?_; (iterate 3 refine gU ?_); refine gPt rfl rfl rfl rfl ?_; refine gO ?_; refine gc_if_true rfl ?_; refine gV ?_; refine gM ?_; refine gO ?_; refine gR ?_; refine gT ?_; rotate_left; refine gF rfl rfl rfl ?_; refine gW rfl rfl rfl .here rfl ?_; refine gM ?_; refine gL rfl rfl rfl ?_; refine gC rfl rfl rfl rfl rfl ?_; refine gPf rfl rfl rfl rfl ?_; refine gM ?_; refine gw_guard_dec rfl rfl (fun _ => ?_) (fun _ => ?_); (iterate 3 refine gU ?_); refine gPt rfl rfl rfl rfl ?_; refine gM ?_; (iterate 3 refine gU ?_); refine gPt rfl rfl rfl rfl ?_; refine gO ?_; refine gc_if_true rfl ?_; refine gV ?_; refine gM ?_; refine gO ?_; refine gR ?_; refine gT ?_; rotate_left; refine gF rfl rfl rfl ?_; refine gW rfl rfl rfl .here rfl ?_; refine gC rfl rfl rfl rfl rfl ?_; refine gPf rfl rfl rfl rfl ?_; refine gM ?_; refine gw_guard_dec rfl rfl (fun _ => ?_) (fun _ => ?_); (iterate 3 refine gU ?_); refine gPt rfl rfl rfl rfl ?_; refine gO ?_; refine gc_if_true rfl ?_; refine gV ?_; refine gM ?_; refine gO ?_; refine gR ?_; refine gT ?_; rotate_left; refine gF rfl rfl rfl ?_; refine gW rfl rfl rfl .here rfl ?_; refine gC rfl rfl rfl rfl rfl ?_; refine gPf rfl rfl rfl rfl ?_; refine gO ?_; refine gc_if_dec rfl (fun _ => ?_) (fun _ => ?_); refine gV ?_; refine gM ?_; refine gO ?_; refine gR ?_; refine gT ?_; rotate_left; refine gK ?_; refine gX ?_; refine gV ?_; refine gM ?_; refine gF rfl rfl rfl ?_; refine gW rfl rfl rfl .here rfl ?_; rotate_left)
    all_goals first | (exfalso; omega) | skip
    focus (apply gw_d; exact w_index (m := o) rfl rfl rfl rfl ho hol; apply gw_d; exact w_load_elem rfl rfl rfl (by assumption) (by assumption) (by rfl); refine w_alloc rfl (fun _ => ?_); refine w_store_all rfl rfl rfl rfl rfl .here rfl ?_; refine gO ?_; refine gQ ?_; refine gQ ?_)
    refine gc_draw 9 (by kernel_rfl) (by kernel_rfl) ?_
    focus (refine dM ?_; apply gd_d; exact w_field rfl rfl rfl; apply gd_d; exact w_load_box rfl rfl rfl (.there .here) rfl; apply gd_d; exact w_index (m := m) rfl rfl rfl rfl hmw hml; apply gd_d; exact w_load_elem rfl rfl rfl (by assumption) (by assumption) (by rfl); apply gd_d; exact w_field rfl rfl rfl; apply gd_d; exact w_load_box rfl rfl rfl .here rfl; apply gd_d; exact w_call rfl rfl (hCan _) rfl; apply gd_d; exact det_not_ rfl rfl rfl; refine gd_nil ?_; refine gO ?_)
    refine gc_if rfl (fun h => ?_) (fun h => ?_)
    · focus (refine gV ?_; refine gM ?_; refine gO ?_; refine gR ?_; refine gT ?_)
      refine gx_ret1 (v := .int _ _) rfl rfl (fun _ _ => ?_)
      rw [if_pos (by simpa using h)]
    rw [if_neg (by rw [show hasB ws[m].machines l[o].machine = true by simpa using h]; decide)]
    focus (refine gK ?_; refine gX ?_; refine gQ ?_; refine gQ ?_)
    refine gc_draw 7 (by kernel_rfl) (by kernel_rfl) ?_
    focus (refine dM ?_; apply gd_d; exact w_field rfl rfl rfl; apply gd_d; exact w_load_box rfl rfl rfl (.there .here) rfl; apply gd_d; exact w_nilcheck rfl rfl rfl; apply gd_d; exact w_field rfl rfl rfl; apply gd_d; exact w_index_arr (m := o) rfl rfl rfl rfl ho ho16; apply gd_d; exact w_load_fld rfl rfl rfl (by assumption) (by assumption); refine gd_nil ?_; refine gO ?_)
    refine gc_if rfl (fun h => ?_) (fun h => ?_)
    · focus (refine gV ?_; refine gM ?_; refine gO ?_; refine gR ?_; refine gT ?_)
      refine gx_ret1 (v := .int _ _) rfl rfl (fun _ _ => ?_)
      rw [if_pos h]
    rw [if_neg (by rw [h]; decide)]
    focus (refine gK ?_; refine gX ?_; refine gQ ?_; refine gV ?_; refine gF rfl rfl rfl ?_; refine gW rfl rfl rfl .here rfl ?_; refine gL rfl rfl rfl ?_; refine gM ?_; refine gO ?_; refine gB ?_)
    refine gc_loopK (σ := Nat) [73, 74, 75, 11, 76, 77, 78, 79, 80, 81, 82, 8, 83, 72] (fun k => [(72, .int .i64 k)]) (fun k => k ≤ l[o].after.length ∧ (l[o].after.take k).all (fun a => paidB ps x.tick a) = true) (fun k => l[o].after.length - k) 0 ⟨Nat.zero_le _, rfl⟩ ⟨rfl, trivial⟩ ?_
    rintro k base ⟨hk, hI⟩
    focus (refine gV ?_; refine gC rfl rfl rfl rfl rfl ?_; refine gO ?_; refine gQ ?_)
    refine gc_if_dec rfl (fun h2 => ?_) (fun h2 => ?_)
    · have hkl : k < l[o].after.length := by omega
      obtain ⟨ad3, rfl, hb3, hce3, _⟩ := hacell k hkl
      have hpr := hSa l[o].after[k] (List.getElem_mem hkl)
      obtain ⟨p, hp⟩ : ∃ p : Nat, l[o].after[k] = (p : Int) := ⟨l[o].after[k].toNat, by omega⟩
      have hp16 : p < 16 := by have := hS.1; omega
      have hPp := hP p hp16
      rw [← hp] at hPp
      focus (refine gK ?_; refine gX ?_; refine gQ ?_; refine gB ?_; refine gV ?_; apply gw_d; exact w_index rfl rfl rfl rfl (by with_reducible exact rfl) (by omega); apply gw_d; exact w_load_at rfl rfl rfl (by assumption) (by assumption); refine gM ?_; refine gN ?_; (iterate 2 refine gM ?_); apply gw_d; exact w_nilcheck rfl rfl rfl; refine gF rfl rfl rfl ?_; apply gw_d; exact w_index_arr (m := p) rfl rfl rfl rfl hp hp16; apply gw_d; exact w_load_fld rfl rfl rfl (by assumption) (by assumption); apply gw_d; exact det_not_ rfl rfl rfl; refine gO ?_)
      refine gc_if rfl (fun h3 => ?_) (fun h3 => ?_)
      · focus (refine gV ?_; refine gM ?_; refine gO ?_; refine gR ?_; refine gY ?_; (iterate 2 refine gT ?_); refine gY ?_; refine gT ?_)
        refine gx_ret1 (v := .int _ _) rfl rfl (fun _ _ => ?_)
        have h4 : l[o].after.all (fun a => paidB ps x.tick a) = false := by
          rw [List.all_eq_false]
          exact ⟨l[o].after[k], List.getElem_mem hkl, by simpa using h3⟩
        rw [if_pos h4]
      · focus (refine gK ?_; refine gH ?_; refine gX ?_; refine gG ?_; refine gA rfl rfl rfl rfl rfl (by omega) ?_; refine gM ?_; refine gw_nil ?_)
        refine gx_round (k + 1) ⟨by omega, ?_⟩ (by omega) (by repeat (first | exact Keeps.refl | refine Keeps.upd rfl ?_ | refine Keeps.sets rfl ?_ | refine Keeps.havoc rfl ?_)) ⟨rfl, trivial⟩ (Sub.all _)
        rw [List.take_succ_eq_append_getElem hkl, List.all_append, hI]
        have : paidB ps x.tick l[o].after[k] = true := by simpa using h3
        simp [this]
    obtain rfl : k = l[o].after.length := by omega
    rw [List.take_length] at hI
    rw [if_neg (by rw [hI]; decide)]
    focus (refine gI ?_; (iterate 2 refine gZ ?_); refine gJ ?_; refine gX ?_; refine gQ ?_; refine gQ ?_)
    refine gc_draw 7 (by kernel_rfl) (by kernel_rfl) ?_
    focus (apply gd_d; exact w_field rfl rfl rfl; apply gd_d; exact w_load_box rfl rfl rfl (.there .here) rfl; refine dM ?_; apply gd_d; exact w_nilcheck rfl rfl rfl; apply gd_d; exact w_field rfl rfl rfl; apply gd_d; exact w_load_at rfl rfl rfl (by assumption) (by assumption); apply gd_d; exact det_cmp rfl rfl rfl rfl rfl; refine gd_nil ?_; refine gO ?_)
    refine gc_if_dec rfl (fun h3 => ?_) (fun h3 => ?_)
    · focus (refine gV ?_; refine gM ?_; refine gO ?_; refine gR ?_; refine gT ?_)
      refine gx_ret1 (v := .int _ _) rfl rfl (fun _ _ => ?_)
      rw [if_pos h3]
    · focus (refine gK ?_; refine gX ?_; refine gV ?_; refine gM ?_; refine gO ?_; refine gR ?_)
      refine gx_ret1 (v := .int _ _) rfl rfl (fun _ _ => ?_)
      rw [if_neg h3]
  · have hE : judgeE l ws ps x = 3 := by
      unfold judgeE knownB
      rw [if_pos (by rw [decide_eq_false hK])]
    rw [hE]
    refine ok_enter Tryz.func54 rfl Tryz.ntmps54 rfl ?_
    focus (refine gV ?_; refine gw_boxd (v := .agg _) rfl rfl (fun _ => ?_); refine gM ?_; refine gO ?_; refine gQ ?_; refine gV ?_; refine gM ?_; apply gw_d; exact w_peqnil (te := 130) (by kernel_rfl) rfl rfl rfl rfl; refine gM ?_; refine gF rfl rfl rfl ?_; refine gW rfl rfl rfl .here rfl ?_; refine gC rfl rfl rfl rfl rfl ?_; refine gPf rfl rfl rfl rfl ?_; refine gM ?_; refine gw_guard_dec rfl rfl (fun _ => ?_) (fun _ => ?_); (iterate 5 refine gU ?_); refine gPt rfl rfl rfl rfl ?_; refine gM ?_; (iterate 3 refine gU ?_); refine gPt rfl rfl rfl rfl ?_; refine gM ?_; (iterate 5 refine gU ?_); refine gPt rfl rfl rfl rfl ?_; refine gM ?_; (iterate 3 refine gU ?_); refine gPt rfl rfl rfl rfl ?_; refine gM ?_; (iterate 3 refine gU ?_); refine gPt rfl rfl rfl rfl ?_; refine gO ?_; refine gc_if_true rfl ?_; refine gV ?_; refine gM ?_; refine gO ?_; refine gR ?_; refine gT ?_; rotate_left; refine gF rfl rfl rfl ?_; refine gW rfl rfl rfl .here rfl ?_; refine gM ?_; refine gL rfl rfl rfl ?_; refine gC rfl rfl rfl rfl rfl ?_; refine gPf rfl rfl rfl rfl ?_; refine gM ?_; refine gw_guard_dec rfl rfl (fun _ => ?_) (fun _ => ?_); (iterate 3 refine gU ?_); refine gPt rfl rfl rfl rfl ?_; refine gM ?_; (iterate 5 refine gU ?_); refine gPt rfl rfl rfl rfl ?_; refine gM ?_; (iterate 3 refine gU ?_); refine gPt rfl rfl rfl rfl ?_; refine gM ?_; (iterate 3 refine gU ?_); refine gPt rfl rfl rfl rfl ?_; refine gO ?_; refine gc_if_true rfl ?_; refine gV ?_; refine gM ?_; refine gO ?_; refine gR ?_; refine gT ?_; rotate_left; refine gF rfl rfl rfl ?_; refine gW rfl rfl rfl .here rfl ?_; refine gC rfl rfl rfl rfl rfl ?_; refine gPf rfl rfl rfl rfl ?_; refine gM ?_; refine gw_guard_dec rfl rfl (fun _ => ?_) (fun _ => ?_); (iterate 5 refine gU ?_); refine gPt rfl rfl rfl rfl ?_; refine gM ?_; (iterate 3 refine gU ?_); refine gPt rfl rfl rfl rfl ?_; refine gM ?_; (iterate 3 refine gU ?_); refine gPt rfl rfl rfl rfl ?_; refine gO ?_; refine gc_if_true rfl ?_; refine gV ?_; refine gM ?_; refine gO ?_; refine gR ?_; refine gT ?_; rotate_left; refine gF rfl rfl rfl ?_; refine gW rfl rfl rfl .here rfl ?_; refine gM ?_; refine gL rfl rfl rfl ?_; refine gC rfl rfl rfl rfl rfl ?_; refine gPf rfl rfl rfl rfl ?_; refine gM ?_; refine gw_guard_dec rfl rfl (fun _ => ?_) (fun _ => ?_); (iterate 3 refine gU ?_); refine gPt rfl rfl rfl rfl ?_; refine gM ?_; (iterate 3 refine gU ?_); refine gPt rfl rfl rfl rfl ?_; refine gO ?_; refine gc_if_true rfl ?_; refine gV ?_; refine gM ?_; refine gO ?_; refine gR ?_; refine gT ?_; rotate_left; refine gF rfl rfl rfl ?_; refine gW rfl rfl rfl .here rfl ?_; refine gC rfl rfl rfl rfl rfl ?_; refine gPf rfl rfl rfl rfl ?_; refine gM ?_; refine gw_guard_dec rfl rfl (fun _ => ?_) (fun _ => ?_); (iterate 3 refine gU ?_); refine gPt rfl rfl rfl rfl ?_; refine gO ?_; refine gc_if_true rfl ?_; refine gV ?_; refine gM ?_; refine gO ?_; refine gR ?_; refine gT ?_; rotate_left; refine gF rfl rfl rfl ?_; refine gW rfl rfl rfl .here rfl ?_; refine gC rfl rfl rfl rfl rfl ?_; refine gPf rfl rfl rfl rfl ?_; refine gO ?_; refine gc_if_dec rfl (fun _ => ?_) (fun _ => ?_); refine gV ?_; refine gM ?_; refine gO ?_; refine gR ?_; refine gT ?_; rotate_left; refine gK ?_; refine gX ?_; refine gV ?_; refine gM ?_; refine gF rfl rfl rfl ?_; refine gW rfl rfl rfl .here rfl ?_; rotate_left)
    all_goals first | (refine gx_ret1 (v := .int _ _) rfl rfl (fun _ _ => ?_); rfl) | skip
    exfalso
    omega
def ticks (bs : List Bun) : List Int := bs.map (·.tick)
theorem ticks_at {bs : List Bun} {k : Nat} (hk : k < bs.length) : tkAt (ticks bs) k = bs[k].tick := by
  unfold tkAt ticks
  simp [hk]
structure ScanOk (e : Int) (bs : List Bun) (ws : List Wrk) : Prop where
  op : e = 0
  le : bs.length ≤ 60
  tix : Tix (ticks bs)
  plies : ∀ k (hk : k < bs.length), 1 ≤ bs[k].upto - bs[k].fr ∧ bs[k].upto - bs[k].fr ≤ 40
  skill : skillE ws = 0
theorem scan_good {e : Int} {bs : List Bun} {ws : List Wrk} (h : scanE e bs ws = 0) : ScanOk e bs ws := by
  unfold scanE at h
  split at h
  · rename_i h1; exact absurd h h1
  rename_i h1
  split at h
  · cases h
  rename_i h2
  split at h
  · rename_i h3; exact absurd h h3
  rename_i h3
  have h4 : firstE (bunE bs) bs.length = 0 := by simpa using h3
  have h5 : ∀ k (hk : k < bs.length), ¬ (bs[k].fr ≥ bs[k].upto ∨ bs[k].upto - bs[k].fr > 40) ∧ ((bs.take k).any fun y => decide (y.tick = bs[k].tick)) = false := fun k hk => by
    have h6 := firstE_at h4 k hk
    unfold bunE at h6
    rw [List.getElem?_eq_getElem hk] at h6
    dsimp only at h6
    split at h6
    · cases h6
    · rename_i h7
      split at h6
      · cases h6
      · rename_i h8; exact ⟨h7, by simpa using h8⟩
  refine ⟨by simpa using h1, by omega, fun i j hij hj => ?_, fun k hk => by have := (h5 k hk).1; omega, h⟩
  have hj' : j < bs.length := by simpa [ticks] using hj
  rw [ticks_at (by omega), ticks_at hj']
  intro hc
  have := List.any_eq_false.1 (h5 j hj').2 bs[i] (List.mem_take_iff_getElem.2 ⟨i, by omega, rfl⟩)
  simp [hc] at this
theorem Sl.scn {w : World} {B : Nat} {v : Value} {l : List Scn} (h : Sl rScn w B v l) : ∃ A c, v = .slice A l.length c ∧ l.length ≤ c ∧ l.length ≤ 9223372036854775807 ∧
    ∀ k (hk : k < l.length), ∃ ad, A = some ad ∧ ad.block < B ∧ (∀ j u, [Value.int .i64 l[k].tick, .int .i64 l[k].op, .int .i64 l[k].who, .int .i64 l[k].time][j]? = some u → w.cell? (ad.add (k * 4 + j)) = some u) ∧ inI64 l[k].tick ∧ inI64 l[k].op ∧ inI64 l[k].who ∧ inI64 l[k].time := by
  obtain ⟨A, c, hv, h1, h2, h3⟩ := h
  refine ⟨A, c, hv, h1, by unfold maxLen at h2; omega, fun k hk => ?_⟩
  obtain ⟨ad, cs, ha, hlt, hc, rfl, hr⟩ := h3 k hk
  exact ⟨ad, ha, hlt, hc, hr⟩
theorem judgeAll_bad (w : World) (v0 v1 v2 v3 v4 v5 v6 vb vw vx : Value) (e : Int) (bs : List Bun) (ws : List Wrk) (hO : ∀ (L : List Res) (w' : World), St w L w' → Ok Tryz.prog 63 [.agg #[v0, v1, v2, v3, v4, v5, v6]].toArray w' fun x _ => x = .int .i64 e)
    (hb : Sl rBun w w.heap.size vb bs) (hw : Sl rWrk w w.heap.size vw ws) (he : ¬ scanE e bs ws = 0) : Ok Tryz.prog 43 [.agg #[v0, v1, v2, v3, v4, v5, v6], vb, vw, vx].toArray w fun x _ => x = .tuple #[.slice none 0 0, .map none, .int .i64 (scanE e bs ws)] := by
  have hC : ∀ (L : List Res) (w' : World), St w L w' → Ok Tryz.prog 53 [.agg #[v0, v1, v2, v3, v4, v5, v6], vb, vw].toArray w' fun x _ => x = .int .i64 (scanE e bs ws) := fun L w' s => scanCheck_ok w' v0 v1 v2 v3 v4 v5 v6 vb vw e bs ws (fun L' w2 s2 => hO [] w2 ⟨s.below.trans (Below.mono s2.below s.below.size), trivial⟩) (hb.later s) (hw.later s)
  refine ok_enter Tryz.func43 rfl Tryz.ntmps43 rfl ?_
  focus (refine gV ?_; refine gw_boxd (v := .agg _) rfl rfl (fun _ => ?_); (iterate 3 refine gM ?_); refine gO ?_; refine gQ ?_; refine gV ?_; apply gw_d; exact w_load_boxN rfl rfl rfl .here rfl; (iterate 2 refine gM ?_); apply gw_d; exact w_call rfl rfl (hC _) rfl; refine gM ?_; refine gN ?_; refine gM ?_; refine gC rfl rfl rfl rfl rfl ?_; refine gO ?_)
  refine gc_if_dec rfl (fun h => ?_) (fun h => absurd he h)
  focus (refine gV ?_; (iterate 4 refine gM ?_); refine gO ?_; refine gR ?_; refine gT ?_)
  refine gx_ret3 (u := .slice _ _ _) (v := .map _) (x := .int _ _) rfl rfl rfl rfl (fun _ _ => ?_)
  rfl
theorem judgeAll_long (w : World) (v0 v1 v2 v3 v4 v5 v6 vb vw vx : Value) (e : Int) (bs : List Bun) (ws : List Wrk) (xs : List Scn) (hO : ∀ (L : List Res) (w' : World), St w L w' → Ok Tryz.prog 63 [.agg #[v0, v1, v2, v3, v4, v5, v6]].toArray w' fun x _ => x = .int .i64 e)
    (hb : Sl rBun w w.heap.size vb bs) (hw : Sl rWrk w w.heap.size vw ws) (hx : Sl rScn w w.heap.size vx xs) (he : scanE e bs ws = 0) (h300 : xs.length > 300) : Ok Tryz.prog 43 [.agg #[v0, v1, v2, v3, v4, v5, v6], vb, vw, vx].toArray w fun x _ => x = .tuple #[.slice none 0 0, .map none, .int .i64 5] := by
  have hC : ∀ (L : List Res) (w' : World), St w L w' → Ok Tryz.prog 53 [.agg #[v0, v1, v2, v3, v4, v5, v6], vb, vw].toArray w' fun x _ => x = .int .i64 0 := fun L w' s => by
    have := scanCheck_ok w' v0 v1 v2 v3 v4 v5 v6 vb vw e bs ws (fun L' w2 s2 => hO [] w2 ⟨s.below.trans (Below.mono s2.below s.below.size), trivial⟩) (hb.later s) (hw.later s)
    rw [he] at this
    exact this
  obtain ⟨Ax, cx, rfl, hxc, hxm, hxcell⟩ := hx.scn
  refine ok_enter Tryz.func43 rfl Tryz.ntmps43 rfl ?_
  focus (refine gV ?_; refine gw_boxd (v := .agg _) rfl rfl (fun _ => ?_); (iterate 3 refine gM ?_); refine gO ?_; refine gQ ?_; refine gV ?_; apply gw_d; exact w_load_boxN rfl rfl rfl .here rfl; (iterate 2 refine gM ?_); apply gw_d; exact w_call rfl rfl (hC _) rfl; refine gM ?_; refine gN ?_; refine gM ?_; refine gC rfl rfl rfl rfl rfl ?_; refine gO ?_)
  refine gc_if_dec rfl (fun h => absurd rfl h) (fun _ => ?_)
  focus (refine gK ?_; refine gX ?_; refine gQ ?_; refine gV ?_; refine gM ?_; refine gL rfl rfl rfl ?_; refine gC rfl rfl rfl rfl rfl ?_; refine gO ?_)
  refine gc_if_dec rfl (fun h => ?_) (fun h => by omega)
  focus (refine gV ?_; (iterate 3 refine gM ?_); refine gO ?_; refine gR ?_; refine gT ?_)
  refine gx_ret3 (u := .slice _ _ _) (v := .map _) (x := .int _ _) rfl rfl rfl rfl (fun _ _ => ?_)
  rfl
theorem judgeAll_ok (w : World) (v0 v1 v2 v3 v4 v5 v6 vb vw vx : Value) (e : Int) (l : List Opn) (bs : List Bun) (ws : List Wrk) (xs : List Scn) (hO : ∀ (L : List Res) (w' : World), St w L w' → Ok Tryz.prog 63 [.agg #[v0, v1, v2, v3, v4, v5, v6]].toArray w' fun x _ => x = .int .i64 e)
    (hl : Sl rOp w w.heap.size v6 l) (hb : Sl rBun w w.heap.size vb bs) (hw : Sl rWrk w w.heap.size vw ws) (hx : Sl rScn w w.heap.size vx xs) (hS : Small l) (he : scanE e bs ws = 0) (h300 : ¬ xs.length > 300) :
    OkM Tryz.prog 43 [.agg #[v0, v1, v2, v3, v4, v5, v6], vb, vw, vx].toArray w (fun x : Nat × Nat => .tuple #[.slice (some ⟨x.1, 0, none⟩) xs.length xs.length, .map (some x.2), .int .i64 0]) (fun x => [Box x.1 3 ((outs l ws (ticks bs) [] xs).map (Value.int .i64)).toArray]) := by
  have hC : ∀ (L : List Res) (w' : World), St w L w' → Ok Tryz.prog 53 [.agg #[v0, v1, v2, v3, v4, v5, v6], vb, vw].toArray w' fun x _ => x = .int .i64 0 := fun L w' s => by
    have := scanCheck_ok w' v0 v1 v2 v3 v4 v5 v6 vb vw e bs ws (fun L' w2 s2 => hO [] w2 ⟨s.below.trans (Below.mono s2.below s.below.size), trivial⟩) (hb.later s) (hw.later s)
    rw [he] at this
    exact this
  have hOk := scan_good he
  have htl : (ticks bs).length = bs.length := by simp [ticks]
  obtain ⟨Al, cl, rfl, hlc, hlm⟩ := len_small hl
  obtain ⟨Ab, cb, rfl, hbc, hbm, hbcell⟩ := hb.bun
  obtain ⟨Aw, cw, rfl, hwc, hwm, _⟩ := hw.wrk
  obtain ⟨Ax, cx, rfl, hxc, hxm, hxcell⟩ := hx.scn
  unfold OkM
  refine ok_enter Tryz.func43 rfl Tryz.ntmps43 rfl ?_
  focus (refine gV ?_; refine gw_boxd (v := .agg _) rfl rfl (fun _ => ?_); (iterate 3 refine gM ?_); refine gO ?_; refine gQ ?_; refine gV ?_; apply gw_d; exact w_load_boxN rfl rfl rfl .here rfl; (iterate 2 refine gM ?_); apply gw_d; exact w_call rfl rfl (hC _) rfl; refine gM ?_; refine gN ?_; refine gM ?_; refine gC rfl rfl rfl rfl rfl ?_; refine gO ?_)
  rename_i bv
  refine gc_if_dec rfl (fun h => absurd rfl h) (fun _ => ?_)
  focus (refine gK ?_; refine gX ?_; refine gQ ?_; refine gV ?_; refine gM ?_; refine gL rfl rfl rfl ?_; refine gC rfl rfl rfl rfl rfl ?_; refine gO ?_)
  refine gc_if_dec rfl (fun h => by omega) (fun _ => ?_)
  focus (refine gK ?_; refine gX ?_; refine gV ?_)
  refine gw_makeMap kInt rfl (fun bm => ?_)
  focus (refine gM ?_; refine gO ?_; refine gQ ?_; refine gV ?_; refine gM ?_; refine gL rfl rfl rfl ?_; refine gM ?_; refine gO ?_; refine gB ?_)
  refine gc_ent (coll_nil (F := recF (ticks bs) (fun _ => 0) 130 [])) ?_
  refine gc_loop (σ := Nat × (Nat → Nat)) [33, 34, 35, 14, 36, 37, 38, 39, 40, 41, 32] (fun s => [(32, .int .i64 s.1)]) (fun s => [Coll s.1 (recF (ticks bs) s.2 130 []), MapR bm kInt (mapK (ticks bs) s.2 s.1), Box bv 29 #[v0, v1, v2, v3, v4, v5, .slice Al l.length cl]]) (fun s => s.1 ≤ bs.length) (fun s => bs.length - s.1) (0, fun _ => 0) (Nat.zero_le _) ⟨rfl, trivial⟩ (.cons .here (.cons .here (.cons .here .nil))) ?_
  rintro ⟨k, β⟩ base hk
  dsimp only at hk ⊢
  focus (refine gV ?_; refine gC rfl rfl rfl rfl rfl ?_; refine gO ?_; refine gQ ?_)
  refine gc_if_dec rfl (fun h => ?_) (fun h => ?_)
  · have hlt : k < bs.length := by omega
    obtain ⟨ad, rfl, hbk, hce, h1, h2, h3⟩ := hbcell k hlt
    focus (refine gK ?_; refine gX ?_; refine gQ ?_; refine gB ?_; refine gV ?_; apply gw_d; exact w_index rfl rfl rfl rfl (by with_reducible exact rfl) (by omega); apply gw_d; exact w_load_elem rfl rfl rfl (by assumption) (by assumption) (by rfl); refine w_alloc rfl (fun _ => ?_); refine w_store_all rfl rfl rfl rfl rfl .here rfl ?_; refine gO ?_; refine gG ?_; refine gM ?_; refine gF rfl rfl rfl ?_; refine gW rfl rfl rfl .here rfl ?_; apply gw_d; exact w_buildP [] (cells := recC [] 0) (by rfl) rfl rfl rfl; refine gw_boxd (v := .agg _) rfl rfl (fun _ => ?_))
    rename_i b1 b2
    refine gw_mapSet (k := bs[k].tick) (v := .pointer (some ⟨b2, 0, none⟩)) intLawC rfl rfl rfl rfl (.there (.there (.there .here))) ?_
    have hmap : aset (mapK (ticks bs) β k) bs[k].tick (.pointer (some ⟨b2, 0, none⟩)) = mapK (ticks bs) (fun i => if i = k then b2 else β i) (k + 1) := by
      show _ = aset (mapK (ticks bs) (fun i => if i = k then b2 else β i) k) (tkAt (ticks bs) k) (ptrAt (fun i => if i = k then b2 else β i) k)
      rw [mapK_congr (β := β) (β' := fun i => if i = k then b2 else β i) k (fun i hi => by rw [if_neg (by omega)]), ticks_at hlt]
      simp [ptrAt]
    rw [hmap]
    focus (refine gw_nil ?_; refine gH ?_; refine gX ?_; refine gG ?_; refine gA rfl rfl rfl rfl rfl (by omega) ?_; refine gM ?_; refine gw_nil ?_)
    refine gx_roundE (k + 1, fun i => if i = k then b2 else β i) hlt (by dsimp only; omega) (by repeat (first | exact Keeps.refl | refine Keeps.upd rfl ?_ | refine Keeps.sets rfl ?_ | refine Keeps.havoc rfl ?_)) ⟨rfl, trivial⟩ ?_
    refine Ent.trans (Sub.ent (K := [Box b2 130 (recC [] (tkAt (ticks bs) k)), Coll k (recF (ticks bs) β 130 []), MapR bm kInt (mapK (ticks bs) (fun i => if i = k then b2 else β i) (k + 1)), Box bv 29 #[v0, v1, v2, v3, v4, v5, .slice Al l.length cl]]) (.cons (.there .here) (.cons (.there (.there .here)) (.cons .here (.cons (.there .here) .nil))))) rec_push
  obtain rfl : k = bs.length := by omega
  focus (refine gI ?_; (iterate 2 refine gZ ?_); refine gJ ?_; refine gX ?_; refine gV ?_; refine gM ?_; refine gL rfl rfl rfl ?_)
  refine gw_make1 (n := xs.length) rfl rfl rfl rfl rfl (by omega) (by omega) rfl (fun g => ?_)
  rw [show Array.replicate xs.length ((Value.int .i64 0).cells.getD 0 undef) = ((outRow (outs l ws (ticks bs) [] (xs.take 0)) xs.length).map (Value.int .i64)).toArray from by rw [List.take_zero]; show _ = ((outRow [] xs.length).map (Value.int .i64)).toArray; rw [outRow_nil]; exact row_make (Value.int .i64) xs.length 0]
  focus (refine gM ?_; refine gO ?_; refine gQ ?_; refine gV ?_; refine gM ?_; refine gL rfl rfl rfl ?_; refine gM ?_; refine gO ?_; refine gB ?_)
  refine gc_loop (σ := Nat) [48, 49, 50, 51, 17, 16, 52, 53, 54, 55, 18, 56, 57, 58, 59, 60, 61, 62, 63, 64, 65, 66, 67, 68, 69, 70, 71, 72, 73, 74, 75, 76, 77, 78, 79, 80, 81, 47] (fun i => [(47, .int .i64 i)]) (fun i => [Box g 3 ((outRow (outs l ws (ticks bs) [] (xs.take i)) xs.length).map (Value.int .i64)).toArray, Coll (ticks bs).length (recF (ticks bs) β 130 (paidL l ws (ticks bs) (xs.take i))), MapR bm kInt (mapK (ticks bs) β (ticks bs).length), Box bv 29 #[v0, v1, v2, v3, v4, v5, .slice Al l.length cl]]) (fun i => i ≤ xs.length) (fun i => xs.length - i) 0 (Nat.zero_le _) ⟨rfl, trivial⟩ (by rw [htl]; exact (.cons .here (.cons .here (.cons .here (.cons .here .nil))))) ?_
  rintro i base2 hi
  focus (refine gV ?_; refine gC rfl rfl rfl rfl rfl ?_; refine gO ?_; refine gQ ?_)
  refine gc_if_dec rfl (fun h2 => ?_) (fun h2 => ?_)
  · have hil : i < xs.length := by omega
    obtain ⟨ad2, rfl, hxk, hcx, x1, x2, x3, x4⟩ := hxcell i hil
    have hol := outs_len l ws (ticks bs) (xs.take i) []
    rw [List.length_take, Nat.min_eq_left (by omega)] at hol
    have hosn := outs_snoc l ws (ticks bs) xs[i] (xs.take i) []
    have hpsn := paidL_snoc l ws (ticks bs) (xs.take i) xs[i]
    rw [← List.take_succ_eq_append_getElem hil] at hosn hpsn
    change _ = _ ++ [outE l ws (ticks bs) (paidL l ws (ticks bs) (xs.take i)) xs[i]] at hosn
    generalize paidL l ws (ticks bs) (xs.take i) = ps at *
    generalize outs l ws (ticks bs) [] (xs.take i) = os at *
    have hrl := outRow_len (l := os) (n := xs.length) (by omega)
    generalize xs[i] = x at *
    focus (refine gK ?_; refine gX ?_; refine gQ ?_; refine gB ?_; refine gV ?_; refine gM ?_; apply gw_d; exact w_index rfl rfl rfl rfl (by with_reducible exact rfl) (by omega); apply gw_d; exact w_load_elem rfl rfl rfl (by assumption) (by assumption) (by rfl); refine w_alloc rfl (fun _ => ?_); refine gM ?_; refine w_store_all rfl rfl rfl rfl rfl .here rfl ?_; refine gN ?_; refine gM ?_; refine gF rfl rfl rfl ?_; refine gW rfl rfl rfl .here rfl ?_)
    rename_i bx
    have hset : ∀ v : Int, (outRow os xs.length).set i v = outRow (os ++ [v]) xs.length := fun v => by
      have := outRow_set (l := os) (n := xs.length) (by omega) v
      rw [hol] at this
      exact this
    have hgot : ∀ v : Int, (((outRow (os ++ [v]) xs.length).map (Value.int .i64)).toArray)[i * 1]? = some (.int .i64 v) := fun v => by
      rw [← hset v, row_get (Value.int .i64) 0 (by rw [List.length_set]; omega)]
      simp [hrl, hil]
    cases hT : hasB (ticks bs) x.tick with
    | false =>
      have hget := mapK_none (β := β) (ticks bs).length (tk_not hT)
      have hE : outE l ws (ticks bs) ps x = 3 := by unfold outE; rw [if_pos hT]
      have hN : nextP l ws (ticks bs) ps x = ps := by unfold nextP; rw [hE]; rfl
      rw [hE] at hosn
      rw [hN] at hpsn
      focus (apply gw_d; exact det_eq (c' := .pointer none) (w_lookup (k := x.tick) intLawC rfl rfl rfl rfl (.there (.there (.there .here)))) (by rw [hget]; rfl); refine gM ?_; refine gN ?_; (iterate 2 refine gM ?_); refine gF rfl rfl rfl ?_; refine gW rfl rfl rfl (.there (.there (.there (.there .here)))) rfl ?_; (iterate 2 refine gM ?_); apply gw_d; exact w_load_boxN rfl rfl rfl .here rfl; apply gw_d; exact w_call rfl rfl (fun w' _ => judge_nil w' _ _ x) rfl; apply gw_d; exact w_index rfl rfl rfl rfl (by with_reducible exact rfl) (by omega))
      refine w_store_row (n := 1) (v := .int .i64 3) rfl rfl rfl rfl rfl (.there .here) (by simp; omega) (row_set (Value.int .i64) (by omega) _) ?_
      rw [hset 3]
      focus (refine gN ?_; (iterate 2 refine gM ?_); apply gw_d; exact w_index rfl rfl rfl rfl (by with_reducible exact rfl) (by omega); apply gw_d; exact w_load_row rfl rfl rfl .here (hgot 3); refine gC rfl rfl rfl rfl rfl ?_; refine gO ?_)
      refine gc_if_dec rfl (fun h => absurd h (by decide)) (fun _ => ?_)
      focus (refine gK ?_; refine gH ?_; refine gX ?_; refine gG ?_; refine gA rfl rfl rfl rfl rfl (by omega) ?_; refine gM ?_; refine gw_nil ?_)
      refine gx_round (i + 1) hil (by omega) (by repeat (first | exact Keeps.refl | refine Keeps.upd rfl ?_ | refine Keeps.sets rfl ?_ | refine Keeps.havoc rfl ?_)) ⟨rfl, trivial⟩ ?_
      rw [hosn, hpsn]
      exact .cons .here (.cons (.there .here) (.cons (.there .here) (.cons (.there .here) .nil)))
    | true =>
      obtain ⟨j, hj, hjt⟩ := tk_has hT
      have hget := mapK_old (β := β) hOk.tix (ticks bs).length (Nat.le_refl _) j hj
      rw [hjt] at hget
      have hE : outE l ws (ticks bs) ps x = judgeE l ws ps x := by unfold outE; rw [if_neg (by rw [hT]; decide)]
      focus (apply gw_d; exact det_eq (c' := .pointer (some ⟨β j, 0, none⟩)) (w_lookup (k := x.tick) intLawC rfl rfl rfl rfl (.there (.there (.there .here)))) (by rw [hget]; rfl); refine gM ?_; refine gN ?_; (iterate 2 refine gM ?_); refine gF rfl rfl rfl ?_; refine gW rfl rfl rfl (.there (.there (.there (.there .here)))) rfl ?_; (iterate 2 refine gM ?_); apply gw_d; exact w_load_boxN rfl rfl rfl .here rfl; apply gw_d; exact w_call rfl rfl (fun w' s => judge_ok w' (.slice Al l.length cl) (.slice Aw ws.length cw) (β j) 130 l ws ps x (hl.later s) (hw.later s) hS (by have h9 := (s.pick (.there (.there .here))).head.1 j hj; unfold recF at h9; rw [hjt] at h9; exact h9)) rfl; apply gw_d; exact w_index rfl rfl rfl rfl (by with_reducible exact rfl) (by omega))
      refine w_store_row (n := 1) (v := .int .i64 (judgeE l ws ps x)) rfl rfl rfl rfl rfl (.there .here) (by simp; omega) (row_set (Value.int .i64) (by omega) _) ?_
      rw [hset]
      rw [hE] at hosn
      focus (refine gN ?_; (iterate 2 refine gM ?_); apply gw_d; exact w_index rfl rfl rfl rfl (by with_reducible exact rfl) (by omega); apply gw_d; exact w_load_row rfl rfl rfl .here (hgot _); refine gC rfl rfl rfl rfl rfl ?_; refine gO ?_)
      refine gc_if_dec rfl (fun h1 => ?_) (fun h1 => ?_)
      · have hN : nextP l ws (ticks bs) ps x = ps ++ [x] := by unfold nextP; rw [hE, if_pos h1]
        rw [hN] at hpsn
        have hkn : 0 ≤ x.op ∧ x.op < l.length := by
          unfold judgeE at h1
          split at h1
          · cases h1
          · rename_i h9
            have : knownB l ws x = true := by simpa using h9
            unfold knownB at this
            have := of_decide_eq_true this
            exact ⟨this.1, this.2.1⟩
        obtain ⟨o, ho⟩ : ∃ o : Nat, x.op = (o : Int) := ⟨x.op.toNat, by omega⟩
        have ho16 : o < 16 := by have := hS.1; omega
        have hrs := recC_size ps x.tick
        refine gc_ent (Ent.trans (Sub.ent (K := [Coll (ticks bs).length (recF (ticks bs) β 130 ps), Box g 3 ((outRow (os ++ [judgeE l ws ps x]) xs.length).map (Value.int .i64)).toArray, Box bx 51 #[.int .i64 x.tick, .int .i64 x.op, .int .i64 x.who, .int .i64 x.time], MapR bm kInt (mapK (ticks bs) β (ticks bs).length), Box bv 29 #[v0, v1, v2, v3, v4, v5, .slice Al l.length cl]]) (.cons (.there (.there .here)) (.cons .here (.cons .here (.cons .here (.cons .here .nil)))))) (rec_take hj)) ?_
        rw [hjt]
        refine gc_seq ?_
        refine gc_block_draw Nat 5 (fun i => ([[], [], [1], [0], [0, 3]] : List (List Nat)).getD i []) rfl (by kernel_rfl) ?_
        focus (apply gb_d; (intro γ; exact det_m rfl rfl (by conv => (lhs; whnf))); (intros; rfl); (intros; rfl); apply gb_d; (intro γ; exact w_field rfl rfl rfl); (intros; rfl); (intros; rfl); apply gb_d; (intro γ; exact w_load_box rfl rfl rfl (.there (.there (.there .here))) rfl); (intros; rfl); (intros; rfl); apply gb_d; (intro γ; exact w_nilcheck rfl rfl rfl); (intros; rfl); (intros; rfl); apply gb_d; (intro γ; exact w_field rfl rfl rfl); (intros; rfl); (intros; rfl))
        refine GB.nil (fun _ => ?_)
        focus (apply gw_d; exact w_index_arr (m := o) rfl rfl rfl rfl ho ho16)
        refine w_store_row (b := β j) (bt := 130) (cs := recC ps x.tick) (n := 1) (v := .bool true) (i := 0 + o * 1) (cs' := ((recC ps x.tick).toList.set o (.bool true)).toArray) rfl (congrArg (fun x => Value.pointer (some x)) (add_add ⟨β j, 0, none⟩ 0 (o * 1))) rfl rfl rfl .here (by omega) (by rw [Nat.zero_add, Nat.mul_one]; exact set_row (by omega) rfl) ?_
        focus (refine gO ?_; refine gG ?_; refine gM ?_; refine gF rfl rfl rfl ?_; refine gW rfl rfl rfl (.there (.there (.there .here))) rfl ?_; apply gw_d; exact w_nilcheck rfl rfl rfl; refine gF rfl rfl rfl ?_)
        refine w_store_row (b := β j) (bt := 130) (cs := ((recC ps x.tick).toList.set o (.bool true)).toArray) (n := 1) (v := .int .i64 x.time) (i := 16) (cs' := recC (ps ++ [x]) x.tick) rfl rfl rfl rfl rfl .here (by simp; omega) (by rw [set_row (by simp; omega) rfl]; show (((recC ps x.tick).toList.set o (.bool true)).set 16 (.int .i64 x.time)).toArray = _; rw [recC_pay ps x ho ho16]) ?_
        focus (refine gw_nil ?_; refine gH ?_; refine gX ?_; refine gG ?_; refine gA rfl rfl rfl rfl rfl (by omega) ?_; refine gM ?_; refine gw_nil ?_)
        refine gx_roundE (i + 1) hil (by omega) (by repeat (first | exact Keeps.refl | refine Keeps.upd rfl ?_ | refine Keeps.sets rfl ?_ | refine Keeps.havoc rfl ?_)) ⟨rfl, trivial⟩ ?_
        rw [hosn, hpsn]
        exact Ent.trans (rec_put hOk.tix hj hjt) (Sub.ent (.cons (.there .here) (.cons .here (.cons (.there .here) (.cons (.there .here) .nil)))))
      · have hN : nextP l ws (ticks bs) ps x = ps := by unfold nextP; rw [hE, if_neg h1]
        rw [hN] at hpsn
        focus (refine gK ?_; refine gH ?_; refine gX ?_; refine gG ?_; refine gA rfl rfl rfl rfl rfl (by omega) ?_; refine gM ?_; refine gw_nil ?_)
        refine gx_round (i + 1) hil (by omega) (by repeat (first | exact Keeps.refl | refine Keeps.upd rfl ?_ | refine Keeps.sets rfl ?_ | refine Keeps.havoc rfl ?_)) ⟨rfl, trivial⟩ ?_
        rw [hosn, hpsn]
        exact .cons .here (.cons (.there .here) (.cons (.there .here) (.cons (.there .here) .nil)))
  · obtain rfl : i = xs.length := by omega
    rw [List.take_length]
    have hol := outs_len l ws (ticks bs) xs []
    have hrow : outRow (outs l ws (ticks bs) [] xs) xs.length = outs l ws (ticks bs) [] xs := by
      have := outRow_full (l := outs l ws (ticks bs) [] xs)
      rw [hol] at this
      exact this
    rw [hrow]
    focus (refine gI ?_; (iterate 2 refine gZ ?_); refine gJ ?_; refine gX ?_; refine gV ?_; (iterate 5 refine gM ?_); refine gO ?_; refine gR ?_)
    exact gx_ret3 (u := .slice _ _ _) (v := .map _) (x := .int _ _) rfl rfl rfl rfl (fun w' s => ⟨(g, bm), rfl, (St.sub (K := [Box g 3 ((outs l ws (ticks bs) [] xs).map (Value.int .i64)).toArray]) (.cons .here .nil) s).sep⟩)
/-- What the package-level variable holds. -/
def Lay (w : World) : Prop := 0 < w.heap.size ∧ w.cell? ((⟨0, 0, none⟩ : Addr).add (0 * 1)) = some (.int .i64 100000) ∧ w.cell? ((⟨0, 0, none⟩ : Addr).add (1 * 1)) = some (.int .i64 1073741824)
theorem Lay.later {w0 w : World} {L : List Res} (s : St w0 L w) (h : Lay w0) : Lay w := by
  have hb := s.below.block _ h.1
  exact ⟨Nat.lt_of_lt_of_le h.1 s.below.size, (cell_same (by rw [add_block]; exact hb)).trans h.2.1, (cell_same (by rw [add_block]; exact hb)).trans h.2.2⟩
def tarV (r l : Int) : Value := .agg #[.int .i64 r, .int .i64 l]
def tarE (r l : Int) : Int := if (r < 0 ∨ r > 100000) ∨ (l < 0 ∨ l > 1073741824) then 3 else 0
theorem wCheck_ok (w : World) (r l : Int) (hL : Lay w) : Ok Tryz.prog 9 [tarV r l].toArray w fun x _ => x = .int .i64 (tarE r l) := by
  obtain ⟨hLb, hL0, hL1⟩ := hL
  have hLb' : ((⟨0, 0, none⟩ : Addr)).block < w.heap.size := hLb
  unfold tarV
  refine ok_enter Tryz.func9 rfl Tryz.ntmps9 rfl ?_
  focus (refine gV ?_; refine gw_boxd (v := .agg _) rfl rfl (fun _ => ?_); refine gM ?_; refine gO ?_; refine gQ ?_; refine gV ?_; refine gF rfl rfl rfl ?_; refine gW rfl rfl rfl .here rfl ?_; refine gF rfl rfl rfl ?_; refine gW rfl rfl rfl .here rfl ?_; apply gw_d; exact w_buildA (n := 2) (el := 3) (sz := 1) (cells := #[.int .i64 r, .int .i64 l]) (by kernel_rfl) (by kernel_rfl) rfl rfl (by rfl); refine gM ?_; refine gO ?_; refine gB ?_)
  refine gc_loopK (σ := Nat) [11, 12, 13, 3, 4, 14, 15, 16, 17, 18, 19, 20, 21, 22, 2, 23, 10] (fun k => [(10, .int .i64 k)]) (fun k => k ≤ 2 ∧ (1 ≤ k → ¬ (r < 0 ∨ r > 100000)) ∧ (2 ≤ k → ¬ (l < 0 ∨ l > 1073741824))) (fun k => 2 - k) 0 ⟨by omega, by omega, by omega⟩ ⟨rfl, trivial⟩ ?_
  rintro k base ⟨hk, h1, h2⟩
  obtain rfl | rfl | rfl : k = 0 ∨ k = 1 ∨ k = 2 := by omega
  · focus (refine gV ?_; refine gC rfl rfl rfl rfl rfl ?_; refine gO ?_; refine gQ ?_; refine gc_if_dec rfl (fun _ => ?_) (fun _ => ?_); refine gK ?_; refine gX ?_; refine gQ ?_; refine gB ?_; refine gV ?_; refine gM ?_; apply gw_d; exact w_aidx (n := 2) (el := 3) (m := 0) (v := .int .i64 r) (by kernel_rfl) (by kernel_rfl) (by kernel_rfl) rfl rfl rfl rfl rfl (by decide) rfl; (iterate 2 refine gM ?_); refine gN ?_; refine gM ?_; refine gC rfl rfl rfl rfl rfl ?_; refine gM ?_; refine gw_guard_dec rfl rfl (fun _ => ?_) (fun _ => ?_); (iterate 5 refine gU ?_); refine gPt rfl rfl rfl rfl ?_; refine gO ?_; refine gc_if_true rfl ?_; refine gV ?_; refine gM ?_; refine gO ?_; refine gR ?_; refine gY ?_; (iterate 2 refine gT ?_); refine gY ?_; refine gT ?_; rotate_left; (iterate 2 refine gM ?_); apply gw_d; exact w_index_arr (m := 0) rfl rfl rfl rfl rfl (by decide); apply gw_d; exact w_load_at rfl rfl rfl (by assumption) (by assumption); refine gC rfl rfl rfl rfl rfl ?_; refine gPf rfl rfl rfl rfl ?_; refine gO ?_; refine gc_if_dec rfl (fun _ => ?_) (fun _ => ?_); refine gV ?_; refine gM ?_; refine gO ?_; refine gR ?_; refine gY ?_; (iterate 2 refine gT ?_); refine gY ?_; refine gT ?_; rotate_left; refine gK ?_; refine gH ?_; refine gX ?_; refine gG ?_; refine gA rfl rfl rfl rfl rfl (by omega) ?_; refine gM ?_; refine gw_nil ?_; rotate_left; refine gI ?_; (iterate 2 refine gZ ?_); refine gJ ?_; refine gX ?_; refine gV ?_; refine gM ?_; refine gO ?_; refine gR ?_; rotate_left)
    all_goals first | (exfalso; omega) | skip
    · refine gx_ret1 (v := .int _ _) rfl rfl (fun _ _ => ?_)
      unfold tarE
      rw [if_pos (by omega)]
    · refine gx_ret1 (v := .int _ _) rfl rfl (fun _ _ => ?_)
      unfold tarE
      rw [if_pos (by omega)]
    · exact gx_round 1 ⟨by omega, by omega, by omega⟩ (by omega) (by repeat (first | exact Keeps.refl | refine Keeps.upd rfl ?_ | refine Keeps.sets rfl ?_ | refine Keeps.havoc rfl ?_)) ⟨rfl, trivial⟩ (Sub.all _)
  · focus (refine gV ?_; refine gC rfl rfl rfl rfl rfl ?_; refine gO ?_; refine gQ ?_; refine gc_if_dec rfl (fun _ => ?_) (fun _ => ?_); refine gK ?_; refine gX ?_; refine gQ ?_; refine gB ?_; refine gV ?_; refine gM ?_; apply gw_d; exact w_aidx (n := 2) (el := 3) (m := 1) (v := .int .i64 l) (by kernel_rfl) (by kernel_rfl) (by kernel_rfl) rfl rfl rfl rfl rfl (by decide) rfl; (iterate 2 refine gM ?_); refine gN ?_; refine gM ?_; refine gC rfl rfl rfl rfl rfl ?_; refine gM ?_; refine gw_guard_dec rfl rfl (fun _ => ?_) (fun _ => ?_); (iterate 5 refine gU ?_); refine gPt rfl rfl rfl rfl ?_; refine gO ?_; refine gc_if_true rfl ?_; refine gV ?_; refine gM ?_; refine gO ?_; refine gR ?_; refine gY ?_; (iterate 2 refine gT ?_); refine gY ?_; refine gT ?_; rotate_left; (iterate 2 refine gM ?_); apply gw_d; exact w_index_arr (m := 1) rfl rfl rfl rfl rfl (by decide); apply gw_d; exact w_load_at rfl rfl rfl (by assumption) (by assumption); refine gC rfl rfl rfl rfl rfl ?_; refine gPf rfl rfl rfl rfl ?_; refine gO ?_; refine gc_if_dec rfl (fun _ => ?_) (fun _ => ?_); refine gV ?_; refine gM ?_; refine gO ?_; refine gR ?_; refine gY ?_; (iterate 2 refine gT ?_); refine gY ?_; refine gT ?_; rotate_left; refine gK ?_; refine gH ?_; refine gX ?_; refine gG ?_; refine gA rfl rfl rfl rfl rfl (by omega) ?_; refine gM ?_; refine gw_nil ?_; rotate_left; refine gI ?_; (iterate 2 refine gZ ?_); refine gJ ?_; refine gX ?_; refine gV ?_; refine gM ?_; refine gO ?_; refine gR ?_; rotate_left)
    all_goals first | (exfalso; omega) | skip
    · refine gx_ret1 (v := .int _ _) rfl rfl (fun _ _ => ?_)
      unfold tarE
      rw [if_pos (by omega)]
    · refine gx_ret1 (v := .int _ _) rfl rfl (fun _ _ => ?_)
      unfold tarE
      rw [if_pos (by omega)]
    · exact gx_round 2 ⟨by omega, by omega, by omega⟩ (by omega) (by repeat (first | exact Keeps.refl | refine Keeps.upd rfl ?_ | refine Keeps.sets rfl ?_ | refine Keeps.havoc rfl ?_)) ⟨rfl, trivial⟩ (Sub.all _)
  · focus (refine gV ?_; refine gC rfl rfl rfl rfl rfl ?_; refine gO ?_; refine gQ ?_; refine gc_if_dec rfl (fun _ => ?_) (fun _ => ?_); refine gK ?_; refine gX ?_; refine gQ ?_; refine gB ?_; refine gV ?_; refine gM ?_; rotate_left; refine gI ?_; (iterate 2 refine gZ ?_); refine gJ ?_; refine gX ?_; refine gV ?_; refine gM ?_; refine gO ?_; refine gR ?_; rotate_left)
    all_goals first | (exfalso; omega) | skip
    refine gx_ret1 (v := .int _ _) rfl rfl (fun _ _ => ?_)
    unfold tarE
    rw [if_neg (by omega)]
def amtE (r l m c : Int) : Int := if ¬ tarE r l = 0 then tarE r l else if (m < 0 ∨ m > 10000) ∨ (c < 0 ∨ c > 1000) then 3 else 0
def amtV (r l m c : Int) : Int := if amtE r l m c = 0 then (m * c * r + 5000) / 10000 else 0
theorem tar_zero {r l : Int} (h : tarE r l = 0) : (0 ≤ r ∧ r ≤ 100000) ∧ (0 ≤ l ∧ l ≤ 1073741824) := by
  unfold tarE at h
  split at h
  · cases h
  · omega
theorem amt_zero {r l m c : Int} (h : amtE r l m c = 0) : tarE r l = 0 ∧ (0 ≤ m ∧ m ≤ 10000) ∧ (0 ≤ c ∧ c ≤ 1000) := by
  unfold amtE at h
  split at h
  · rename_i h1; exact absurd h h1
  · rename_i h1
    split at h
    · cases h
    · exact ⟨by simpa using h1, by omega⟩
theorem mul_le {a b A B : Int} (ha : 0 ≤ a) (hA : a ≤ A) (hb : 0 ≤ b) (hB : b ≤ B) : 0 ≤ a * b ∧ a * b ≤ A * B := ⟨Int.mul_nonneg ha hb, Int.le_trans (Int.mul_le_mul_of_nonneg_right hA hb) (Int.mul_le_mul_of_nonneg_left hB (by omega))⟩
theorem amt_range {r l m c : Int} (h : amtE r l m c = 0) : (0 ≤ m * c ∧ m * c ≤ 10000000) ∧ (0 ≤ m * c * r ∧ m * c * r ≤ 1000000000000) := by
  obtain ⟨h1, h2, h3⟩ := amt_zero h
  obtain ⟨h4, _⟩ := tar_zero h1
  have a := mul_le h2.1 h2.2 h3.1 h3.2
  have b := mul_le a.1 a.2 h4.1 h4.2
  exact ⟨by omega, by omega⟩
theorem wAmount_ok (w : World) (r l m c : Int) (hL : Lay w) : Ok Tryz.prog 11 [tarV r l, .int .i64 m, .int .i64 c].toArray w fun x _ => x = .tuple #[.int .i64 (amtV r l m c), .int .i64 (amtE r l m c)] := by
  have hC : ∀ (L : List Res) (w' : World), St w L w' → Ok Tryz.prog 9 [tarV r l].toArray w' fun x _ => x = .int .i64 (tarE r l) := fun L w' s => wCheck_ok w' r l (hL.later s)
  by_cases he : amtE r l m c = 0
  · obtain ⟨h1, h2, h3⟩ := amt_zero he
    obtain ⟨r1, r2⟩ := amt_range he
    rw [h1] at hC
    unfold amtV
    rw [if_pos he, he]
    unfold tarV at hC ⊢
    refine ok_enter Tryz.func11 rfl Tryz.ntmps11 rfl ?_
    focus (refine gV ?_; refine gw_boxd (v := .agg _) rfl rfl (fun _ => ?_); (iterate 2 refine gM ?_); refine gO ?_; refine gQ ?_; refine gV ?_; apply gw_d; exact w_load_boxN rfl rfl rfl .here rfl; apply gw_d; exact w_call rfl rfl (hC _) rfl; refine gM ?_; refine gN ?_; refine gM ?_; refine gC rfl rfl rfl rfl rfl ?_; refine gO ?_; refine gc_if_dec rfl (fun _ => ?_) (fun _ => ?_); refine gV ?_; (iterate 3 refine gM ?_); refine gO ?_; refine gR ?_; refine gT ?_; rotate_left; refine gK ?_; refine gX ?_; refine gQ ?_; refine gV ?_; refine gM ?_; refine gC rfl rfl rfl rfl rfl ?_; refine gM ?_; refine gw_guard_dec rfl rfl (fun _ => ?_) (fun _ => ?_); (iterate 2 refine gU ?_); refine gPt rfl rfl rfl rfl ?_; refine gM ?_; (iterate 2 refine gU ?_); refine gPt rfl rfl rfl rfl ?_; refine gM ?_; (iterate 2 refine gU ?_); refine gPt rfl rfl rfl rfl ?_; refine gO ?_; refine gc_if_true rfl ?_; refine gV ?_; (iterate 2 refine gM ?_); refine gO ?_; refine gR ?_; refine gT ?_; rotate_left; refine gM ?_; refine gC rfl rfl rfl rfl rfl ?_; refine gPf rfl rfl rfl rfl ?_; refine gM ?_; refine gw_guard_dec rfl rfl (fun _ => ?_) (fun _ => ?_); (iterate 2 refine gU ?_); refine gPt rfl rfl rfl rfl ?_; refine gM ?_; (iterate 2 refine gU ?_); refine gPt rfl rfl rfl rfl ?_; refine gO ?_; refine gc_if_true rfl ?_; refine gV ?_; (iterate 2 refine gM ?_); refine gO ?_; refine gR ?_; refine gT ?_; rotate_left; refine gM ?_; refine gC rfl rfl rfl rfl rfl ?_; refine gPf rfl rfl rfl rfl ?_; refine gM ?_; refine gw_guard_dec rfl rfl (fun _ => ?_) (fun _ => ?_); (iterate 2 refine gU ?_); refine gPt rfl rfl rfl rfl ?_; refine gO ?_; refine gc_if_true rfl ?_; refine gV ?_; (iterate 2 refine gM ?_); refine gO ?_; refine gR ?_; refine gT ?_; rotate_left; refine gM ?_; refine gC rfl rfl rfl rfl rfl ?_; refine gPf rfl rfl rfl rfl ?_; refine gO ?_; refine gc_if_dec rfl (fun _ => ?_) (fun _ => ?_); refine gV ?_; (iterate 2 refine gM ?_); refine gO ?_; refine gR ?_; refine gT ?_; rotate_left; refine gK ?_; refine gX ?_; refine gV ?_; (iterate 2 refine gM ?_); refine gA rfl rfl rfl rfl rfl (by omega) ?_; refine gF rfl rfl rfl ?_; refine gW rfl rfl rfl .here rfl ?_; refine gA rfl rfl rfl rfl rfl (by omega) ?_; refine gA rfl rfl rfl rfl rfl (by omega) ?_; apply gw_d; exact det_quo rfl rfl rfl rfl (by omega) (by omega) (by omega); (iterate 2 refine gM ?_); refine gO ?_; refine gR ?_; rotate_left)
    all_goals first | (exfalso; omega) | skip
    refine gx_ret2 (u := .int _ _) (v := .int _ _) rfl rfl rfl (fun _ _ => ?_)
    rfl
  · unfold amtV
    rw [if_neg he]
    by_cases h1 : tarE r l = 0
    · have hE : amtE r l m c = 3 ∧ ((m < 0 ∨ m > 10000) ∨ (c < 0 ∨ c > 1000)) := by
        unfold amtE at he ⊢
        rw [if_neg (by rw [h1]; decide)] at he ⊢
        split
        · rename_i h2; exact ⟨rfl, h2⟩
        · rename_i h2; rw [if_neg h2] at he; exact absurd rfl he
      rw [hE.1]
      have h2 := hE.2
      rw [h1] at hC
      unfold tarV at hC ⊢
      refine ok_enter Tryz.func11 rfl Tryz.ntmps11 rfl ?_
      focus (refine gV ?_; refine gw_boxd (v := .agg _) rfl rfl (fun _ => ?_); (iterate 2 refine gM ?_); refine gO ?_; refine gQ ?_; refine gV ?_; apply gw_d; exact w_load_boxN rfl rfl rfl .here rfl; apply gw_d; exact w_call rfl rfl (hC _) rfl; refine gM ?_; refine gN ?_; refine gM ?_; refine gC rfl rfl rfl rfl rfl ?_; refine gO ?_; refine gc_if_dec rfl (fun _ => ?_) (fun _ => ?_); refine gV ?_; (iterate 3 refine gM ?_); refine gO ?_; refine gR ?_; refine gT ?_; rotate_left; refine gK ?_; refine gX ?_; refine gQ ?_; refine gV ?_; refine gM ?_; refine gC rfl rfl rfl rfl rfl ?_; refine gM ?_; refine gw_guard_dec rfl rfl (fun _ => ?_) (fun _ => ?_); (iterate 2 refine gU ?_); refine gPt rfl rfl rfl rfl ?_; refine gM ?_; (iterate 2 refine gU ?_); refine gPt rfl rfl rfl rfl ?_; refine gM ?_; (iterate 2 refine gU ?_); refine gPt rfl rfl rfl rfl ?_; refine gO ?_; refine gc_if_true rfl ?_; refine gV ?_; (iterate 2 refine gM ?_); refine gO ?_; refine gR ?_; refine gT ?_; rotate_left; refine gM ?_; refine gC rfl rfl rfl rfl rfl ?_; refine gPf rfl rfl rfl rfl ?_; refine gM ?_; refine gw_guard_dec rfl rfl (fun _ => ?_) (fun _ => ?_); (iterate 2 refine gU ?_); refine gPt rfl rfl rfl rfl ?_; refine gM ?_; (iterate 2 refine gU ?_); refine gPt rfl rfl rfl rfl ?_; refine gO ?_; refine gc_if_true rfl ?_; refine gV ?_; (iterate 2 refine gM ?_); refine gO ?_; refine gR ?_; refine gT ?_; rotate_left; refine gM ?_; refine gC rfl rfl rfl rfl rfl ?_; refine gPf rfl rfl rfl rfl ?_; refine gM ?_; refine gw_guard_dec rfl rfl (fun _ => ?_) (fun _ => ?_); (iterate 2 refine gU ?_); refine gPt rfl rfl rfl rfl ?_; refine gO ?_; refine gc_if_true rfl ?_; refine gV ?_; (iterate 2 refine gM ?_); refine gO ?_; refine gR ?_; refine gT ?_; rotate_left; refine gM ?_; refine gC rfl rfl rfl rfl rfl ?_; refine gPf rfl rfl rfl rfl ?_; refine gO ?_; refine gc_if_dec rfl (fun _ => ?_) (fun _ => ?_); refine gV ?_; (iterate 2 refine gM ?_); refine gO ?_; refine gR ?_; refine gT ?_; rotate_left; refine gK ?_; refine gX ?_; refine gV ?_; (iterate 2 refine gM ?_); refine gA rfl rfl rfl rfl rfl (by omega) ?_; refine gF rfl rfl rfl ?_; refine gW rfl rfl rfl .here rfl ?_; refine gA rfl rfl rfl rfl rfl (by omega) ?_; refine gA rfl rfl rfl rfl rfl (by omega) ?_; apply gw_d; exact det_quo rfl rfl rfl rfl (by omega) (by omega) (by omega); (iterate 2 refine gM ?_); refine gO ?_; refine gR ?_; rotate_left)
      all_goals first | (exfalso; omega) | skip
      all_goals (refine gx_ret2 (u := .int _ _) (v := .int _ _) rfl rfl rfl (fun _ _ => ?_); rfl)
    · have hE : amtE r l m c = tarE r l := by
        unfold amtE
        rw [if_pos h1]
      rw [hE]
      unfold tarV at hC ⊢
      refine ok_enter Tryz.func11 rfl Tryz.ntmps11 rfl ?_
      focus (refine gV ?_; refine gw_boxd (v := .agg _) rfl rfl (fun _ => ?_); (iterate 2 refine gM ?_); refine gO ?_; refine gQ ?_; refine gV ?_; apply gw_d; exact w_load_boxN rfl rfl rfl .here rfl; apply gw_d; exact w_call rfl rfl (hC _) rfl; refine gM ?_; refine gN ?_; refine gM ?_; refine gC rfl rfl rfl rfl rfl ?_; refine gO ?_)
      refine gc_if_dec rfl (fun _ => ?_) (fun h => absurd h1 h)
      focus (refine gV ?_; (iterate 3 refine gM ?_); refine gO ?_; refine gR ?_; refine gT ?_)
      refine gx_ret2 (u := .int _ _) (v := .int _ _) rfl rfl rfl (fun _ _ => ?_)
      rfl
def moneyB (n : Int) : Bool := decide (0 ≤ n) && decide (n ≤ 1099511627776)
theorem money_iff {n : Int} : moneyB n = true ↔ 0 ≤ n ∧ n ≤ 1099511627776 := by unfold moneyB; simp
theorem inRange_ok (w : World) (n : Int) : Ok Tryz.prog 44 [.int .i64 n].toArray w fun x _ => x = .bool (moneyB n) := by
  refine ok_enter Tryz.func44 rfl Tryz.ntmps44 rfl ?_
  focus (refine gV ?_; refine gM ?_; refine gN ?_; refine gM ?_; refine gC rfl rfl rfl rfl rfl ?_; refine gM ?_; refine gw_guard_dec rfl rfl (fun _ => ?_) (fun _ => ?_); refine gM ?_; refine gC rfl rfl rfl rfl rfl ?_; refine gPt rfl rfl rfl rfl ?_; refine gM ?_; refine gO ?_; refine gR ?_; rotate_left; (iterate 2 refine gU ?_); refine gPf rfl rfl rfl rfl ?_; refine gM ?_; refine gO ?_; refine gR ?_; rotate_left)
  · refine gx_ret1 (v := .bool _) rfl rfl (fun _ _ => ?_)
    unfold moneyB
    rename_i h
    rw [decide_eq_true (show 0 ≤ n by omega)]
    rfl
  · refine gx_ret1 (v := .bool _) rfl rfl (fun _ _ => ?_)
    unfold moneyB
    rename_i h
    rw [decide_eq_false (show ¬ 0 ≤ n by omega)]
    rfl
def totF : List Pay → Int → Int → Option (Int × Int)
  | [], a, b => some (a, b)
  | p :: l, a, b => if (moneyB p.work && moneyB p.top && moneyB (a + p.work) && moneyB (b + p.top)) = true then totF l (a + p.work) (b + p.top) else none
def totV (x : Option (Int × Int)) : Value := match x with
  | some (a, b) => .tuple #[.int .i64 a, .int .i64 b, .int .i64 0]
  | none => .tuple #[.int .i64 0, .int .i64 0, .int .i64 3]
theorem Sl.pay {w : World} {B : Nat} {v : Value} {l : List Pay} (h : Sl rPay w B v l) : ∃ A c, v = .slice A l.length c ∧ l.length ≤ c ∧ l.length ≤ 9223372036854775807 ∧
    ∀ k (hk : k < l.length), ∃ ad, A = some ad ∧ ad.block < B ∧ (∀ j u, [Value.int .i64 l[k].who, .int .i64 l[k].work, .int .i64 l[k].top][j]? = some u → w.cell? (ad.add (k * 3 + j)) = some u) ∧ inI64 l[k].who ∧ inI64 l[k].work ∧ inI64 l[k].top := by
  obtain ⟨A, c, hv, h1, h2, h3⟩ := h
  refine ⟨A, c, hv, h1, by unfold maxLen at h2; omega, fun k hk => ?_⟩
  obtain ⟨ad, cs, ha, hlt, hc, hr⟩ := h3 k hk
  obtain ⟨rfl, hr⟩ := hr
  exact ⟨ad, ha, hlt, hc, hr⟩
theorem drop_cons {α : Type} {l : List α} {k : Nat} (hk : k < l.length) : l.drop k = l[k] :: l.drop (k + 1) := List.drop_eq_getElem_cons hk
theorem totF_step {l : List Pay} {k : Nat} (hk : k < l.length) {a b : Int} : totF (l.drop k) a b = if (moneyB l[k].work && moneyB l[k].top && moneyB (a + l[k].work) && moneyB (b + l[k].top)) = true then totF (l.drop (k + 1)) (a + l[k].work) (b + l[k].top) else none := by
  rw [drop_cons hk]
  rfl
theorem wTotal_ok (w : World) (v : Value) (l : List Pay) (hl : Sl rPay w w.heap.size v l) : Ok Tryz.prog 31 [v].toArray w fun x _ => x = totV (totF l 0 0) := by
  obtain ⟨A, c, rfl, hc, hm, hcell⟩ := hl.pay
  refine ok_enter Tryz.func31 rfl Tryz.ntmps31 rfl ?_
  focus (refine gV ?_; (iterate 3 refine gM ?_); refine gO ?_; refine gQ ?_; refine gV ?_; refine gM ?_; refine gL rfl rfl rfl ?_; refine gM ?_; refine gO ?_; refine gB ?_)
  refine gc_loop (σ := Nat × Int × Int) [10, 11, 12, 6, 13, 14, 15, 16, 17, 18, 19, 20, 21, 22, 2, 3, 4, 23, 24, 25, 26, 27, 28, 29, 30, 31, 32, 33, 34, 35, 36, 37, 38, 39, 9] (fun s => [(9, .int .i64 s.1), (2, .int .i64 s.2.1), (3, .int .i64 s.2.2)]) (fun _ => []) (fun s => s.1 ≤ l.length ∧ totF (l.drop s.1) s.2.1 s.2.2 = totF l 0 0 ∧ (0 ≤ s.2.1 ∧ s.2.1 ≤ 1099511627776) ∧ (0 ≤ s.2.2 ∧ s.2.2 ≤ 1099511627776)) (fun s => l.length - s.1) (0, 0, 0) ⟨Nat.zero_le _, rfl, by decide, by decide⟩ ⟨rfl, rfl, rfl, trivial⟩ .nil ?_
  rintro ⟨k, a, b⟩ base ⟨hk, hI, ha, hb⟩
  dsimp only at hk hI ha hb ⊢
  focus (refine gV ?_; refine gC rfl rfl rfl rfl rfl ?_; refine gO ?_; refine gQ ?_)
  refine gc_if_dec rfl (fun h => ?_) (fun h => ?_)
  · have hlt : k < l.length := by omega
    obtain ⟨ad, rfl, hbk, hce, h1, h2, h3⟩ := hcell k hlt
    rw [totF_step hlt] at hI
    focus (refine gK ?_; refine gX ?_; refine gQ ?_; refine gB ?_; refine gV ?_; apply gw_d; exact w_index rfl rfl rfl rfl (by with_reducible exact rfl) (by omega); apply gw_d; exact w_load_elem rfl rfl rfl (by assumption) (by assumption) (by rfl); refine w_alloc rfl (fun _ => ?_); refine w_store_all rfl rfl rfl rfl rfl .here rfl ?_; refine gO ?_; refine gQ ?_; refine gV ?_; refine gF rfl rfl rfl ?_; refine gW rfl rfl rfl .here rfl ?_)
    have c1 : ∀ (L : List Res) (w' : World), St w L w' → Ok Tryz.prog 44 [.int .i64 l[k].work].toArray w' fun x _ => x = .bool (moneyB l[k].work) := fun _ w' _ => inRange_ok w' _
    have c2 : ∀ (L : List Res) (w' : World), St w L w' → Ok Tryz.prog 44 [.int .i64 l[k].top].toArray w' fun x _ => x = .bool (moneyB l[k].top) := fun _ w' _ => inRange_ok w' _
    have c3 : ∀ (L : List Res) (w' : World), St w L w' → Ok Tryz.prog 44 [.int .i64 (a + l[k].work)].toArray w' fun x _ => x = .bool (moneyB (a + l[k].work)) := fun _ w' _ => inRange_ok w' _
    have c4 : ∀ (L : List Res) (w' : World), St w L w' → Ok Tryz.prog 44 [.int .i64 (b + l[k].top)].toArray w' fun x _ => x = .bool (moneyB (b + l[k].top)) := fun _ w' _ => inRange_ok w' _
    cases h4 : moneyB l[k].work with
    | false =>
      rw [h4] at c1 hI
      focus (apply gw_d; exact w_call rfl rfl (c1 _) rfl; apply gw_d; exact det_not_ rfl rfl rfl; refine gM ?_; (iterate 4 refine gU ?_); refine gPt rfl rfl rfl rfl ?_; refine gO ?_; refine gc_if_true rfl ?_; refine gV ?_; (iterate 3 refine gM ?_); refine gO ?_; refine gR ?_; refine gT ?_; refine gY ?_; (iterate 2 refine gT ?_); refine gY ?_; refine gT ?_)
      refine gx_ret3 (u := .int _ _) (v := .int _ _) (x := .int _ _) rfl rfl rfl rfl (fun _ _ => ?_)
      rw [← hI]
      rfl
    | true =>
      rw [h4] at c1 hI
      cases h5 : moneyB l[k].top with
      | false =>
        rw [h5] at c2 hI
        focus (apply gw_d; exact w_call rfl rfl (c1 _) rfl; apply gw_d; exact det_not_ rfl rfl rfl; refine gM ?_; refine gF rfl rfl rfl ?_; refine gW rfl rfl rfl .here rfl ?_; apply gw_d; exact w_call rfl rfl (c2 _) rfl; apply gw_d; exact det_not_ rfl rfl rfl; refine gPf rfl rfl rfl rfl ?_; refine gO ?_; refine gc_if_true rfl ?_; refine gV ?_; (iterate 3 refine gM ?_); refine gO ?_; refine gR ?_; refine gT ?_; refine gY ?_; (iterate 2 refine gT ?_); refine gY ?_; refine gT ?_)
        refine gx_ret3 (u := .int _ _) (v := .int _ _) (x := .int _ _) rfl rfl rfl rfl (fun _ _ => ?_)
        rw [← hI]
        rfl
      | true =>
        rw [h5] at c2 hI
        have h4' := money_iff.1 h4
        have h5' := money_iff.1 h5
        cases h6 : moneyB (a + l[k].work) with
        | false =>
          rw [h6] at c3 hI
          focus (apply gw_d; exact w_call rfl rfl (c1 _) rfl; apply gw_d; exact det_not_ rfl rfl rfl; refine gM ?_; refine gF rfl rfl rfl ?_; refine gW rfl rfl rfl .here rfl ?_; apply gw_d; exact w_call rfl rfl (c2 _) rfl; apply gw_d; exact det_not_ rfl rfl rfl; refine gPf rfl rfl rfl rfl ?_; refine gO ?_; refine gc_if_false rfl ?_; refine gK ?_; refine gX ?_; refine gV ?_; refine gM ?_; refine gF rfl rfl rfl ?_; refine gW rfl rfl rfl .here rfl ?_; refine gA rfl rfl rfl rfl rfl (by omega) ?_; refine gM ?_; refine gN ?_; refine gM ?_; refine gF rfl rfl rfl ?_; refine gW rfl rfl rfl .here rfl ?_; refine gA rfl rfl rfl rfl rfl (by omega) ?_; refine gM ?_; refine gN ?_; refine gM ?_; apply gw_d; exact w_call rfl rfl (c3 _) rfl; apply gw_d; exact det_not_ rfl rfl rfl; refine gM ?_; (iterate 3 refine gU ?_); refine gPt rfl rfl rfl rfl ?_; refine gO ?_; refine gc_if_true rfl ?_; refine gV ?_; (iterate 3 refine gM ?_); refine gO ?_; refine gR ?_; refine gY ?_; (iterate 2 refine gT ?_); refine gY ?_; refine gT ?_)
          refine gx_ret3 (u := .int _ _) (v := .int _ _) (x := .int _ _) rfl rfl rfl rfl (fun _ _ => ?_)
          rw [← hI]
          rfl
        | true =>
          rw [h6] at c3 hI
          cases h7 : moneyB (b + l[k].top) with
          | false =>
            rw [h7] at c4 hI
            focus (apply gw_d; exact w_call rfl rfl (c1 _) rfl; apply gw_d; exact det_not_ rfl rfl rfl; refine gM ?_; refine gF rfl rfl rfl ?_; refine gW rfl rfl rfl .here rfl ?_; apply gw_d; exact w_call rfl rfl (c2 _) rfl; apply gw_d; exact det_not_ rfl rfl rfl; refine gPf rfl rfl rfl rfl ?_; refine gO ?_; refine gc_if_false rfl ?_; refine gK ?_; refine gX ?_; refine gV ?_; refine gM ?_; refine gF rfl rfl rfl ?_; refine gW rfl rfl rfl .here rfl ?_; refine gA rfl rfl rfl rfl rfl (by omega) ?_; refine gM ?_; refine gN ?_; refine gM ?_; refine gF rfl rfl rfl ?_; refine gW rfl rfl rfl .here rfl ?_; refine gA rfl rfl rfl rfl rfl (by omega) ?_; refine gM ?_; refine gN ?_; refine gM ?_; apply gw_d; exact w_call rfl rfl (c3 _) rfl; apply gw_d; exact det_not_ rfl rfl rfl; (iterate 2 refine gM ?_); apply gw_d; exact w_call rfl rfl (c4 _) rfl; apply gw_d; exact det_not_ rfl rfl rfl; refine gPf rfl rfl rfl rfl ?_; refine gO ?_; refine gc_if_true rfl ?_; refine gV ?_; (iterate 3 refine gM ?_); refine gO ?_; refine gR ?_; refine gY ?_; (iterate 2 refine gT ?_); refine gY ?_; refine gT ?_)
            refine gx_ret3 (u := .int _ _) (v := .int _ _) (x := .int _ _) rfl rfl rfl rfl (fun _ _ => ?_)
            rw [← hI]
            rfl
          | true =>
            rw [h7] at c4 hI
            have h6' := money_iff.1 h6
            have h7' := money_iff.1 h7
            focus (apply gw_d; exact w_call rfl rfl (c1 _) rfl; apply gw_d; exact det_not_ rfl rfl rfl; refine gM ?_; refine gF rfl rfl rfl ?_; refine gW rfl rfl rfl .here rfl ?_; apply gw_d; exact w_call rfl rfl (c2 _) rfl; apply gw_d; exact det_not_ rfl rfl rfl; refine gPf rfl rfl rfl rfl ?_; refine gO ?_; refine gc_if_false rfl ?_; refine gK ?_; refine gX ?_; refine gV ?_; refine gM ?_; refine gF rfl rfl rfl ?_; refine gW rfl rfl rfl .here rfl ?_; refine gA rfl rfl rfl rfl rfl (by omega) ?_; refine gM ?_; refine gN ?_; refine gM ?_; refine gF rfl rfl rfl ?_; refine gW rfl rfl rfl .here rfl ?_; refine gA rfl rfl rfl rfl rfl (by omega) ?_; refine gM ?_; refine gN ?_; refine gM ?_; apply gw_d; exact w_call rfl rfl (c3 _) rfl; apply gw_d; exact det_not_ rfl rfl rfl; (iterate 2 refine gM ?_); apply gw_d; exact w_call rfl rfl (c4 _) rfl; apply gw_d; exact det_not_ rfl rfl rfl; refine gPf rfl rfl rfl rfl ?_; refine gO ?_; refine gc_if_false rfl ?_; refine gK ?_; refine gH ?_; refine gX ?_; refine gG ?_; refine gA rfl rfl rfl rfl rfl (by omega) ?_; refine gM ?_; refine gw_nil ?_)
            exact gx_round (k + 1, a + l[k].work, b + l[k].top) ⟨hlt, hI, h6', h7'⟩ (by dsimp only; omega) (by repeat (first | exact Keeps.refl | refine Keeps.upd rfl ?_ | refine Keeps.sets rfl ?_ | refine Keeps.havoc rfl ?_)) ⟨rfl, rfl, rfl, trivial⟩ .nil
  · obtain rfl : k = l.length := by omega
    rw [List.drop_length] at hI
    focus (refine gI ?_; (iterate 2 refine gZ ?_); refine gJ ?_; refine gX ?_; refine gV ?_; (iterate 5 refine gM ?_); refine gO ?_; refine gR ?_)
    refine gx_ret3 (u := .int _ _) (v := .int _ _) (x := .int _ _) rfl rfl rfl rfl (fun _ _ => ?_)
    rw [← hI]
    rfl
theorem plus_ok (w : World) (a b : Int) (h : inI64 (a + b)) : Ok Tryz.prog 33 [.int .i64 a, .int .i64 b].toArray w fun r _ => r = .int .i64 (a + b) := by
  unfold inI64 at h
  refine ok_enter Tryz.func33 rfl Tryz.ntmps33 rfl ?_
  focus (refine gV ?_; refine gM ?_; refine gN ?_; (iterate 2 refine gM ?_); refine gA rfl rfl rfl rfl rfl (by omega) ?_; refine gM ?_; refine gO ?_; refine gR ?_)
  refine gx_ret1 (v := .int _ _) rfl rfl (fun _ _ => ?_)
  rfl
def sumI (l : List Int) : Int := l.foldl (· + ·) 0
theorem sumI_snoc (l : List Int) (x : Int) : sumI (l ++ [x]) = sumI l + x := by
  unfold sumI
  rw [List.foldl_append]
  rfl
theorem sumI_range {l : List Int} (h : ∀ x ∈ l, 0 ≤ x ∧ x ≤ 1000000000) : ∀ k, k ≤ l.length → 0 ≤ sumI (l.take k) ∧ sumI (l.take k) ≤ 1000000000 * k
  | 0, _ => by rw [List.take_zero]; exact ⟨Int.le_refl _, by decide⟩
  | k + 1, hk => by
    obtain ⟨h1, h2⟩ := sumI_range h k (by omega)
    have h3 := h l[k] (List.getElem_mem (by omega))
    rw [List.take_succ_eq_append_getElem (by omega), sumI_snoc]
    constructor <;> omega
theorem total_ok (w : World) (v : Value) (l : List Int) (hl : Sl rInt w w.heap.size v l) (hr : ∀ x ∈ l, 0 ≤ x ∧ x ≤ 1000000000) (h300 : l.length ≤ 300) : Ok Tryz.prog 32 [.func (.func 33) #[] #[], v].toArray w fun r _ => r = .int .i64 (sumI l) := by
  obtain ⟨A, c, rfl, hc, hm, hcell⟩ := hl.int
  refine ok_enter Tryz.func32 rfl Tryz.ntmps32 rfl ?_
  focus (refine gV ?_; refine gM ?_; refine gN ?_; refine gM ?_; refine gO ?_; refine gQ ?_; refine gV ?_; refine gM ?_; refine gL rfl rfl rfl ?_; refine gM ?_; refine gO ?_; refine gB ?_)
  refine gc_loopK (σ := Nat) [11, 12, 13, 7, 14, 15, 16, 17, 5, 18, 10] (fun k => [(10, .int .i64 k), (5, .int .i64 (sumI (l.take k)))]) (fun k => k ≤ l.length) (fun k => l.length - k) 0 (Nat.zero_le _) ⟨rfl, rfl, trivial⟩ ?_
  rintro k base hk
  focus (refine gV ?_; refine gC rfl rfl rfl rfl rfl ?_; refine gO ?_; refine gQ ?_)
  refine gc_if_dec rfl (fun h => ?_) (fun h => ?_)
  · have hlt : k < l.length := by omega
    obtain ⟨ad, rfl, hb, hce, _⟩ := hcell k hlt
    have h1 := sumI_range hr (k + 1) hlt
    rw [List.take_succ_eq_append_getElem hlt, sumI_snoc] at h1
    have hP : ∀ (L : List Res) (w' : World), St w L w' → Ok Tryz.prog 33 [.int .i64 (sumI (l.take k)), .int .i64 l[k]].toArray w' fun r _ => r = .int .i64 (sumI (l.take k) + l[k]) := fun _ w' _ => plus_ok w' _ _ (by unfold inI64; omega)
    focus (refine gK ?_; refine gX ?_; refine gQ ?_; refine gB ?_; refine gV ?_; apply gw_d; exact w_index rfl rfl rfl rfl (by with_reducible exact rfl) (by omega); apply gw_d; exact w_load_at rfl rfl rfl (by assumption) (by assumption); refine gM ?_; refine gO ?_; refine gG ?_; (iterate 3 refine gM ?_); apply gw_d; exact w_callv rfl rfl rfl (hP _) rfl; refine gM ?_; refine gw_nil ?_; refine gH ?_; refine gX ?_; refine gG ?_; refine gA rfl rfl rfl rfl rfl (by omega) ?_; refine gM ?_; refine gw_nil ?_)
    exact gx_round (k + 1) hlt (by omega) (by repeat (first | exact Keeps.refl | refine Keeps.upd rfl ?_ | refine Keeps.sets rfl ?_ | refine Keeps.havoc rfl ?_)) ⟨rfl, by rw [List.take_succ_eq_append_getElem hlt, sumI_snoc]; rfl, trivial⟩ (Sub.all _)
  · obtain rfl : k = l.length := by omega
    rw [List.take_length]
    focus (refine gI ?_; (iterate 2 refine gZ ?_); refine gJ ?_; refine gX ?_; refine gV ?_; (iterate 2 refine gM ?_); refine gO ?_; refine gR ?_)
    refine gx_ret1 (v := .int _ _) rfl rfl (fun _ _ => ?_)
    rfl

section
variable {w : World} {v0 v1 v2 v3 v4 v5 v6 vb vw vx : Value} {e : Int} {l : List Opn} {bs : List Bun} {ws : List Wrk} {xs : List Scn} (hO : ∀ (L : List Res) (w' : World), St w L w' → Ok Tryz.prog 63 [.agg #[v0, v1, v2, v3, v4, v5, v6]].toArray w' fun x _ => x = .int .i64 e)
include hO
def judgeAllE (e : Int) (bs : List Bun) (ws : List Wrk) (n : Nat) : Int := if ¬ scanE e bs ws = 0 then scanE e bs ws else if n > 300 then 5 else 0
theorem hO_later {L : List Res} {w' : World} (s : St w L w') : ∀ (L : List Res) (w2 : World), St w' L w2 → Ok Tryz.prog 63 [.agg #[v0, v1, v2, v3, v4, v5, v6]].toArray w2 fun x _ => x = .int .i64 e := fun _ w2 s2 => hO [] w2 ⟨s.below.trans (Below.mono s2.below s.below.size), trivial⟩
theorem Judge_bad (hb : Sl rBun w w.heap.size vb bs) (hw : Sl rWrk w w.heap.size vw ws) (hx : Sl rScn w w.heap.size vx xs) (he : ¬ judgeAllE e bs ws xs.length = 0) : Ok Tryz.prog 26 [.agg #[v0, v1, v2, v3, v4, v5, v6], vb, vw, vx].toArray w fun x _ => x = .tuple #[.slice none 0 0, .int .i64 (judgeAllE e bs ws xs.length)] := by
  have hJ : ∀ (L : List Res) (w' : World), St w L w' → Ok Tryz.prog 43 [.agg #[v0, v1, v2, v3, v4, v5, v6], vb, vw, vx].toArray w' fun x _ => x = .tuple #[.slice none 0 0, .map none, .int .i64 (judgeAllE e bs ws xs.length)] := fun L w' s => by
    by_cases h1 : scanE e bs ws = 0
    · by_cases h2 : xs.length > 300
      · have := judgeAll_long w' v0 v1 v2 v3 v4 v5 v6 vb vw vx e bs ws xs (hO_later hO s) (hb.later s) (hw.later s) (hx.later s) h1 h2
        have hE : judgeAllE e bs ws xs.length = 5 := by unfold judgeAllE; rw [if_neg (by rw [h1]; decide), if_pos h2]
        rw [hE]
        exact this
      · exact absurd (by unfold judgeAllE; rw [if_neg (by rw [h1]; decide), if_neg h2]) he
    · have := judgeAll_bad w' v0 v1 v2 v3 v4 v5 v6 vb vw vx e bs ws (hO_later hO s) (hb.later s) (hw.later s) h1
      have hE : judgeAllE e bs ws xs.length = scanE e bs ws := by unfold judgeAllE; rw [if_pos h1]
      rw [hE]
      exact this
  refine ok_enter Tryz.func26 rfl Tryz.ntmps26 rfl ?_
  focus (refine gV ?_; refine gw_boxd (v := .agg _) rfl rfl (fun _ => ?_); (iterate 2 refine gM ?_); refine gN ?_; apply gw_d; exact w_load_boxN rfl rfl rfl .here rfl; (iterate 3 refine gM ?_); apply gw_d; exact w_call rfl rfl (hJ _) rfl; refine gM ?_; apply gw_d; exact det_extract rfl rfl rfl (by conv => (lhs; whnf)); apply gw_d; exact det_extract rfl rfl rfl (by conv => (lhs; whnf)); apply gw_d; exact det_extract rfl rfl rfl (by conv => (lhs; whnf)); (iterate 3 refine gM ?_); refine gN ?_; (iterate 4 refine gM ?_); refine gO ?_; refine gR ?_)
  refine gx_ret2 (u := .slice _ _ _) (v := .int _ _) rfl rfl rfl (fun _ _ => ?_)
  rfl
theorem Judge_ok (hl : Sl rOp w w.heap.size v6 l) (hb : Sl rBun w w.heap.size vb bs) (hw : Sl rWrk w w.heap.size vw ws) (hx : Sl rScn w w.heap.size vx xs) (hS : Small l) (he : judgeAllE e bs ws xs.length = 0) :
    OkM Tryz.prog 26 [.agg #[v0, v1, v2, v3, v4, v5, v6], vb, vw, vx].toArray w (fun x : Nat => .tuple #[.slice (some ⟨x, 0, none⟩) xs.length xs.length, .int .i64 0]) (fun x => [Box x 3 ((outs l ws (ticks bs) [] xs).map (Value.int .i64)).toArray]) := by
  have h1 : scanE e bs ws = 0 := by
    unfold judgeAllE at he
    split at he
    · rename_i h; exact absurd he h
    · rename_i h; simpa using h
  have h2 : ¬ xs.length > 300 := fun h => by
    unfold judgeAllE at he
    rw [if_neg (by rw [h1]; decide), if_pos h] at he
    cases he
  unfold OkM
  refine ok_enter Tryz.func26 rfl Tryz.ntmps26 rfl ?_
  focus (refine gV ?_; refine gw_boxd (v := .agg _) rfl rfl (fun _ => ?_); (iterate 2 refine gM ?_); refine gN ?_; apply gw_d; exact w_load_boxN rfl rfl rfl .here rfl; (iterate 3 refine gM ?_))
  refine gw_callm rfl (fun w' s => judgeAll_ok w' v0 v1 v2 v3 v4 v5 v6 vb vw vx e l bs ws xs (hO_later hO s) (hl.later s) (hb.later s) (hw.later s) (hx.later s) hS h1 h2) rfl (fun x => ?_)
  focus (refine gM ?_; apply gw_d; exact det_extract rfl rfl rfl (by conv => (lhs; whnf)); apply gw_d; exact det_extract rfl rfl rfl (by conv => (lhs; whnf)); apply gw_d; exact det_extract rfl rfl rfl (by conv => (lhs; whnf)); (iterate 3 refine gM ?_); refine gN ?_; (iterate 4 refine gM ?_); refine gO ?_; refine gR ?_)
  exact gx_ret2 (u := .slice _ _ _) (v := .int _ _) rfl rfl rfl (fun w' s => ⟨x.1, rfl, (St.sub (K := [Box x.1 3 ((outs l ws (ticks bs) [] xs).map (Value.int .i64)).toArray]) (.cons .here .nil) s).sep⟩)
end
def minAt (l : List Opn) (o : Int) : Int := ((l[o.toNat]?).map (·.minutes)).getD 0
def cntAt (bs : List Bun) (t : Int) : Int := ((bs.find? fun b => decide (b.tick = t)).map fun b => b.upto - b.fr).getD 0
def amtOf (r le : Int) (l : List Opn) (bs : List Bun) (x : Scn) : Int := amtV r le (minAt l x.op) (cntAt bs x.tick)
def amts (r le : Int) (l : List Opn) (bs : List Bun) (ps : List Scn) (m : Nat) : List Int := (ps.filter fun x => decide (x.who = (m : Int))).map (amtOf r le l bs)
theorem amts_snoc (r le : Int) (l : List Opn) (bs : List Bun) (ps : List Scn) (x : Scn) (m : Nat) : amts r le l bs (ps ++ [x]) m = if x.who = (m : Int) then amts r le l bs ps m ++ [amtOf r le l bs x] else amts r le l bs ps m := by
  unfold amts
  rw [List.filter_append]
  by_cases h : x.who = (m : Int)
  · simp [h]
  · simp [h]
theorem cnt_at {bs : List Bun} (h : Tix (ticks bs)) {j : Nat} (hj : j < bs.length) : cntAt bs bs[j].tick = bs[j].upto - bs[j].fr := by
  unfold cntAt
  cases hf : bs.find? fun b => decide (b.tick = bs[j].tick) with
  | none =>
    have := List.find?_eq_none.1 hf bs[j] (List.getElem_mem hj)
    simp at this
  | some b =>
    have h1 : b.tick = bs[j].tick := by simpa using List.find?_some hf
    obtain ⟨i, hi, rfl⟩ := List.getElem_of_mem (List.mem_of_find?_eq_some hf)
    have hij : i = j := h.inj (by simpa [ticks] using hi) (by simpa [ticks] using hj) (by rw [ticks_at hi, ticks_at hj, h1])
    subst hij
    rfl
def mapV (tk : List Int) (f : Nat → Value) : Nat → List (Int × Value)
  | 0 => []
  | k + 1 => aset (mapV tk f k) (tkAt tk k) (f k)
theorem mapV_old {tk : List Int} {f : Nat → Value} (h : Tix tk) : ∀ k, k ≤ tk.length → ∀ i, i < k → aget (mapV tk f k) (tkAt tk i) = some (f i)
  | 0, _, i, hi => by omega
  | k + 1, hk, i, hi => by
    show aget (aset (mapV tk f k) (tkAt tk k) (f k)) (tkAt tk i) = _
    rw [aget_aset]
    split
    · rename_i he
      rw [h.inj (by omega) (by omega) he]
    · rename_i he
      exact mapV_old h k (by omega) i (by
        have : ¬ i = k := fun hc => he (by rw [hc])
        omega)
def cntV (bs : List Bun) (i : Nat) : Value := .int .i64 (((bs[i]?).map fun b => b.upto - b.fr).getD 0)
theorem cntV_at {bs : List Bun} {i : Nat} (hi : i < bs.length) : cntV bs i = .int .i64 (bs[i].upto - bs[i].fr) := by
  unfold cntV
  rw [List.getElem?_eq_getElem hi]
  rfl

theorem outs_at' {l : List Opn} {ws : List Wrk} {tk : List Int} : ∀ {xs ps : List Scn} {i : Nat} (hi : i < xs.length), (outs l ws tk ps xs).getD i 0 = outE l ws tk ((xs.take i).foldl (nextP l ws tk) ps) xs[i]
  | x :: xs, ps, 0, _ => rfl
  | x :: xs, ps, i + 1, hi => by
    show (outs l ws tk (nextP l ws tk ps x) xs).getD i 0 = _
    rw [outs_at' (by simpa using hi)]
    rfl
theorem outs_at {l : List Opn} {ws : List Wrk} {tk : List Int} {xs : List Scn} {i : Nat} (hi : i < xs.length) : (outs l ws tk [] xs).getD i 0 = outE l ws tk (paidL l ws tk (xs.take i)) xs[i] := outs_at' hi
theorem out_one {l : List Opn} {ws : List Wrk} {tk : List Int} {ps : List Scn} {x : Scn} (h : outE l ws tk ps x = 1) : hasB tk x.tick = true ∧ (0 ≤ x.op ∧ x.op < l.length) ∧ (0 ≤ x.who ∧ x.who < ws.length) := by
  unfold outE at h
  split at h
  · cases h
  · rename_i h1
    refine ⟨by simpa using h1, ?_⟩
    unfold judgeE at h
    split at h
    · cases h
    · rename_i h2
      have h3 : knownB l ws x = true := by simpa using h2
      unfold knownB at h3
      have := of_decide_eq_true h3
      omega

theorem next_len (l : List Opn) (ws : List Wrk) (tk : List Int) (ps : List Scn) (x : Scn) : (nextP l ws tk ps x).length ≤ ps.length + 1 := by
  unfold nextP
  split <;> simp
theorem paid_len' (l : List Opn) (ws : List Wrk) (tk : List Int) : ∀ (xs ps : List Scn), (xs.foldl (nextP l ws tk) ps).length ≤ ps.length + xs.length
  | [], ps => by simp
  | x :: xs, ps => by
    have h1 := paid_len' l ws tk xs (nextP l ws tk ps x)
    have h2 := next_len l ws tk ps x
    simp only [List.foldl_cons, List.length_cons]
    omega
theorem paidL_len (l : List Opn) (ws : List Wrk) (tk : List Int) (xs : List Scn) : (paidL l ws tk xs).length ≤ xs.length := by
  have := paid_len' l ws tk xs []
  unfold paidL
  simpa using this
theorem amts_len (r le : Int) (l : List Opn) (bs : List Bun) (ps : List Scn) (m : Nat) : (amts r le l bs ps m).length ≤ ps.length := by
  unfold amts
  rw [List.length_map]
  exact List.length_filter_le _ _

theorem amtV_range (r l m c : Int) : 0 ≤ amtV r l m c ∧ amtV r l m c ≤ 1000000000 := by
  unfold amtV
  split
  · rename_i h
    have := (amt_range h).2
    omega
  · omega
theorem amts_range {r le : Int} {l : List Opn} {bs : List Bun} {ps : List Scn} {m : Nat} : ∀ x ∈ amts r le l bs ps m, 0 ≤ x ∧ x ≤ 1000000000 := fun x hx => by
  unfold amts at hx
  obtain ⟨y, _, rfl⟩ := List.mem_map.1 hx
  exact amtV_range _ _ _ _

def rowC (n : Nat) (A : Nat → Option Addr × Nat) (F : Nat → List Int) : List Value := (List.range n).map fun m => .slice (A m).1 (F m).length (A m).2
def setA (A : Nat → Option Addr × Nat) (m : Nat) (a : Option Addr × Nat) : Nat → Option Addr × Nat := fun j => if j = m then a else A j
def rowR (el : TypeId) (A : Nat → Option Addr × Nat) (F : Nat → List Int) (m : Nat) : Res := Own (A m).1 (F m).length (A m).2 el 1 ((F m).map (Value.int .i64))
theorem rowC_len (n : Nat) (A : Nat → Option Addr × Nat) (F : Nat → List Int) : (rowC n A F).length = n := by simp [rowC]
theorem rowC_get {n m : Nat} (A : Nat → Option Addr × Nat) (F : Nat → List Int) (hm : m < n) : (rowC n A F).toArray[m * 1]? = some (.slice (A m).1 (F m).length (A m).2) := by simp [rowC, hm]
theorem rowC_set {n m : Nat} {A : Nat → Option Addr × Nat} {F F' : Nat → List Int} (_hm : m < n) {a : Option Addr × Nat} (h1 : ∀ j, ¬ j = m → F' j = F j) : (rowC n A F).set m (.slice a.1 (F' m).length a.2) = rowC n (setA A m a) F' := by
  apply List.ext_getElem
  · simp [rowC]
  · intro i h2 h3
    simp only [rowC, List.getElem_set, List.getElem_map, List.getElem_range, setA]
    by_cases h : m = i
    · subst h; simp
    · have : ¬ i = m := fun hc => h hc.symm
      simp [h, this, h1 i this]
theorem row_put {n m : Nat} {el : TypeId} {A : Nat → Option Addr × Nat} {F F' : Nat → List Int} {a : Option Addr × Nat} {L : List Res} (hm : m < n) (h1 : ∀ j, ¬ j = m → F' j = F j) :
    Ent (Own a.1 (F' m).length a.2 el 1 ((F' m).map (Value.int .i64)) :: Coll n (setR (rowR el A F) m Emp) :: L) (Coll n (rowR el (setA A m a) F') :: L) :=
  Ent.trans (coll_put hm) (coll_congr fun j hj => by
    unfold setR rowR setA
    by_cases h : j = m
    · subst h; simp
    · simp [h, h1 j h])
theorem rows_nil {n : Nat} {el : TypeId} {F : Nat → List Int} (hF : ∀ m, F m = []) {L : List Res} : Ent L (Coll n (rowR el (fun _ => (none, 0)) F) :: L) := fun w0 w s => by
  have hfp : ∀ m b, ¬ (rowR el (fun _ => (none, 0)) F m).fp b := fun m b hb => by
    unfold rowR at hb
    rw [hF m] at hb
    simp [Own, Value.ownBlock] at hb
  refine ⟨s.below, ⟨fun m _ => ?_, fun i j _ _ _ b hb => absurd hb (hfp i b)⟩, fun b ⟨i, _, hb⟩ => absurd hb (hfp i b), fun b ⟨i, _, hb⟩ => absurd hb (hfp i b), s.sep⟩
  unfold rowR
  rw [hF m]
  exact World.ownsRow_nil w 0 el 1
theorem Sl.rowAt {w0 w : World} {L L' : List Res} {n m : Nat} {el : TypeId} {A : Nat → Option Addr × Nat} {F : Nat → List Int} (s : St w0 L w) (hp : Pick L (Coll n (rowR el A F)) L') (hm : m < n) (hin : ∀ x ∈ F m, inI64 x) : Sl rInt w w.heap.size (.slice (A m).1 (F m).length (A m).2) (F m) :=
  Sl.ownI (coll_take hm w0 w (s.pick hp)) .here rfl hin

def payOf (le : Int) (m : Nat) (l : List Int) : List Pay := if l.length = 0 then [] else [⟨m, sumI l, max (le - sumI l) 0⟩]
def payP (le : Int) (F : Nat → List Int) (k : Nat) : List Pay := (List.range k).flatMap fun m => payOf le m (F m)
theorem payP_snoc (le : Int) (F : Nat → List Int) (k : Nat) : payP le F (k + 1) = payP le F k ++ payOf le k (F k) := by
  unfold payP
  rw [List.range_succ, List.flatMap_append]
  simp
theorem payP_len (le : Int) (F : Nat → List Int) : ∀ k, (payP le F k).length ≤ k
  | 0 => Nat.le_refl _
  | k + 1 => by
    rw [payP_snoc, List.length_append]
    have := payP_len le F k
    have : (payOf le k (F k)).length ≤ 1 := by unfold payOf; split <;> simp
    omega
def encP (p : Pay) : List Value := [.int .i64 p.who, .int .i64 p.work, .int .i64 p.top]
def paysL (r le : Int) (l : List Opn) (bs : List Bun) (ws : List Wrk) (xs : List Scn) : List Pay := payP le (amts r le l bs (paidL l ws (ticks bs) xs)) ws.length
section
variable {l : List Opn} {ws : List Wrk} {tk : List Int}
theorem paid_mem {xs : List Scn} {y : Scn} (h : y ∈ paidL l ws tk xs) : y ∈ xs := by
  have : ∀ (xs ps : List Scn), y ∈ xs.foldl (nextP l ws tk) ps → y ∈ ps ∨ y ∈ xs := by
    intro xs
    induction xs with
    | nil => intro ps h; exact .inl h
    | cons x xs ih =>
      intro ps h
      rcases ih _ h with h | h
      · unfold nextP at h
        split at h
        · rcases List.mem_append.1 h with h | h
          · exact .inl h
          · rw [List.mem_singleton] at h; exact .inr (by rw [h]; exact List.mem_cons_self)
        · exact .inl h
      · exact .inr (List.mem_cons_of_mem _ h)
  rcases this xs [] h with h | h
  · cases h
  · exact h
end

theorem sumI_from (l : List Int) : ∀ a : Int, l.foldl (· + ·) a = a + sumI l := by
  unfold sumI
  induction l with
  | nil => intro a; simp
  | cons x l ih =>
    intro a
    rw [List.foldl_cons, List.foldl_cons, ih (a + x), ih (0 + x)]
    omega
theorem sumI_cons (x : Int) (l : List Int) : sumI (x :: l) = x + sumI l := by
  show (x :: l).foldl (· + ·) 0 = _
  rw [List.foldl_cons, sumI_from]
  omega
theorem sumI_nonneg : ∀ {l : List Int}, (∀ x ∈ l, 0 ≤ x) → 0 ≤ sumI l
  | [], _ => Int.le_refl _
  | x :: l, h => by
    rw [sumI_cons]
    have h1 := h x List.mem_cons_self
    have h2 := sumI_nonneg fun y hy => h y (List.mem_cons_of_mem _ hy)
    omega
theorem sumI_le {M : Int} : ∀ {l : List Int}, (∀ x ∈ l, x ≤ M) → sumI l ≤ M * l.length
  | [], _ => by simp [sumI]
  | x :: l, h => by
    rw [sumI_cons, List.length_cons, Int.natCast_add, Int.mul_add]
    have h1 := h x List.mem_cons_self
    have h2 := sumI_le fun y hy => h y (List.mem_cons_of_mem _ hy)
    have : M * ((1 : Nat) : Int) = M := by simp
    omega
theorem payP_mem {le : Int} {F : Nat → List Int} {k : Nat} {p : Pay} (h : p ∈ payP le F k) : ∃ m, m < k ∧ p = ⟨m, sumI (F m), max (le - sumI (F m)) 0⟩ ∧ ¬ (F m).length = 0 := by
  unfold payP at h
  obtain ⟨m, hm, hp⟩ := List.mem_flatMap.1 h
  unfold payOf at hp
  split at hp
  · cases hp
  · rename_i hz
    exact ⟨m, List.mem_range.1 hm, List.mem_singleton.1 hp, hz⟩
/-! ### What Pays gives -/
def encX (x : Scn) : List Value := [.int .i64 x.tick, .int .i64 x.op, .int .i64 x.who, .int .i64 x.time]
section
variable {w : World} {v0 v1 v2 v3 v4 v5 v6 vb vw vx : Value} {e : Int} {l : List Opn} {bs : List Bun} {ws : List Wrk} {xs : List Scn} (hO : ∀ (L : List Res) (w' : World), St w L w' → Ok Tryz.prog 63 [.agg #[v0, v1, v2, v3, v4, v5, v6]].toArray w' fun x _ => x = .int .i64 e)
include hO
end
def paysE (r le e : Int) (bs : List Bun) (ws : List Wrk) (n : Nat) : Int := if ¬ tarE r le = 0 then tarE r le else judgeAllE e bs ws n
section
variable {w : World} {v0 v1 v2 v3 v4 v5 v6 vb vw vx : Value} {e r le : Int} {l : List Opn} {bs : List Bun} {ws : List Wrk} {xs : List Scn} (hO : ∀ (L : List Res) (w' : World), St w L w' → Ok Tryz.prog 63 [.agg #[v0, v1, v2, v3, v4, v5, v6]].toArray w' fun x _ => x = .int .i64 e) (hL : Lay w)
include hO hL
theorem Pays_bad (hb : Sl rBun w w.heap.size vb bs) (hw : Sl rWrk w w.heap.size vw ws) (hx : Sl rScn w w.heap.size vx xs) (he : ¬ paysE r le e bs ws xs.length = 0) : Ok Tryz.prog 14 [.agg #[v0, v1, v2, v3, v4, v5, v6], vb, vw, vx, .agg #[.int .i64 r, .int .i64 le]].toArray w fun x _ => x = .tuple #[.slice none 0 0, .int .i64 (paysE r le e bs ws xs.length)] := by
  have hC : ∀ (L : List Res) (w' : World), St w L w' → Ok Tryz.prog 9 [.agg #[.int .i64 r, .int .i64 le]].toArray w' fun x _ => x = .int .i64 (tarE r le) := fun L w' s => wCheck_ok w' r le (hL.later s)
  by_cases h1 : tarE r le = 0
  · have hE : paysE r le e bs ws xs.length = judgeAllE e bs ws xs.length := by unfold paysE; rw [if_neg (by rw [h1]; decide)]
    rw [hE] at he ⊢
    rw [h1] at hC
    have hJ : ∀ (L : List Res) (w' : World), St w L w' → Ok Tryz.prog 26 [.agg #[v0, v1, v2, v3, v4, v5, v6], vb, vw, vx].toArray w' fun x _ => x = .tuple #[.slice none 0 0, .int .i64 (judgeAllE e bs ws xs.length)] := fun L w' s => Judge_bad (hO_later hO s) (hb.later s) (hw.later s) (hx.later s) he
    refine ok_enter Tryz.func14 rfl Tryz.ntmps14 rfl ?_
    focus (refine gV ?_; refine gw_boxd (v := .agg _) rfl rfl (fun _ => ?_); refine gw_boxd (v := .agg _) rfl rfl (fun _ => ?_); (iterate 2 refine gM ?_); refine gO ?_; refine gQ ?_; refine gV ?_; apply gw_d; exact w_load_boxN rfl rfl rfl .here rfl; apply gw_d; exact w_call rfl rfl (hC _) rfl; refine gM ?_; refine gN ?_; refine gM ?_; refine gC rfl rfl rfl rfl rfl ?_; refine gO ?_)
    refine gc_if_dec rfl (fun h => absurd rfl h) (fun _ => ?_)
    focus (refine gK ?_; refine gX ?_; refine gV ?_; apply gw_d; exact w_load_boxN rfl rfl rfl (.there .here) rfl; (iterate 3 refine gM ?_); apply gw_d; exact w_call rfl rfl (hJ _) rfl; refine gM ?_; apply gw_d; exact det_extract rfl rfl rfl (by conv => (lhs; whnf)); apply gw_d; exact det_extract rfl rfl rfl (by conv => (lhs; whnf)); (iterate 2 refine gM ?_); refine gO ?_; refine gQ ?_; refine gV ?_; refine gM ?_; refine gC rfl rfl rfl rfl rfl ?_; refine gO ?_)
    refine gc_if_dec rfl (fun _ => ?_) (fun h => absurd he h)
    focus (refine gV ?_; (iterate 3 refine gM ?_); refine gO ?_; refine gR ?_; refine gT ?_)
    refine gx_ret2 (u := .slice _ _ _) (v := .int _ _) rfl rfl rfl (fun _ _ => ?_)
    rfl
  · have hE : paysE r le e bs ws xs.length = tarE r le := by unfold paysE; rw [if_pos h1]
    rw [hE]
    refine ok_enter Tryz.func14 rfl Tryz.ntmps14 rfl ?_
    focus (refine gV ?_; refine gw_boxd (v := .agg _) rfl rfl (fun _ => ?_); refine gw_boxd (v := .agg _) rfl rfl (fun _ => ?_); (iterate 2 refine gM ?_); refine gO ?_; refine gQ ?_; refine gV ?_; apply gw_d; exact w_load_boxN rfl rfl rfl .here rfl; apply gw_d; exact w_call rfl rfl (hC _) rfl; refine gM ?_; refine gN ?_; refine gM ?_; refine gC rfl rfl rfl rfl rfl ?_; refine gO ?_)
    refine gc_if_dec rfl (fun _ => ?_) (fun h => absurd h1 h)
    focus (refine gV ?_; (iterate 3 refine gM ?_); refine gO ?_; refine gR ?_; refine gT ?_)
    refine gx_ret2 (u := .slice _ _ _) (v := .int _ _) rfl rfl rfl (fun _ _ => ?_)
    rfl
theorem Pays_ok (hl : Sl rOp w w.heap.size v6 l) (hb : Sl rBun w w.heap.size vb bs) (hw : Sl rWrk w w.heap.size vw ws) (hx : Sl rScn w w.heap.size vx xs) (hS : Small l) (hMin : ∀ k (hk : k < l.length), 0 ≤ l[k].minutes ∧ l[k].minutes ≤ 10000) (he : paysE r le e bs ws xs.length = 0) :
    OkM Tryz.prog 14 [.agg #[v0, v1, v2, v3, v4, v5, v6], vb, vw, vx, .agg #[.int .i64 r, .int .i64 le]].toArray w (fun x : Option Addr × Nat => .tuple #[.slice x.1 (paysL r le l bs ws xs).length x.2, .int .i64 0]) (fun x => [Own x.1 (paysL r le l bs ws xs).length x.2 90 3 ((paysL r le l bs ws xs).flatMap encP)]) := by
  have h1 : tarE r le = 0 := by
    unfold paysE at he
    split at he
    · rename_i h; exact absurd he h
    · rename_i h; simpa using h
  have h2 : judgeAllE e bs ws xs.length = 0 := by
    unfold paysE at he
    rw [if_neg (by rw [h1]; decide)] at he
    exact he
  have h3 : scanE e bs ws = 0 := by
    unfold judgeAllE at h2
    split at h2
    · rename_i h; exact absurd h2 h
    · rename_i h; simpa using h
  have h300 : xs.length ≤ 300 := by
    unfold judgeAllE at h2
    rw [if_neg (by rw [h3]; decide)] at h2
    split at h2
    · cases h2
    · omega
  have hOk := scan_good h3
  have h12 : ws.length ≤ 12 := by
    have := hOk.skill
    unfold skillE at this
    split at this
    · cases this
    · omega
  obtain ⟨hr, hle⟩ := tar_zero h1
  have htl : (ticks bs).length = bs.length := by simp [ticks]
  have hC : ∀ (L : List Res) (w' : World), St w L w' → Ok Tryz.prog 9 [.agg #[.int .i64 r, .int .i64 le]].toArray w' fun x _ => x = .int .i64 0 := fun L w' s => by
    have := wCheck_ok w' r le (hL.later s)
    rw [h1] at this
    exact this
  obtain ⟨Al, cl, rfl, hlc, hlm⟩ := len_small hl
  obtain ⟨Ab, cb, rfl, hbc, hbm, hbcell⟩ := hb.bun
  obtain ⟨Aw, cw, rfl, hwc, hwm, _⟩ := hw.wrk
  obtain ⟨Ax, cx, rfl, hxc, hxm, hxcell⟩ := hx.scn
  unfold OkM
  refine ok_enter Tryz.func14 rfl Tryz.ntmps14 rfl ?_
  focus (refine gV ?_; refine gw_boxd (v := .agg _) rfl rfl (fun _ => ?_); refine gw_boxd (v := .agg _) rfl rfl (fun _ => ?_); (iterate 2 refine gM ?_); refine gO ?_; refine gQ ?_; refine gV ?_; apply gw_d; exact w_load_boxN rfl rfl rfl .here rfl; apply gw_d; exact w_call rfl rfl (hC _) rfl; refine gM ?_; refine gN ?_; refine gM ?_; refine gC rfl rfl rfl rfl rfl ?_; refine gO ?_)
  rename_i bv bt
  refine gc_if_dec rfl (fun h => absurd rfl h) (fun _ => ?_)
  focus (refine gK ?_; refine gX ?_; refine gV ?_; apply gw_d; exact w_load_boxN rfl rfl rfl (.there .here) rfl; (iterate 3 refine gM ?_))
  refine gw_callm rfl (fun w' s => Judge_ok (hO_later hO s) (hl.later s) (hb.later s) (hw.later s) (hx.later s) hS h2) rfl (fun g => ?_)
  focus (refine gM ?_; apply gw_d; exact det_extract rfl rfl rfl (by conv => (lhs; whnf)); apply gw_d; exact det_extract rfl rfl rfl (by conv => (lhs; whnf)); (iterate 2 refine gM ?_); refine gO ?_; refine gQ ?_; refine gV ?_; refine gM ?_; refine gC rfl rfl rfl rfl rfl ?_; refine gO ?_)
  refine gc_if_dec rfl (fun h => absurd rfl h) (fun _ => ?_)
  focus (refine gK ?_; refine gX ?_; refine gV ?_)
  refine gw_makeMap kInt rfl (fun bm => ?_)
  focus (refine gM ?_; refine gO ?_; refine gQ ?_; refine gV ?_; refine gM ?_; refine gL rfl rfl rfl ?_; refine gM ?_; refine gO ?_; refine gB ?_)
  refine gc_loop (σ := Nat) [47, 48, 49, 17, 50, 51, 52, 53, 54, 55, 56, 57, 58, 46] (fun k => [(46, .int .i64 k)]) (fun k => [MapR bm kInt (mapV (ticks bs) (cntV bs) k), Box g 3 ((outs l ws (ticks bs) [] xs).map (Value.int .i64)).toArray, Box bt 36 #[.int .i64 r, .int .i64 le], Box bv 29 #[v0, v1, v2, v3, v4, v5, .slice Al l.length cl]]) (fun k => k ≤ bs.length) (fun k => bs.length - k) 0 (Nat.zero_le _) ⟨rfl, trivial⟩ (.cons .here (.cons .here (.cons .here (.cons .here .nil)))) ?_
  rintro k base hk
  focus (refine gV ?_; refine gC rfl rfl rfl rfl rfl ?_; refine gO ?_; refine gQ ?_)
  refine gc_if_dec rfl (fun h => ?_) (fun h => ?_)
  · have hlt : k < bs.length := by omega
    obtain ⟨ad, rfl, hbk, hce, i1, i2, i3⟩ := hbcell k hlt
    have hpl := hOk.plies k hlt
    focus (refine gK ?_; refine gX ?_; refine gQ ?_; refine gB ?_; refine gV ?_; apply gw_d; exact w_index rfl rfl rfl rfl (by with_reducible exact rfl) (by omega); apply gw_d; exact w_load_elem rfl rfl rfl (by assumption) (by assumption) (by rfl); refine w_alloc rfl (fun _ => ?_); refine w_store_all rfl rfl rfl rfl rfl .here rfl ?_; refine gO ?_; refine gG ?_; refine gM ?_; refine gF rfl rfl rfl ?_; refine gW rfl rfl rfl .here rfl ?_; refine gF rfl rfl rfl ?_; refine gW rfl rfl rfl .here rfl ?_; refine gF rfl rfl rfl ?_; refine gW rfl rfl rfl .here rfl ?_; refine gA rfl rfl rfl rfl rfl (by omega) ?_)
    refine gw_mapSet (k := bs[k].tick) (v := .int .i64 (bs[k].upto - bs[k].fr)) intLawC rfl rfl rfl rfl (.there .here) ?_
    have hmap : aset (mapV (ticks bs) (cntV bs) k) bs[k].tick (.int .i64 (bs[k].upto - bs[k].fr)) = mapV (ticks bs) (cntV bs) (k + 1) := by
      show _ = aset (mapV (ticks bs) (cntV bs) k) (tkAt (ticks bs) k) (cntV bs k)
      rw [ticks_at hlt, cntV_at hlt]
    rw [hmap]
    focus (refine gw_nil ?_; refine gH ?_; refine gX ?_; refine gG ?_; refine gA rfl rfl rfl rfl rfl (by omega) ?_; refine gM ?_; refine gw_nil ?_)
    exact gx_round (k + 1) hlt (by omega) (by repeat (first | exact Keeps.refl | refine Keeps.upd rfl ?_ | refine Keeps.sets rfl ?_ | refine Keeps.havoc rfl ?_)) ⟨rfl, trivial⟩ (.cons .here (.cons (.there .here) (.cons (.there .here) (.cons (.there .here) .nil))))
  obtain rfl : k = bs.length := by omega
  focus (refine gI ?_; (iterate 2 refine gZ ?_); refine gJ ?_; refine gX ?_; refine gV ?_; refine gM ?_; refine gL rfl rfl rfl ?_)
  refine gw_make1 (n := ws.length) rfl rfl rfl rfl rfl (by omega) (by omega) rfl (fun ga => ?_)
  have hA0 : ∀ m, amts r le l bs (paidL l ws (ticks bs) (xs.take 0)) m = [] := fun m => rfl
  have hrow0 : rowC ws.length (fun _ => (none, 0)) (amts r le l bs (paidL l ws (ticks bs) (xs.take 0))) = List.replicate ws.length (.slice none 0 0) := by
    apply List.ext_getElem
    · simp [rowC]
    · intro i a1 a2
      simp only [rowC, List.getElem_map, List.getElem_range, List.getElem_replicate]
      rw [hA0]
      rfl
  rw [show Array.replicate ws.length ((Value.slice none 0 0).cells.getD 0 undef) = (rowC ws.length (fun _ => (none, 0)) (amts r le l bs (paidL l ws (ticks bs) (xs.take 0)))).toArray from by rw [hrow0]; simp [Value.cells]]
  focus (refine gM ?_; refine gO ?_; refine gQ ?_; refine gV ?_; refine gM ?_; refine gL rfl rfl rfl ?_; refine gM ?_; refine gO ?_; refine gB ?_)
  refine gc_ent (rows_nil (n := ws.length) (el := 94) hA0) ?_
  refine gc_loop (σ := Nat × (Nat → Option Addr × Nat)) [65, 66, 67, 68, 20, 19, 69, 70, 71, 72, 73, 75, 76, 77, 78, 79, 80, 81, 82, 83, 84, 85, 86, 87, 74, 88, 89, 21, 22, 90, 91, 92, 10, 11, 93, 94, 95, 96, 97, 98, 99, 100, 101, 102, 103, 104, 105, 64] (fun s => [(64, .int .i64 s.1)]) (fun s => [Coll ws.length (rowR 94 s.2 (amts r le l bs (paidL l ws (ticks bs) (xs.take s.1)))), Box ga 93 (rowC ws.length s.2 (amts r le l bs (paidL l ws (ticks bs) (xs.take s.1)))).toArray, MapR bm kInt (mapV (ticks bs) (cntV bs) bs.length), Box g 3 ((outs l ws (ticks bs) [] xs).map (Value.int .i64)).toArray, Box bt 36 #[.int .i64 r, .int .i64 le], Box bv 29 #[v0, v1, v2, v3, v4, v5, .slice Al l.length cl]]) (fun s => s.1 ≤ xs.length) (fun s => xs.length - s.1) (0, fun _ => (none, 0)) (Nat.zero_le _) ⟨rfl, trivial⟩ (.cons .here (.cons .here (.cons .here (.cons .here (.cons .here (.cons .here .nil)))))) ?_
  rintro ⟨i, A⟩ base2 hi
  dsimp only at hi ⊢
  focus (refine gV ?_; refine gC rfl rfl rfl rfl rfl ?_; refine gO ?_; refine gQ ?_)
  refine gc_if_dec rfl (fun h4 => ?_) (fun h4 => ?_)
  · have hil : i < xs.length := by omega
    obtain ⟨ad2, rfl, hxk, hcx, x1, x2, x3, x4⟩ := hxcell i hil
    have hol := outs_len l ws (ticks bs) xs []
    have hout : (outs l ws (ticks bs) [] xs).getD i 0 = outE l ws (ticks bs) (paidL l ws (ticks bs) (xs.take i)) xs[i] := outs_at hil
    have hgo : (((outs l ws (ticks bs) [] xs).map (Value.int .i64)).toArray)[i * 1]? = some (.int .i64 (outE l ws (ticks bs) (paidL l ws (ticks bs) (xs.take i)) xs[i])) := by
      rw [← hout]
      exact row_get (Value.int .i64) 0 (by omega)
    have hpsn := paidL_snoc l ws (ticks bs) (xs.take i) xs[i]
    rw [← List.take_succ_eq_append_getElem hil] at hpsn
    have hps := paidL_len l ws (ticks bs) (xs.take i)
    rw [List.length_take, Nat.min_eq_left (by omega)] at hps
    generalize paidL l ws (ticks bs) (xs.take i) = ps at *
    generalize outs l ws (ticks bs) [] xs = os at *
    generalize xs[i] = x at *
    focus (refine gK ?_; refine gX ?_; refine gQ ?_; refine gB ?_; refine gV ?_; refine gM ?_; apply gw_d; exact w_index rfl rfl rfl rfl (by with_reducible exact rfl) (by omega); apply gw_d; exact w_load_elem rfl rfl rfl (by assumption) (by assumption) (by rfl); refine w_alloc rfl (fun _ => ?_); refine gM ?_; refine w_store_all rfl rfl rfl rfl rfl .here rfl ?_; refine gO ?_; refine gQ ?_; refine gV ?_; (iterate 2 refine gM ?_); apply gw_d; exact w_index rfl rfl rfl rfl (by with_reducible exact rfl) (by omega); apply gw_d; exact w_load_row rfl rfl rfl (.there (.there (.there (.there .here)))) hgo; refine gC rfl rfl rfl rfl rfl ?_; refine gO ?_)
    rename_i bx
    refine gc_if_dec rfl (fun h5 => ?_) (fun h5 => ?_)
    · have hN : nextP l ws (ticks bs) ps x = ps := by unfold nextP; rw [if_neg h5]
      rw [hN] at hpsn
      focus (refine gI ?_; refine gZ ?_; refine gJ ?_; refine gX ?_; refine gG ?_; refine gA rfl rfl rfl rfl rfl (by omega) ?_; refine gM ?_; refine gw_nil ?_)
      refine gx_round (i + 1, A) hil (by dsimp only; omega) (by repeat (first | exact Keeps.refl | refine Keeps.upd rfl ?_ | refine Keeps.sets rfl ?_ | refine Keeps.havoc rfl ?_)) ⟨rfl, trivial⟩ ?_
      dsimp only
      rw [hpsn]
      exact Sub.tail
    have h1x : outE l ws (ticks bs) ps x = 1 := by simpa using h5
    have hN : nextP l ws (ticks bs) ps x = ps ++ [x] := by unfold nextP; rw [if_pos h1x]
    rw [hN] at hpsn
    obtain ⟨hT, hkn⟩ := out_one h1x
    obtain ⟨o, ho⟩ : ∃ o : Nat, x.op = (o : Int) := ⟨x.op.toNat, by omega⟩
    obtain ⟨m, hmw⟩ : ∃ m : Nat, x.who = (m : Int) := ⟨x.who.toNat, by omega⟩
    have hol2 : o < l.length := by omega
    have hml : m < ws.length := by omega
    obtain ⟨j, hj, hjt⟩ := tk_has hT
    have hjb : j < bs.length := by omega
    have hget := mapV_old (f := cntV bs) hOk.tix bs.length (by omega) j hjb
    rw [hjt, cntV_at hjb] at hget
    rw [ticks_at hjb] at hjt
    have hcnt : cntAt bs x.tick = bs[j].upto - bs[j].fr := by rw [← hjt]; exact cnt_at hOk.tix hjb
    rw [← hcnt] at hget
    have hpl := hOk.plies j hjb
    obtain ⟨ad3, _, hv, _, _, hb3, hocell⟩ := hl.at' 5 rfl (by omega)
    injection hv with e1 e2 e3
    subst e1 e3
    obtain ⟨cs, hce, Aa, ca, Au, cu, rfl, hnm, q1, q2⟩ := hocell o hol2
    have hce2 := hce 2 _ rfl
    have hmin : minAt l x.op = l[o].minutes := by
      unfold minAt
      rw [ho, Int.toNat_natCast, List.getElem?_eq_getElem hol2]
      rfl
    have hM := hMin o hol2
    have hamE : amtE r le l[o].minutes (cntAt bs x.tick) = 0 := by
      unfold amtE
      rw [if_neg (by rw [h1]; decide), if_neg (by omega)]
    have hamV : amtV r le l[o].minutes (cntAt bs x.tick) = amtOf r le l bs x := by unfold amtOf; rw [hmin]
    have hAm : ∀ (L : List Res) (w' : World), St w L w' → Ok Tryz.prog 11 [.agg #[.int .i64 r, .int .i64 le], .int .i64 l[o].minutes, .int .i64 (cntAt bs x.tick)].toArray w' fun y _ => y = .tuple #[.int .i64 (amtOf r le l bs x), .int .i64 0] := fun L w' s => by
      have := wAmount_ok w' r le l[o].minutes (cntAt bs x.tick) (hL.later s)
      rw [hamE, hamV] at this
      exact this
    focus (refine gK ?_; refine gX ?_; refine gQ ?_)
    refine gc_draw2 17 (by kernel_rfl) (by kernel_rfl) ?_
    focus (apply gd_d; exact w_load_boxN rfl rfl rfl (.there (.there (.there (.there (.there .here))))) rfl; apply gd_d; exact w_field rfl rfl rfl; apply gd_d; exact w_load_box rfl rfl rfl (.there (.there (.there (.there (.there (.there .here)))))) rfl; apply gd_d; exact w_field rfl rfl rfl; apply gd_d; exact w_load_box rfl rfl rfl .here rfl; apply gd_d; exact w_index (m := o) rfl rfl rfl rfl ho hol2; apply gd_d; exact w_field rfl rfl rfl; apply gd_d; exact w_load_fld rfl rfl rfl (by assumption) (by assumption); refine dM ?_; apply gd_d; exact w_field rfl rfl rfl; apply gd_d; exact w_load_box rfl rfl rfl .here rfl; apply gd_d; exact det_eq (c' := .int .i64 (cntAt bs x.tick)) (w_lookup (k := x.tick) intLawC rfl rfl rfl rfl (.there (.there (.there .here)))) (by rw [hget]; rfl); apply gd_d; exact w_call rfl rfl (hAm _) rfl; refine dM ?_; apply gd_d; exact det_extract rfl rfl rfl (by conv => (lhs; whnf)); apply gd_d; exact det_extract rfl rfl rfl (by conv => (lhs; whnf)); refine dM ?_; refine gd_nil ?_; refine gM ?_; refine gO ?_; refine gQ ?_; refine gV ?_; refine gM ?_; refine gC rfl rfl rfl rfl rfl ?_; refine gO ?_)
    refine gc_if_dec rfl (fun h => absurd rfl h) (fun _ => ?_)
    focus (refine gK ?_; refine gX ?_)
    have hFs : ∀ q, amts r le l bs (ps ++ [x]) q = if q = m then amts r le l bs ps m ++ [amtOf r le l bs x] else amts r le l bs ps q := fun q => by
      rw [amts_snoc, hmw]
      by_cases hq : q = m
      · subst hq; simp
      · have : ¬ (m : Int) = (q : Int) := by omega
        simp [hq, this]
    have hlenF : (amts r le l bs ps m).length ≤ 300 := by have := amts_len r le l bs ps m; omega
    generalize hF : amts r le l bs ps = F at *
    generalize amtOf r le l bs x = v at *
    refine gc_ent (Ent.trans (Sub.ent (K := [Coll ws.length (rowR 94 A F), Box bx 51 #[.int .i64 x.tick, .int .i64 x.op, .int .i64 x.who, .int .i64 x.time], Box ga 93 (rowC ws.length A F).toArray, MapR bm kInt (mapV (ticks bs) (cntV bs) bs.length), Box g 3 (os.map (Value.int .i64)).toArray, Box bt 36 #[.int .i64 r, .int .i64 le], Box bv 29 #[v0, v1, v2, v3, v4, v5, .slice (some ad3) l.length cl]]) (.cons (.there .here) (.cons .here (.cons .here (.cons .here (.cons .here (.cons .here (.cons .here .nil)))))))) (coll_take hml)) ?_
    generalize hLr : [Coll ws.length (setR (rowR 94 A F) m Emp), Box bx 51 #[.int .i64 x.tick, .int .i64 x.op, .int .i64 x.who, .int .i64 x.time], Box ga 93 (rowC ws.length A F).toArray, MapR bm kInt (mapV (ticks bs) (cntV bs) bs.length), Box g 3 (os.map (Value.int .i64)).toArray, Box bt 36 #[.int .i64 r, .int .i64 le], Box bv 29 #[v0, v1, v2, v3, v4, v5, .slice (some ad3) l.length cl]] = Lr
    obtain ⟨Lx, hpx⟩ : ∃ Lx, Pick Lr (Box bx 51 #[.int .i64 x.tick, .int .i64 x.op, .int .i64 x.who, .int .i64 x.time]) Lx := by rw [← hLr]; exact ⟨_, .there .here⟩
    obtain ⟨Lg, hpg⟩ : ∃ Lg, Pick Lr (Box ga 93 (rowC ws.length A F).toArray) Lg := by rw [← hLr]; exact ⟨_, .there (.there .here)⟩
    refine gc_blockJ (P := Tryz.prog) (Nat × Option Addr × Nat) 11 (fun i => ([[], [], [1], [], [], [4], [3, 4, 5], [3, 4, 5, 6], [], [8], [3, 4, 5, 6, 7, 8, 9]] : List (List Nat)).getD i []) (fun i γ => match i with
      | 0 => .slice (some ⟨ga, 0, none⟩) ws.length ws.length
      | 1 => .pointer (some ((⟨bx, 0, none⟩ : Addr).add 2))
      | 2 => .int .i64 x.who
      | 3 => .slice (some ⟨ga, 0, none⟩) ws.length ws.length
      | 4 => .pointer (some ((⟨bx, 0, none⟩ : Addr).add 2))
      | 5 => .int .i64 x.who
      | 6 => .pointer (some ((⟨ga, 0, none⟩ : Addr).add (m * 1)))
      | 7 => .slice (A m).1 (F m).length (A m).2
      | 8 => .int .i64 v
      | 9 => .slice (some ⟨(γ 9).1, 0, none⟩) 1 1
      | 10 => .slice (γ 10).2.1 ((F m).length + 1) (γ 10).2.2
      | _ => undef) (fun ls β w' => St w ((if ls 10 = true then Own (β 10).2.1 ((F m).length + 1) (β 10).2.2 94 1 ((F m).map (Value.int .i64) ++ [.int .i64 v]) else rowR 94 A F m) :: ((if ls 9 = true then [Box (β 9).1 94 #[.int .i64 v]] else []) ++ Lr)) w') rfl (by kernel_rfl) (fun w' s => s) ?_ ?_
    · intro i o ls β w' hi hik hls hpl hJ
      have hS0 : St w Lr w' := by
        have := hJ.drop
        exact this.sublist (List.sublist_append_right _ _)
      obtain rfl | rfl | rfl | rfl | rfl | rfl | rfl | rfl | rfl | rfl | rfl : i = 0 ∨ i = 1 ∨ i = 2 ∨ i = 3 ∨ i = 4 ∨ i = 5 ∨ i = 6 ∨ i = 7 ∨ i = 8 ∨ i = 9 ∨ i = 10 := by omega
      · cases hi
        exact detG (det_m (v := .slice (some ⟨ga, 0, none⟩) ws.length ws.length) rfl rfl rfl) rfl hS0 (fun w2 hx => ⟨default, rfl, St.ext hJ hx⟩)
      · cases hi
        exact detG (w_field rfl rfl rfl) rfl hS0 (fun w2 hx => ⟨default, rfl, St.ext hJ hx⟩)
      · cases hi
        exact detG (w_load_box rfl rfl rfl hpx rfl) rfl hS0 (fun w2 hx => ⟨default, rfl, St.ext hJ hx⟩)
      · cases hi
        exact detG (det_m (v := .slice (some ⟨ga, 0, none⟩) ws.length ws.length) rfl rfl rfl) rfl hS0 (fun w2 hx => ⟨default, rfl, St.ext hJ hx⟩)
      · cases hi
        exact detG (w_field rfl rfl rfl) rfl hS0 (fun w2 hx => ⟨default, rfl, St.ext hJ hx⟩)
      · cases hi
        exact detG (w_load_box rfl rfl rfl hpx rfl) rfl hS0 (fun w2 hx => ⟨default, rfl, St.ext hJ hx⟩)
      · cases hi
        exact detG (w_index (m := m) rfl rfl rfl rfl hmw hml) rfl hS0 (fun w2 hx => ⟨default, rfl, St.ext hJ hx⟩)
      · cases hi
        exact detG (w_load_row rfl rfl rfl hpg (rowC_get A F hml)) rfl hS0 (fun w2 hx => ⟨default, rfl, St.ext hJ hx⟩)
      · cases hi
        exact detG (det_m (v := .int .i64 v) rfl rfl rfl) rfl hS0 (fun w2 hx => ⟨default, rfl, St.ext hJ hx⟩)
      · cases hi
        rw [hls] at hJ
        refine ⟨rfl, (stepG_bslice1 (v := .int .i64 v) rfl rfl rfl rfl hJ).mono fun u w2 hu => ?_⟩
        obtain ⟨b, hu, s2⟩ := hu
        exact ⟨(b, none, 0), hu, St.sub (.cons (.there .here) (.cons .here (Sub.all _))) s2⟩
      · cases hi
        have h9 : ls 9 = true := hpl 9 (by decide)
        rw [hls, h9] at hJ
        refine ⟨rfl, (stepG_append (sz := 1) (z := .int .i64 0) (n := (F m).length) (m := 1) (xs := (F m).map (Value.int .i64)) (news := [.int .i64 v]) rfl rfl .here rfl (fun w3 s3 _ => ?_) (fun u hu => ?_) (by unfold maxLen; omega) (by omega) (by decide) rfl hJ).mono fun u w2 hu => ?_⟩
        · refine ⟨⟨(β 9).1, 0, none⟩, rfl, fun i u hu => ?_⟩
          rw [add_zero]
          refine (Box.cell s3.drop.head i).trans ?_
          change (#[Value.int .i64 v] : Array Value)[i]? = some u
          rw [List.getElem?_toArray]
          exact hu
        · rw [List.mem_singleton] at hu
          subst hu
          rfl
        · obtain ⟨A', c', hu, s2⟩ := hu
          refine ⟨(0, A', c'), hu, ?_⟩
          show St w (Own A' ((F m).length + 1) c' 94 1 ((F m).map (Value.int .i64) ++ [.int .i64 v]) :: ((if ls 9 = true then [Box (β 9).1 94 #[.int .i64 v]] else []) ++ Lr)) w2
          rw [h9]
          exact s2
    · intro ls β w' hall hJ
      rw [hall 9 (by decide), hall 10 (by decide)] at hJ
      subst hLr
      have hF' : amts r le l bs (ps ++ [x]) m = F m ++ [v] := by rw [hFs, if_pos rfl]
      have hFo : ∀ q, ¬ q = m → amts r le l bs (ps ++ [x]) q = F q := fun q hq => by rw [hFs, if_neg hq]
      have hlen' : (amts r le l bs (ps ++ [x]) m).length = (F m).length + 1 := by rw [hF']; simp
      have hJ2 : St w (Own (β 10).2.1 ((F m).length + 1) (β 10).2.2 94 1 ((F m).map (Value.int .i64) ++ [.int .i64 v]) :: Box (β 9).1 94 #[.int .i64 v] :: [Coll ws.length (setR (rowR 94 A F) m Emp), Box bx 51 #[.int .i64 x.tick, .int .i64 x.op, .int .i64 x.who, .int .i64 x.time], Box ga 93 (rowC ws.length A F).toArray, MapR bm kInt (mapV (ticks bs) (cntV bs) bs.length), Box g 3 (os.map (Value.int .i64)).toArray, Box bt 36 #[.int .i64 r, .int .i64 le], Box bv 29 #[v0, v1, v2, v3, v4, v5, .slice (some ad3) l.length cl]]) w' := hJ
      refine GW.h (P := Tryz.prog) ?_ w' hJ2
      have hrl := rowC_len ws.length A F
      refine gw_d (w_index (m := m) rfl rfl rfl rfl hmw hml) ?_
      refine w_store_row (n := 1) (v := .slice (β 10).2.1 ((F m).length + 1) (β 10).2.2) (cs' := (rowC ws.length (setA A m (β 10).2) (amts r le l bs (ps ++ [x]))).toArray) rfl rfl rfl rfl rfl (.there (.there (.there (.there .here)))) (by simp; omega) (by
        rw [Nat.mul_one, set_row (by simp; omega) rfl]
        have := rowC_set (n := ws.length) (A := A) (F := F) (F' := amts r le l bs (ps ++ [x])) hml (a := (β 10).2) hFo
        rw [hlen'] at this
        rw [← this]) ?_
      focus (refine gw_nil ?_; refine gH ?_; refine gX ?_; refine gG ?_; refine gA rfl rfl rfl rfl rfl (by omega) ?_; refine gM ?_; refine gw_nil ?_)
      refine gx_roundE (i + 1, setA A m (β 10).2) hil (by dsimp only; omega) (by repeat (first | exact Keeps.refl | refine Keeps.upd rfl ?_ | refine Keeps.sets rfl ?_ | refine Keeps.havoc rfl ?_)) ⟨rfl, trivial⟩ ?_
      dsimp only
      rw [hpsn]
      refine Ent.trans (Sub.ent (K := [Own (β 10).2.1 ((F m).length + 1) (β 10).2.2 94 1 ((F m).map (Value.int .i64) ++ [.int .i64 v]), Coll ws.length (setR (rowR 94 A F) m Emp), Box ga 93 (rowC ws.length (setA A m (β 10).2) (amts r le l bs (ps ++ [x]))).toArray, MapR bm kInt (mapV (ticks bs) (cntV bs) bs.length), Box g 3 (os.map (Value.int .i64)).toArray, Box bt 36 #[.int .i64 r, .int .i64 le], Box bv 29 #[v0, v1, v2, v3, v4, v5, .slice (some ad3) l.length cl]]) (.cons (.there .here) (.cons (.there (.there .here)) (.cons .here (.cons (.there (.there .here)) (.cons (.there (.there .here)) (.cons (.there (.there .here)) (.cons (.there (.there .here)) .nil)))))))) ?_
      have hp := row_put (n := ws.length) (el := 94) (A := A) (F := F) (F' := amts r le l bs (ps ++ [x])) (a := (β 10).2) (L := [Box ga 93 (rowC ws.length (setA A m (β 10).2) (amts r le l bs (ps ++ [x]))).toArray, MapR bm kInt (mapV (ticks bs) (cntV bs) bs.length), Box g 3 (os.map (Value.int .i64)).toArray, Box bt 36 #[.int .i64 r, .int .i64 le], Box bv 29 #[v0, v1, v2, v3, v4, v5, .slice (some ad3) l.length cl]]) hml hFo
      rw [hF', List.map_append, List.length_append] at hp
      exact hp
  obtain rfl : i = xs.length := by omega
  rw [List.take_length]
  have hpl := paidL_len l ws (ticks bs) xs
  have hFr : ∀ m, ∀ y ∈ amts r le l bs (paidL l ws (ticks bs) xs) m, 0 ≤ y ∧ y ≤ 1000000000 := fun m => amts_range
  have hFl : ∀ m, (amts r le l bs (paidL l ws (ticks bs) xs) m).length ≤ 300 := fun m => by have := amts_len r le l bs (paidL l ws (ticks bs) xs) m; omega
  have hPL : paysL r le l bs ws xs = payP le (amts r le l bs (paidL l ws (ticks bs) xs)) ws.length := rfl
  rw [hPL]
  generalize amts r le l bs (paidL l ws (ticks bs) xs) = F at *
  focus (refine gI ?_; (iterate 2 refine gZ ?_); refine gJ ?_; refine gX ?_; refine gV ?_; refine gM ?_; refine gO ?_; refine gQ ?_; refine gV ?_; refine gM ?_; refine gL rfl rfl rfl ?_; refine gM ?_; refine gO ?_; refine gB ?_)
  refine gc_own0 90 3 ?_
  refine gc_loop (σ := Nat × Option Addr × Nat) [109, 110, 111, 112, 24, 25, 113, 114, 115, 116, 117, 26, 118, 119, 120, 121, 122, 123, 124, 125, 126, 127, 128, 23, 129, 108] (fun s => [(108, .int .i64 s.1), (23, .slice s.2.1 (payP le F s.1).length s.2.2)]) (fun s => [Own s.2.1 (payP le F s.1).length s.2.2 90 3 ((payP le F s.1).flatMap encP), Coll ws.length (rowR 94 A F), Box ga 93 (rowC ws.length A F).toArray, Box bt 36 #[.int .i64 r, .int .i64 le]]) (fun s => s.1 ≤ ws.length) (fun s => ws.length - s.1) (0, none, 0) (Nat.zero_le _) ⟨rfl, rfl, trivial⟩ (.cons .here (.cons .here (.cons .here (.cons (.there (.there .here)) .nil)))) ?_
  rintro ⟨k, P, c⟩ base3 hk3
  dsimp only at hk3 ⊢
  have hsn := payP_snoc le F k
  have hpk := payP_len le F k
  focus (refine gV ?_; refine gC rfl rfl rfl rfl rfl ?_; refine gO ?_; refine gQ ?_)
  refine gc_if_dec rfl (fun h6 => ?_) (fun h6 => ?_)
  · have hkl : k < ws.length := by omega
    have hrg := rowC_get A F hkl
    have hsum := sumI_range (hFr k) (F k).length (Nat.le_refl _)
    rw [List.take_length] at hsum
    have hfl := hFl k
    focus (refine gK ?_; refine gX ?_; refine gQ ?_; refine gB ?_; refine gV ?_; refine gM ?_; apply gw_d; exact w_index rfl rfl rfl rfl (by with_reducible exact rfl) (by omega); apply gw_d; exact w_load_row rfl rfl rfl (.there (.there .here)) hrg; (iterate 2 refine gM ?_); refine gO ?_; refine gQ ?_; refine gV ?_; refine gM ?_; refine gL rfl rfl rfl ?_; refine gC rfl rfl rfl rfl rfl ?_; refine gO ?_)
    refine gc_if_dec rfl (fun h7 => ?_) (fun h7 => ?_)
    · have h0 : payOf le k (F k) = [] := by unfold payOf; rw [if_pos (by omega)]
      rw [h0, List.append_nil] at hsn
      focus (refine gI ?_; refine gZ ?_; refine gJ ?_; refine gX ?_; refine gG ?_; refine gA rfl rfl rfl rfl rfl (by omega) ?_; refine gM ?_; refine gw_nil ?_)
      refine gx_round (k + 1, P, c) hkl (by dsimp only; omega) (by repeat (first | exact Keeps.refl | refine Keeps.upd rfl ?_ | refine Keeps.sets rfl ?_ | refine Keeps.havoc rfl ?_)) ⟨rfl, by rw [hsn]; rfl, trivial⟩ ?_
      dsimp only
      rw [hsn]
      exact Sub.all _
    have h1p : payOf le k (F k) = [⟨k, sumI (F k), max (le - sumI (F k)) 0⟩] := by unfold payOf; rw [if_neg (by omega)]
    rw [h1p] at hsn
    focus (refine gK ?_; refine gX ?_; refine gV ?_; refine gM ?_; apply gw_d; exact w_call rfl rfl (fun w' s => total_ok w' _ (F k) (Sl.rowAt s (.there .here) hkl (fun y hy => by have := hFr k y hy; unfold inI64; omega)) (hFr k) hfl) rfl; refine gM ?_; refine gO ?_; refine gG ?_; (iterate 3 refine gM ?_); refine gF rfl rfl rfl ?_; refine gW rfl rfl rfl (.there (.there (.there .here))) rfl ?_; refine gM ?_; refine gA rfl rfl rfl rfl rfl (by omega) ?_; apply gw_d; exact w_max rfl rfl rfl rfl; apply gw_d; exact w_buildP [(0, .int .i64 (k : Int)), (1, .int .i64 (sumI (F k))), (2, .int .i64 (max (le - sumI (F k)) 0))] (cells := #[.int .i64 (k : Int), .int .i64 (sumI (F k)), .int .i64 (max (le - sumI (F k)) 0)]) (by rfl) rfl rfl rfl)
    refine gw_bslice1 (v := .agg #[.int .i64 (k : Int), .int .i64 (sumI (F k)), .int .i64 (max (le - sumI (F k)) 0)]) rfl rfl rfl rfl rfl (fun bb => ?_)
    refine gw_append (news := [.int .i64 (k : Int), .int .i64 (sumI (F k)), .int .i64 (max (le - sumI (F k)) 0)]) rfl rfl rfl (.there .here) rfl (fun w' s _ => ?_) (fun u hu => ?_) (by unfold maxLen; omega) (by omega) (by decide) rfl (fun A3 c3 => ?_)
    · refine ⟨⟨bb, 0, none⟩, rfl, fun i u hu => ?_⟩
      rw [add_zero]
      refine (Box.cell s.head i).trans ?_
      change (#[Value.int .i64 (k : Int), .int .i64 (sumI (F k)), .int .i64 (max (le - sumI (F k)) 0)] : Array Value)[i]? = some u
      rw [List.getElem?_toArray]
      exact hu
    · simp only [List.mem_cons, List.not_mem_nil, or_false] at hu
      rcases hu with rfl | rfl | rfl <;> rfl
    · focus (refine gM ?_; refine gw_nil ?_; refine gH ?_; refine gX ?_; refine gG ?_; refine gA rfl rfl rfl rfl rfl (by omega) ?_; refine gM ?_; refine gw_nil ?_)
      refine gx_round (k + 1, A3, c3) hkl (by dsimp only; omega) (by repeat (first | exact Keeps.refl | refine Keeps.upd rfl ?_ | refine Keeps.sets rfl ?_ | refine Keeps.havoc rfl ?_)) ⟨rfl, by rw [hsn, List.length_append]; rfl, trivial⟩ ?_
      dsimp only
      rw [hsn, List.length_append, List.flatMap_append]
      exact .cons .here (.cons (.there .here) (.cons (.there .here) (.cons (.there .here) .nil)))
  · obtain rfl : k = ws.length := by omega
    focus (refine gI ?_; (iterate 2 refine gZ ?_); refine gJ ?_; refine gX ?_; refine gV ?_; (iterate 3 refine gM ?_); refine gO ?_; refine gR ?_)
    exact gx_ret2 (u := .slice _ _ _) (v := .int _ _) rfl rfl rfl (fun w' s => ⟨(P, c), rfl, (St.sub (K := [Own P (payP le F ws.length).length c 90 3 ((payP le F ws.length).flatMap encP)]) (.cons .here .nil) s).sep⟩)
end
def shE (a p : Int) : Int := if moneyB a = false ∨ p < 1 ∨ p > 40 then 3 else 0
def shF (a : Int) (n i : Nat) : Int := if (i : Int) < a % n then a / n + 1 else a / n
def shL (a : Int) (n : Nat) : List Int := (List.range n).map (shF a n)
def shP (a : Int) (n k : Nat) : List Int := (List.range n).map fun i => if i < k then shF a n i else 0
theorem shP_len (a : Int) (n k : Nat) : (shP a n k).length = n := by simp [shP]
theorem shP_zero (a : Int) (n : Nat) : shP a n 0 = List.replicate n 0 := by
  apply List.ext_getElem <;> simp [shP]
theorem shP_full (a : Int) (n : Nat) : shP a n n = shL a n := by
  apply List.ext_getElem
  · simp [shP, shL]
  · intro i h1 h2
    simp only [shP, List.length_map, List.length_range] at h1
    simp [shP, shL, h1]
theorem shP_set (a : Int) {n k : Nat} (_hk : k < n) (v : Int) : (shP a n k).set k v = (List.range n).map fun i => if i < k then shF a n i else if i = k then v else 0 := by
  apply List.ext_getElem
  · simp [shP]
  · intro i h1 h2
    simp only [shP, List.length_set, List.length_map, List.length_range] at h1
    simp only [shP, List.getElem_set, List.getElem_map, List.getElem_range]
    by_cases h : k = i
    · subst h; simp
    · have : ¬ i = k := fun h' => h h'.symm
      simp [h, this]
theorem shP_next (a : Int) {n k : Nat} (hk : k < n) : (shP a n k).set k (shF a n k) = shP a n (k + 1) := by
  rw [shP_set a hk]
  unfold shP
  apply List.map_congr_left
  intro i _
  by_cases h1 : i < k
  · rw [if_pos h1, if_pos (by omega)]
  · by_cases h2 : i = k
    · subst h2; rw [if_neg h1, if_pos rfl, if_pos (by omega)]
    · rw [if_neg h1, if_neg h2, if_neg (by omega)]
theorem sh_zero {a p : Int} (h : shE a p = 0) : (0 ≤ a ∧ a ≤ 1099511627776) ∧ 1 ≤ p ∧ p ≤ 40 := by
  unfold shE at h
  split at h
  · cases h
  · rename_i h1
    refine ⟨money_iff.1 ?_, by omega⟩
    cases h2 : moneyB a with
    | true => rfl
    | false => exact absurd (.inl h2) h1
theorem shF_range {a : Int} {n i : Nat} (h0 : 0 ≤ a) (h1 : a ≤ 1099511627776) : 0 ≤ shF a n i ∧ shF a n i ≤ 1099511627777 := by
  have h2 : 0 ≤ a / (n : Int) := Int.ediv_nonneg h0 (by omega)
  have h3 : a / (n : Int) ≤ a := Int.ediv_le_self _ h0
  unfold shF
  split <;> omega
theorem wShare_good (w : World) (a : Int) (n : Nat) (he : shE a n = 0) : OkM Tryz.prog 30 [.int .i64 a, .int .i64 (n : Int)].toArray w (fun b : Nat => .tuple #[.slice (some ⟨b, 0, none⟩) n n, .int .i64 0]) (fun b => [Box b 3 ((shL a n).map (Value.int .i64)).toArray]) := by
  obtain ⟨ha, hn1, hn2⟩ := sh_zero he
  have hmb : moneyB a = true := money_iff.2 ha
  have c1 : ∀ (L : List Res) (w' : World), St w L w' → Ok Tryz.prog 44 [.int .i64 a].toArray w' fun x _ => x = .bool true := fun _ w' _ => by have := inRange_ok w' a; rw [hmb] at this; exact this
  unfold OkM
  refine ok_enter Tryz.func30 rfl Tryz.ntmps30 rfl ?_
  focus (refine gV ?_; (iterate 2 refine gM ?_); refine gO ?_; refine gQ ?_; refine gV ?_; refine gM ?_; apply gw_d; exact w_call rfl rfl (c1 _) rfl; apply gw_d; exact det_not_ rfl rfl rfl; (iterate 2 refine gM ?_); refine gC rfl rfl rfl rfl rfl ?_; refine gPf rfl rfl rfl rfl ?_; refine gM ?_; refine gw_guard_dec rfl rfl (fun _ => ?_) (fun _ => ?_); (iterate 2 refine gU ?_); refine gPt rfl rfl rfl rfl ?_; refine gO ?_; refine gc_if_true rfl ?_; refine gV ?_; (iterate 2 refine gM ?_); refine gO ?_; refine gR ?_; refine gT ?_; rotate_left; refine gM ?_; refine gC rfl rfl rfl rfl rfl ?_; refine gPf rfl rfl rfl rfl ?_; refine gO ?_; refine gc_if_dec rfl (fun _ => ?_) (fun _ => ?_); refine gV ?_; (iterate 2 refine gM ?_); refine gO ?_; refine gR ?_; refine gT ?_; rotate_left; refine gK ?_; refine gX ?_; refine gV ?_; refine gM ?_; rotate_left)
  all_goals first | (exfalso; omega) | skip
  refine gw_make1 (n := n) rfl rfl rfl rfl rfl (by omega) (by omega) rfl (fun b => ?_)
  rw [show Array.replicate n ((Value.int .i64 0).cells.getD 0 undef) = ((shP a n 0).map (Value.int .i64)).toArray from by rw [shP_zero]; exact row_make (Value.int .i64) n 0]
  focus (refine gM ?_; refine gO ?_; refine gQ ?_; refine gV ?_; refine gM ?_; refine gL rfl rfl rfl ?_; refine gM ?_; refine gO ?_; refine gB ?_)
  refine gc_loop (σ := Nat) [24, 25, 7, 26, 27, 28, 29, 30, 31, 32, 33, 34, 35, 36, 37, 38, 39, 40, 41, 42, 43, 23] (fun k => [(23, .int .i64 k)]) (fun k => [Box b 3 ((shP a n k).map (Value.int .i64)).toArray]) (fun k => k ≤ n) (fun k => n - k) 0 (Nat.zero_le _) ⟨rfl, trivial⟩ (.cons .here .nil) ?_
  rintro k base hk
  have hpl := shP_len a n k
  focus (refine gV ?_; refine gC rfl rfl rfl rfl rfl ?_; refine gO ?_; refine gQ ?_)
  refine gc_if_dec rfl (fun h => ?_) (fun h => ?_)
  · have hlt : k < n := by omega
    focus (refine gK ?_; refine gX ?_; refine gQ ?_; refine gB ?_; refine gV ?_; (iterate 2 refine gM ?_); refine gN ?_; (iterate 4 refine gM ?_); apply gw_d; exact det_quo rfl rfl rfl rfl (by omega) (by omega) (by omega); apply gw_d; exact w_index rfl rfl rfl rfl (by with_reducible exact rfl) (by omega))
    refine w_store_row (n := 1) (v := .int .i64 (a / (n : Int))) rfl rfl rfl rfl rfl .here (by simp; omega) (row_set (Value.int .i64) (by omega) _) ?_
    have hg : ((((shP a n k).set k (a / (n : Int))).map (Value.int .i64)).toArray)[k * 1]? = some (.int .i64 (((shP a n k).set k (a / (n : Int))).getD k 0)) := row_get (Value.int .i64) 0 (by simp; omega)
    have hg2 : ((shP a n k).set k (a / (n : Int))).getD k 0 = a / (n : Int) := by simp [hpl, hlt]
    rw [hg2] at hg
    have hr := shF_range (n := n) (i := k) ha.1 ha.2
    have hq : a / (n : Int) ≤ a := Int.ediv_le_self _ ha.1
    have hq0 : 0 ≤ a / (n : Int) := Int.ediv_nonneg ha.1 (by omega)
    focus (refine gN ?_; (iterate 3 refine gM ?_); apply gw_d; exact det_rem rfl rfl rfl rfl (by omega) (by omega); refine gC rfl rfl rfl rfl rfl ?_; refine gO ?_)
    refine gc_if_dec rfl (fun h2 => ?_) (fun h2 => ?_)
    · focus (refine gG ?_; (iterate 2 refine gM ?_); apply gw_d; exact w_index rfl rfl rfl rfl (by with_reducible exact rfl) (by omega); apply gw_d; exact w_load_row rfl rfl rfl .here hg; refine gA rfl rfl rfl rfl rfl (by omega) ?_; apply gw_d; exact w_index rfl rfl rfl rfl (by with_reducible exact rfl) (by omega))
      refine w_store_row (n := 1) (v := .int .i64 (a / (n : Int) + 1)) rfl rfl rfl rfl rfl .here (by simp; omega) (row_set (Value.int .i64) (by simp; omega) _) ?_
      focus (refine gw_nil ?_; refine gH ?_; refine gX ?_; refine gG ?_; refine gA rfl rfl rfl rfl rfl (by omega) ?_; refine gM ?_; refine gw_nil ?_)
      refine gx_round (k + 1) hlt (by omega) (by repeat (first | exact Keeps.refl | refine Keeps.upd rfl ?_ | refine Keeps.sets rfl ?_ | refine Keeps.havoc rfl ?_)) ⟨rfl, trivial⟩ ?_
      have e : (((shP a n k).set k (a / (n : Int))).set k (a / (n : Int) + 1)) = shP a n (k + 1) := by
        rw [List.set_set, ← shP_next a hlt]
        unfold shF
        rw [if_pos h2]
      rw [e]
      exact .cons .here .nil
    · focus (refine gK ?_; refine gH ?_; refine gX ?_; refine gG ?_; refine gA rfl rfl rfl rfl rfl (by omega) ?_; refine gM ?_; refine gw_nil ?_)
      refine gx_round (k + 1) hlt (by omega) (by repeat (first | exact Keeps.refl | refine Keeps.upd rfl ?_ | refine Keeps.sets rfl ?_ | refine Keeps.havoc rfl ?_)) ⟨rfl, trivial⟩ ?_
      have e : ((shP a n k).set k (a / (n : Int))) = shP a n (k + 1) := by
        rw [← shP_next a hlt]
        unfold shF
        rw [if_neg h2]
      rw [e]
      exact .cons .here .nil
  · obtain rfl : k = n := by omega
    rw [shP_full]
    focus (refine gI ?_; (iterate 2 refine gZ ?_); refine gJ ?_; refine gX ?_; refine gV ?_; (iterate 3 refine gM ?_); refine gO ?_; refine gR ?_)
    exact gx_ret2 (u := .slice _ _ _) (v := .int _ _) rfl rfl rfl (fun w' s => ⟨b, rfl, s.sep⟩)
def useE (s : Sty) (k : Nat) : Int := match s.uses[k]? with
  | some u => if u.1 < 0 ∨ u.1 ≥ s.pieces.length ∨ u.2.1 < 1 ∨ u.2.1 > 4 then 3 else 0
  | none => 0
def seamE (s : Sty) (k : Nat) : Int := match s.seams[k]? with
  | some u => if isEdgeB s u.1 u.2.1 = true ∧ isEdgeB s u.2.2.1 u.2.2.2.1 = true then if u.2.2.2.2.2 < 0 then 1 else 0 else 3
  | none => 0
def pieceAt (s : Sty) (pl : Pc → Int) (k : Nat) : Int := match s.pieces[k]? with
  | some p => pieceE (s.pieces.take k) p (pl p)
  | none => 0
def styleE (s : Sty) (pl : Pc → Int) : Int := if ¬ wholeE s = 0 then wholeE s else if ¬ firstE (pieceAt s pl) s.pieces.length = 0 then firstE (pieceAt s pl) s.pieces.length else
  if ¬ firstE (useE s) s.uses.length = 0 then firstE (useE s) s.uses.length else firstE (seamE s) s.seams.length
def plE (p : Pc) : Int := placedE p.edges p.corners p.notches
def pl0 (p : Pc) : Int := gradedE p.edges p.corners
theorem plE_none {p : Pc} (h : p.notches = []) : plE p = pl0 p := by
  unfold plE pl0 placedE
  rw [h]
  by_cases h0 : gradedE p.edges p.corners = 0
  · rw [h0]; rfl
  · rw [if_pos h0]
theorem styleE_none {s : Sty} (hno : ∀ p ∈ s.pieces, p.notches = []) : styleE s plE = styleE s pl0 := by
  have : pieceAt s plE = pieceAt s pl0 := by
    funext k
    unfold pieceAt
    cases h : s.pieces[k]? with
    | none => rfl
    | some p => dsimp only; rw [plE_none (hno p (List.mem_of_getElem? h))]
  unfold styleE
  rw [this]

theorem style_ok (w : World) (v : Value) (s : Sty) (hs : StyV w w.heap.size v s) : Ok Tryz.prog 72 [v].toArray w fun r _ => r = .int .i64 (styleE s plE) := by
  have hs' := hs
  obtain ⟨As, cs, Am, cm, Ap, cp, Au, cu, Ae, ce, Ao, co, rfl, hnm, h1, h2, h3, h4, h5, h6⟩ := hs
  obtain ⟨_, _, hv, hpc, hpm⟩ := len_small h3
  injection hv with e1 e2 e3
  subst e1 e3
  obtain ⟨_, _, hv, huc, hum⟩ := len_small h4
  injection hv with e1 e2 e3
  subst e1 e3
  obtain ⟨_, _, hv, hec, hem⟩ := len_small h5
  injection hv with e1 e2 e3
  subst e1 e3
  refine ok_enter Tryz.func72 rfl Tryz.ntmps72 rfl ?_
  focus (refine gV ?_; refine gw_boxd (v := .agg _) rfl rfl (fun _ => ?_); refine gM ?_; refine gO ?_; refine gQ ?_; refine gV ?_; apply gw_d; exact w_load_boxN rfl rfl rfl .here rfl; apply gw_d; exact w_call rfl rfl (fun w s => whole_ok w _ _ (hs'.later s)) rfl; refine gM ?_; refine gN ?_; refine gM ?_; refine gC rfl rfl rfl rfl rfl ?_; refine gO ?_)
  refine gc_if_dec rfl (fun h => ?_) (fun h => ?_)
  · focus (refine gV ?_; (iterate 2 refine gM ?_); refine gO ?_; refine gR ?_; refine gT ?_)
    refine gx_ret1 (v := .int _ _) rfl rfl (fun _ _ => ?_)
    unfold styleE
    rw [if_pos h]
  focus (refine gK ?_; refine gX ?_; refine gQ ?_; refine gV ?_; refine gF rfl rfl rfl ?_; refine gW rfl rfl rfl .here rfl ?_; refine gL rfl rfl rfl ?_; refine gM ?_; refine gO ?_; refine gB ?_)
  refine gc_loopK (σ := Nat) [20, 21, 22, 23, 5, 4, 24, 25, 26, 27, 28, 29, 6, 30, 31, 32, 2, 33, 19] (fun k => [(19, .int .i64 k)]) (fun k => k ≤ s.pieces.length ∧ firstE (pieceAt s plE) k = 0) (fun k => s.pieces.length - k) 0 ⟨Nat.zero_le _, rfl⟩ ⟨rfl, trivial⟩ ?_
  rintro k base ⟨hk, hI⟩
  focus (refine gV ?_; refine gC rfl rfl rfl rfl rfl ?_; refine gO ?_; refine gQ ?_)
  refine gc_if_dec rfl (fun h9 => ?_) (fun h9 => ?_)
  · have hlt : k < s.pieces.length := by omega
    obtain ⟨ad, _, hv, _, _, hb, hcell⟩ := h3.at' 7 rfl (by omega)
    injection hv with e1 e2 e3
    subst e1 e3
    obtain ⟨cs', hce, Ae', ce', An', cn', Ac', cc', Aw', cw', rfl, ⟨q1, _⟩, q2, q3, q4, q5⟩ := hcell k hlt
    unfold maxLen at q1
    have q2' : Sl rEdge w w.heap.size (.slice Ae' s.pieces[k].edges.length ce') s.pieces[k].edges := q2
    have q3' : Sl rSpot w w.heap.size (.slice An' s.pieces[k].notches.length cn') s.pieces[k].notches := q3
    have q4' : Sl rSpot w w.heap.size (.slice Ac' s.pieces[k].corners.length cc') s.pieces[k].corners := q4
    have q5' : Sl rInt w w.heap.size (.slice Aw' s.pieces[k].widths.length cw') s.pieces[k].widths := q5
    have q6' := h3.take (m := k) (by omega)
    focus (refine gK ?_; refine gX ?_; refine gQ ?_; refine gB ?_; refine gV ?_; refine gM ?_; apply gw_d; exact w_index rfl rfl rfl rfl (by with_reducible exact rfl) (by omega); apply gw_d; exact w_load_elem rfl rfl rfl (by assumption) (by assumption) (by rfl); refine w_alloc rfl (fun _ => ?_); refine gM ?_; refine w_store_all rfl rfl rfl rfl rfl .here rfl ?_; refine gO ?_; refine gQ ?_)
    refine gc_draw 6 (by kernel_rfl) (by kernel_rfl) ?_
    have hC : ∀ (L : List Res) (w' : World), St w L w' → Ok Tryz.prog 88 [.slice (some ad) k cp, .agg #[.string s.pieces[k].name, .slice Ae' s.pieces[k].edges.length ce', .int .i64 s.pieces[k].grain, .slice An' s.pieces[k].notches.length cn', .slice Ac' s.pieces[k].corners.length cc', .slice Aw' s.pieces[k].widths.length cw', .bool s.pieces[k].mt]].toArray w' fun r _ => r = .int .i64 (pieceE (s.pieces.take k) s.pieces[k] (plE s.pieces[k])) := fun L w s' => checkPiece_ok w (.slice (some ad) k cp) (s.pieces.take k) s.pieces[k] Ae' An' Ac' Aw' ce' cn' cc' cw' (q6'.later s') (q2'.later s') (q4'.later s') (q3'.later s') (q5'.later s') (by omega)
    focus (apply gd_d; exact w_field rfl rfl rfl; apply gd_d; exact w_load_box rfl rfl rfl (.there .here) rfl; refine dM ?_; apply gd_d; exact w_cut_hi rfl rfl rfl rfl (by with_reducible exact rfl) (by omega); apply gd_d; exact w_load_boxN rfl rfl rfl .here rfl; apply gd_d; exact w_call rfl rfl (hC _) rfl; refine gd_nil ?_; refine gM ?_; refine gN ?_; refine gM ?_; refine gC rfl rfl rfl rfl rfl ?_; refine gO ?_)
    have hat : pieceAt s plE k = pieceE (s.pieces.take k) s.pieces[k] (plE s.pieces[k]) := by unfold pieceAt; rw [List.getElem?_eq_getElem hlt]
    refine gc_if_dec rfl (fun h => ?_) (fun h => ?_)
    · focus (refine gV ?_; (iterate 2 refine gM ?_); refine gO ?_; refine gR ?_; refine gY ?_; (iterate 2 refine gT ?_); refine gY ?_; refine gT ?_)
      refine gx_ret1 (v := .int _ _) rfl rfl (fun _ _ => ?_)
      rw [← hat] at h ⊢
      unfold styleE
      rw [if_neg ‹_›, firstE_stop hI h hlt, if_pos h]
    · focus (refine gK ?_; refine gH ?_; refine gX ?_; refine gG ?_; refine gA rfl rfl rfl rfl rfl (by omega) ?_; refine gM ?_; refine gw_nil ?_)
      exact gx_round (k + 1) ⟨by omega, firstE_snoc hI (by rw [hat]; simpa using h)⟩ (by omega) (by repeat (first | exact Keeps.refl | refine Keeps.upd rfl ?_ | refine Keeps.sets rfl ?_ | refine Keeps.havoc rfl ?_)) ⟨rfl, trivial⟩ Sub.tail
  obtain rfl : k = s.pieces.length := by omega
  focus (refine gI ?_; (iterate 2 refine gZ ?_); refine gJ ?_; refine gX ?_; refine gQ ?_; refine gV ?_; refine gF rfl rfl rfl ?_; refine gW rfl rfl rfl .here rfl ?_; refine gL rfl rfl rfl ?_; refine gM ?_; refine gO ?_; refine gB ?_)
  refine gc_loopK (σ := Nat) [38, 39, 40, 8, 41, 42, 43, 44, 45, 46, 47, 48, 49, 50, 51, 52, 53, 54, 55, 56, 57, 58, 59, 60, 61, 2, 62, 37] (fun k => [(37, .int .i64 k)]) (fun k => k ≤ s.uses.length ∧ firstE (useE s) k = 0) (fun k => s.uses.length - k) 0 ⟨Nat.zero_le _, rfl⟩ ⟨rfl, trivial⟩ ?_
  rintro k base2 ⟨hk2, hJ⟩
  focus (refine gV ?_; refine gC rfl rfl rfl rfl rfl ?_; refine gO ?_; refine gQ ?_)
  refine gc_if_dec rfl (fun h8 => ?_) (fun h8 => ?_)
  · have hlt : k < s.uses.length := by omega
    obtain ⟨ad, _, hv, _, _, hb, hcell⟩ := h4.at' 3 rfl (by omega)
    injection hv with e1 e2 e3
    subst e1 e3
    obtain ⟨cs', hce, rfl, _⟩ := hcell k hlt
    have hat : useE s k = if s.uses[k].1 < 0 ∨ s.uses[k].1 ≥ s.pieces.length ∨ s.uses[k].2.1 < 1 ∨ s.uses[k].2.1 > 4 then 3 else 0 := by unfold useE; rw [List.getElem?_eq_getElem hlt]
    have hbad : (s.uses[k].1 < 0 ∨ s.uses[k].1 ≥ s.pieces.length ∨ s.uses[k].2.1 < 1 ∨ s.uses[k].2.1 > 4) → styleE s plE = 3 := fun h => by
      rw [if_pos h] at hat
      unfold styleE
      rw [if_neg ‹_›, if_neg (by rw [hI]; decide), firstE_stop hJ (by rw [hat]; decide) hlt, hat]
      exact if_pos (by decide)
    focus (refine gK ?_; refine gX ?_; refine gQ ?_; refine gB ?_; refine gV ?_; apply gw_d; exact w_index rfl rfl rfl rfl (by with_reducible exact rfl) (by omega); apply gw_d; exact w_load_elem rfl rfl rfl (by assumption) (by assumption) (by rfl); refine w_alloc rfl (fun _ => ?_); refine w_store_all rfl rfl rfl rfl rfl .here rfl ?_; refine gN ?_; refine gF rfl rfl rfl ?_; refine gW rfl rfl rfl .here rfl ?_; refine gC rfl rfl rfl rfl rfl ?_; refine gM ?_; refine gw_guard_dec rfl rfl (fun _ => ?_) (fun _ => ?_); (iterate 6 refine gU ?_); refine gPt rfl rfl rfl rfl ?_; refine gM ?_; (iterate 3 refine gU ?_); refine gPt rfl rfl rfl rfl ?_; refine gM ?_; (iterate 3 refine gU ?_); refine gPt rfl rfl rfl rfl ?_; refine gO ?_; refine gc_if_true rfl ?_; refine gV ?_; refine gM ?_; refine gO ?_; refine gR ?_; refine gY ?_; (iterate 2 refine gT ?_); refine gY ?_; refine gT ?_; rotate_left; refine gF rfl rfl rfl ?_; refine gW rfl rfl rfl .here rfl ?_; refine gF rfl rfl rfl ?_; refine gW rfl rfl rfl (.there .here) rfl ?_; refine gL rfl rfl rfl ?_; refine gC rfl rfl rfl rfl rfl ?_; refine gPf rfl rfl rfl rfl ?_; refine gM ?_; refine gw_guard_dec rfl rfl (fun _ => ?_) (fun _ => ?_); (iterate 3 refine gU ?_); refine gPt rfl rfl rfl rfl ?_; refine gM ?_; (iterate 3 refine gU ?_); refine gPt rfl rfl rfl rfl ?_; refine gO ?_; refine gc_if_true rfl ?_; refine gV ?_; refine gM ?_; refine gO ?_; refine gR ?_; refine gY ?_; (iterate 2 refine gT ?_); refine gY ?_; refine gT ?_; rotate_left; refine gF rfl rfl rfl ?_; refine gW rfl rfl rfl .here rfl ?_; refine gC rfl rfl rfl rfl rfl ?_; refine gPf rfl rfl rfl rfl ?_; refine gM ?_; refine gw_guard_dec rfl rfl (fun _ => ?_) (fun _ => ?_); (iterate 3 refine gU ?_); refine gPt rfl rfl rfl rfl ?_; refine gO ?_; refine gc_if_true rfl ?_; refine gV ?_; refine gM ?_; refine gO ?_; refine gR ?_; refine gY ?_; (iterate 2 refine gT ?_); refine gY ?_; refine gT ?_; rotate_left; refine gF rfl rfl rfl ?_; refine gW rfl rfl rfl .here rfl ?_; refine gC rfl rfl rfl rfl rfl ?_; refine gPf rfl rfl rfl rfl ?_; refine gO ?_; refine gc_if_dec rfl (fun _ => ?_) (fun _ => ?_); refine gV ?_; refine gM ?_; refine gO ?_; refine gR ?_; refine gY ?_; (iterate 2 refine gT ?_); refine gY ?_; refine gT ?_; rotate_left; refine gK ?_; refine gH ?_; refine gX ?_; refine gG ?_; refine gA rfl rfl rfl rfl rfl (by omega) ?_; refine gM ?_; refine gw_nil ?_; rotate_left)
    · refine gx_ret1 (v := .int _ _) rfl rfl (fun _ _ => ?_)
      rw [hbad (by omega)]
    · refine gx_ret1 (v := .int _ _) rfl rfl (fun _ _ => ?_)
      rw [hbad (by omega)]
    · refine gx_ret1 (v := .int _ _) rfl rfl (fun _ _ => ?_)
      rw [hbad (by omega)]
    · refine gx_ret1 (v := .int _ _) rfl rfl (fun _ _ => ?_)
      rw [hbad (by omega)]
    · exact gx_round (k + 1) ⟨by omega, firstE_snoc hJ (by rw [hat, if_neg (by omega)])⟩ (by omega) (by repeat (first | exact Keeps.refl | refine Keeps.upd rfl ?_ | refine Keeps.sets rfl ?_ | refine Keeps.havoc rfl ?_)) ⟨rfl, trivial⟩ Sub.tail
  obtain rfl : k = s.uses.length := by omega
  focus (refine gI ?_; (iterate 2 refine gZ ?_); refine gJ ?_; refine gX ?_; refine gQ ?_; refine gV ?_; refine gF rfl rfl rfl ?_; refine gW rfl rfl rfl .here rfl ?_; refine gL rfl rfl rfl ?_; refine gM ?_; refine gO ?_; refine gB ?_)
  refine gc_loopK (σ := Nat) [67, 68, 69, 10, 70, 71, 72, 73, 74, 75, 76, 77, 78, 79, 80, 81, 82, 83, 84, 85, 2, 86, 87, 88, 89, 66] (fun k => [(66, .int .i64 k)]) (fun k => k ≤ s.seams.length ∧ firstE (seamE s) k = 0) (fun k => s.seams.length - k) 0 ⟨Nat.zero_le _, rfl⟩ ⟨rfl, trivial⟩ ?_
  rintro k base3 ⟨hk3, hK⟩
  focus (refine gV ?_; refine gC rfl rfl rfl rfl rfl ?_; refine gO ?_; refine gQ ?_)
  refine gc_if_dec rfl (fun h7 => ?_) (fun h7 => ?_)
  · have hlt : k < s.seams.length := by omega
    obtain ⟨ad, _, hv, _, _, hb, hcell⟩ := h5.at' 6 rfl (by omega)
    injection hv with e1 e2 e3
    subst e1 e3
    obtain ⟨cs', hce, rfl⟩ := hcell k hlt
    have hat : seamE s k = if isEdgeB s s.seams[k].1 s.seams[k].2.1 = true ∧ isEdgeB s s.seams[k].2.2.1 s.seams[k].2.2.2.1 = true then if s.seams[k].2.2.2.2.2 < 0 then 1 else 0 else 3 := by unfold seamE; rw [List.getElem?_eq_getElem hlt]
    have hstop : ∀ x : Int, seamE s k = x → ¬ x = 0 → styleE s plE = x := fun x hx h => by
      unfold styleE
      rw [if_neg ‹_›, if_neg (by rw [hI]; decide), if_neg (by rw [hJ]; decide), firstE_stop hK (by rw [hx]; exact h) hlt, hx]
    focus (refine gK ?_; refine gX ?_; refine gQ ?_; refine gB ?_; refine gV ?_; apply gw_d; exact w_index rfl rfl rfl rfl (by with_reducible exact rfl) (by omega); apply gw_d; exact w_load_elem rfl rfl rfl (by assumption) (by assumption) (by rfl); refine w_alloc rfl (fun _ => ?_); refine w_store_all rfl rfl rfl rfl rfl .here rfl ?_; refine gO ?_; refine gQ ?_; refine gV ?_; apply gw_d; exact w_load_boxN rfl rfl rfl (.there .here) rfl; refine gF rfl rfl rfl ?_; refine gW rfl rfl rfl .here rfl ?_; refine gF rfl rfl rfl ?_; refine gW rfl rfl rfl .here rfl ?_; apply gw_d; exact w_call rfl rfl (fun w s => isEdge_ok w _ _ _ _ (hs'.later s)) rfl; apply gw_d; exact det_not_ rfl rfl rfl; refine gM ?_; refine gw_guard rfl rfl (fun _ => ?_) (fun _ => ?_); (iterate 7 refine gU ?_); refine gPt rfl rfl rfl rfl ?_; refine gO ?_; refine gc_if_true rfl ?_; refine gV ?_; refine gM ?_; refine gO ?_; refine gR ?_; refine gT ?_; refine gY ?_; (iterate 2 refine gT ?_); refine gY ?_; refine gT ?_; rotate_left; apply gw_d; exact w_load_boxN rfl rfl rfl (.there .here) rfl; refine gF rfl rfl rfl ?_; refine gW rfl rfl rfl .here rfl ?_; refine gF rfl rfl rfl ?_; refine gW rfl rfl rfl .here rfl ?_; apply gw_d; exact w_call rfl rfl (fun w s => isEdge_ok w _ _ _ _ (hs'.later s)) rfl; apply gw_d; exact det_not_ rfl rfl rfl; refine gPf rfl rfl rfl rfl ?_; refine gO ?_; refine gc_if rfl (fun _ => ?_) (fun _ => ?_); refine gV ?_; refine gM ?_; refine gO ?_; refine gR ?_; refine gT ?_; refine gY ?_; (iterate 2 refine gT ?_); refine gY ?_; refine gT ?_; rotate_left; refine gK ?_; refine gX ?_; refine gV ?_; refine gF rfl rfl rfl ?_; refine gW rfl rfl rfl .here rfl ?_; refine gC rfl rfl rfl rfl rfl ?_; refine gO ?_; refine gc_if_dec rfl (fun _ => ?_) (fun _ => ?_); refine gV ?_; refine gM ?_; refine gO ?_; refine gR ?_; refine gY ?_; (iterate 2 refine gT ?_); refine gY ?_; refine gT ?_; rotate_left; refine gK ?_; refine gH ?_; refine gX ?_; refine gG ?_; refine gA rfl rfl rfl rfl rfl (by omega) ?_; refine gM ?_; refine gw_nil ?_; rotate_left)
    · refine gx_ret1 (v := .int _ _) rfl rfl (fun _ _ => ?_)
      rename_i h _ _
      rw [hstop 3 (by rw [hat, if_neg (by simp at h; simp [h])]) (by decide)]
    · refine gx_ret1 (v := .int _ _) rfl rfl (fun _ _ => ?_)
      rename_i h _ _
      rw [hstop 3 (by rw [hat, if_neg (by simp at h; simp [h])]) (by decide)]
    · refine gx_ret1 (v := .int _ _) rfl rfl (fun _ _ => ?_)
      rw [hstop 1 (by rw [hat, if_pos (by simp_all), if_pos (by assumption)]) (by decide)]
    · exact gx_round (k + 1) ⟨by omega, firstE_snoc hK (by rw [hat, if_pos (by simp_all), if_neg (by assumption)])⟩ (by omega) (by repeat (first | exact Keeps.refl | refine Keeps.upd rfl ?_ | refine Keeps.sets rfl ?_ | refine Keeps.havoc rfl ?_)) ⟨rfl, trivial⟩ Sub.tail
  obtain rfl : k = s.seams.length := by omega
  focus (refine gI ?_; (iterate 2 refine gZ ?_); refine gJ ?_; refine gX ?_; refine gV ?_; refine gM ?_; refine gO ?_; refine gR ?_)
  refine gx_ret1 (v := .int _ _) rfl rfl (fun _ _ => ?_)
  unfold styleE
  rw [if_neg ‹_›, if_neg (by rw [hI]; decide), if_neg (by rw [hJ]; decide), hK]
def markIn (bs : List Bool) (us : List Int) : List Bool := us.foldl (fun bs u => bs.set u.toNat true) bs
def marks (n : Nat) (l : List Opn) : List Bool := l.foldl (fun bs o => markIn bs o.uses) (List.replicate n false)
def opCheckE (s : Sty) (pl : Pc → Int) : Int := if ¬ styleE s pl = 0 then styleE s pl else if ¬ listE s.ops s.uses.length = 0 then listE s.ops s.uses.length else if (marks s.uses.length s.ops).all id = true then 0 else 20
theorem markIn_len (us : List Int) : ∀ bs, (markIn bs us).length = bs.length := by
  induction us with
  | nil => intro bs; rfl
  | cons u us ih => intro bs; exact (ih _).trans (by simp)
theorem marks_len (n : Nat) (l : List Opn) : (marks n l).length = n := by
  unfold marks
  suffices h : ∀ (l : List Opn) (bs : List Bool), (l.foldl (fun bs o => markIn bs o.uses) bs).length = bs.length by rw [h]; simp
  intro l
  induction l with
  | nil => intro bs; rfl
  | cons x o ih => intro bs; exact (ih _).trans (markIn_len _ _)
theorem marks_snoc {n : Nat} {l : List Opn} {k : Nat} (hk : k < l.length) : marks n (l.take (k + 1)) = markIn (marks n (l.take k)) l[k].uses := by
  unfold marks
  rw [List.take_succ_eq_append_getElem hk, List.foldl_append]
  rfl
theorem markIn_snoc {bs : List Bool} {us : List Int} {k : Nat} (hk : k < us.length) : markIn bs (us.take (k + 1)) = (markIn bs (us.take k)).set us[k].toNat true := by
  unfold markIn
  rw [List.take_succ_eq_append_getElem hk, List.foldl_append]
  rfl
theorem list_uses {l : List Opn} {n : Nat} (he : listE l n = 0) {i : Nat} (hi : i < l.length) : ∀ x ∈ l[i].uses, 0 ≤ x ∧ x < (n : Int) := by
  have h16 : ¬ 16 < l.length := fun h => by unfold listE at he; rw [if_pos h] at he; cases he
  have hI0 : firstE (opE l n) l.length = 0 := by
    unfold listE at he
    rw [if_neg h16] at he
    split at he
    · rename_i h1; exact absurd he h1
    · rename_i h1; simpa using h1
  have h1 := firstE_at hI0 i hi
  unfold opE at h1
  rw [List.getElem?_eq_getElem hi] at h1
  dsimp only at h1
  split at h1
  · cases h1
  · split at h1
    · cases h1
    · split at h1
      · cases h1
      · split at h1
        · cases h1
        · rename_i h3
          refine areIx_at ?_
          cases hb : areIx l[i].uses n with
          | true => rfl
          | false => exact absurd (.inr ⟨by omega, hb⟩) h3

theorem style_uses {s : Sty} {pl : Pc → Int} (hS0 : styleE s pl = 0) : s.uses.length ≤ 12 := by
  unfold styleE at hS0
  split at hS0
  · rename_i h; exact absurd hS0 h
  · rename_i h
    have hw : wholeE s = 0 := by simpa using h
    unfold wholeE at hw
    repeat' split at hw
    all_goals first | omega | cases hw

theorem opCheck_ok (w : World) (v : Value) (s : Sty) (hs : StyV w w.heap.size v s) : Ok Tryz.prog 63 [v].toArray w fun r _ => r = .int .i64 (opCheckE s plE) := by
  have hs' := hs
  obtain ⟨As, cs, Am, cm, Ap, cp, Au, cu, Ae, ce, Ao, co, rfl, hnm, h1, h2, h3, h4, h5, h6⟩ := hs
  obtain ⟨_, _, hv, huc, hum⟩ := len_small h4
  injection hv with e1 e2 e3
  subst e1 e3
  obtain ⟨_, _, hv, hoc, hom⟩ := len_small h6
  injection hv with e1 e2 e3
  subst e1 e3
  refine ok_enter Tryz.func63 rfl Tryz.ntmps63 rfl ?_
  focus (refine gV ?_; refine gw_boxd (v := .agg _) rfl rfl (fun _ => ?_); refine gM ?_; refine gO ?_; refine gQ ?_; refine gV ?_; apply gw_d; exact w_load_boxN rfl rfl rfl .here rfl; apply gw_d; exact w_call rfl rfl (fun w s => style_ok w _ _ (hs'.later s)) rfl; refine gM ?_; refine gN ?_; refine gM ?_; refine gC rfl rfl rfl rfl rfl ?_; refine gO ?_)
  refine gc_if_dec rfl (fun h => ?_) (fun h => ?_)
  · focus (refine gV ?_; (iterate 2 refine gM ?_); refine gO ?_; refine gR ?_; refine gT ?_)
    refine gx_ret1 (v := .int _ _) rfl rfl (fun _ _ => ?_)
    unfold opCheckE
    rw [if_pos h]
  have hS0 : styleE s plE = 0 := by simpa using h
  have hu12 := style_uses hS0
  by_cases he : listE s.ops s.uses.length = 0
  · focus (refine gK ?_; refine gX ?_; refine gQ ?_; refine gV ?_; refine gF rfl rfl rfl ?_; refine gW rfl rfl rfl .here rfl ?_; refine gF rfl rfl rfl ?_; refine gW rfl rfl rfl .here rfl ?_; refine gL rfl rfl rfl ?_)
    refine gw_callm rfl (fun w s' => checkList_good w _ s.ops s.uses.length (h6.later s') he) rfl (fun x => ?_)
    obtain ⟨A, c⟩ := x
    focus (refine gM ?_; apply gw_d; exact det_extract rfl rfl rfl (by conv => (lhs; whnf)); apply gw_d; exact det_extract rfl rfl rfl (by conv => (lhs; whnf)); (iterate 2 refine gM ?_); refine gN ?_; refine gM ?_; refine gC rfl rfl rfl rfl rfl ?_; refine gO ?_)
    refine gc_if_dec rfl (fun h => absurd rfl h) (fun _ => ?_)
    focus (refine gK ?_; refine gX ?_; refine gV ?_; refine gF rfl rfl rfl ?_; refine gW rfl rfl rfl (.there .here) rfl ?_; refine gL rfl rfl rfl ?_)
    refine gw_make1 (n := s.uses.length) rfl rfl rfl rfl rfl (by omega) (by omega) rfl (fun b => ?_)
    rw [show Array.replicate s.uses.length ((Value.bool false).cells.getD 0 undef) = ((marks s.uses.length (s.ops.take 0)).map Value.bool).toArray from row_make Value.bool s.uses.length false]
    focus (refine gM ?_; refine gO ?_; refine gQ ?_; refine gV ?_; refine gF rfl rfl rfl ?_; refine gW rfl rfl rfl (.there (.there .here)) rfl ?_; refine gL rfl rfl rfl ?_; refine gM ?_; refine gO ?_; refine gB ?_)
    refine gc_loop (σ := Nat) [38, 39, 40, 8, 41, 42, 43, 44, 45, 46, 47, 10, 48, 49, 50, 51, 52, 37] (fun k => [(37, .int .i64 k)]) (fun k => [Box b 4 ((marks s.uses.length (s.ops.take k)).map Value.bool).toArray]) (fun k => k ≤ s.ops.length) (fun k => s.ops.length - k) 0 (Nat.zero_le _) ⟨rfl, trivial⟩ (.cons .here .nil) ?_
    rintro k base hk
    focus (refine gV ?_; refine gC rfl rfl rfl rfl rfl ?_; refine gO ?_; refine gQ ?_)
    refine gc_if_dec rfl (fun h => ?_) (fun h => ?_)
    · have hlt : k < s.ops.length := by omega
      obtain ⟨ad, _, hv, _, _, hb, hcell⟩ := h6.at' 5 rfl (by omega)
      injection hv with e1 e2 e3
      subst e1 e3
      obtain ⟨cs', hce, Aa, ca, Au', cu', rfl, _, q1, q2⟩ := hcell k hlt
      have ha : Sl rInt w w.heap.size (.slice Au' s.ops[k].uses.length cu') s.ops[k].uses := q2
      obtain ⟨_, _, hv, hac, ham, hacell⟩ := ha.int
      injection hv with e1 e2 e3
      subst e1 e3
      have hus := list_uses he hlt
      have hsn := marks_snoc (n := s.uses.length) hlt
      have hml := marks_len s.uses.length (s.ops.take k)
      generalize marks s.uses.length (s.ops.take k) = bs at hsn hml ⊢
      focus (refine gK ?_; refine gX ?_; refine gQ ?_; refine gB ?_; refine gV ?_; apply gw_d; exact w_index rfl rfl rfl rfl (by with_reducible exact rfl) (by omega); apply gw_d; exact w_load_elem rfl rfl rfl (by assumption) (by assumption) (by rfl); refine w_alloc rfl (fun _ => ?_); refine w_store_all rfl rfl rfl rfl rfl .here rfl ?_; refine gN ?_; refine gF rfl rfl rfl ?_; refine gW rfl rfl rfl .here rfl ?_; refine gL rfl rfl rfl ?_; refine gM ?_; refine gO ?_; refine gB ?_)
      refine gc_loop (σ := Nat) [45, 46, 47, 10, 48, 49, 50, 51, 44] (fun j => [(44, .int .i64 j)]) (fun j => [Box b 4 ((markIn bs (s.ops[k].uses.take j)).map Value.bool).toArray]) (fun j => j ≤ s.ops[k].uses.length) (fun j => s.ops[k].uses.length - j) 0 (Nat.zero_le _) ⟨rfl, trivial⟩ (.cons (.there .here) .nil) ?_
      rintro j base2 hj
      focus (refine gV ?_; refine gC rfl rfl rfl rfl rfl ?_; refine gO ?_; refine gQ ?_)
      refine gc_if_dec rfl (fun h2 => ?_) (fun h2 => ?_)
      · have hjl : j < s.ops[k].uses.length := by omega
        obtain ⟨ad2, rfl, hb2, hce2, _⟩ := hacell j hjl
        have hpr := hus s.ops[k].uses[j] (List.getElem_mem hjl)
        obtain ⟨p, hp⟩ : ∃ p : Nat, s.ops[k].uses[j] = (p : Int) := ⟨s.ops[k].uses[j].toNat, by omega⟩
        have hsn2 := markIn_snoc (bs := bs) hjl
        rw [hp] at hce2 hsn2
        rw [Int.toNat_natCast] at hsn2
        have hl2 := markIn_len (s.ops[k].uses.take j) bs
        focus (refine gK ?_; refine gX ?_; refine gQ ?_; refine gB ?_; refine gV ?_; apply gw_d; exact w_index rfl rfl rfl rfl (by with_reducible exact rfl) (by omega); apply gw_d; exact w_load_at rfl rfl rfl (by assumption) (by assumption); refine gM ?_; refine gO ?_; refine gG ?_; (iterate 2 refine gM ?_); apply gw_d; exact w_index rfl rfl rfl rfl (by with_reducible exact rfl) (by omega))
        refine w_store_row (n := 1) (v := .bool true) rfl rfl rfl rfl rfl .here (by simp; omega) (row_set Value.bool (by omega) true) ?_
        focus (refine gw_nil ?_; refine gH ?_; refine gX ?_; refine gG ?_; refine gA rfl rfl rfl rfl rfl (by omega) ?_; refine gM ?_; refine gw_nil ?_)
        refine gx_round (j + 1) hjl (by omega) (by repeat (first | exact Keeps.refl | refine Keeps.upd rfl ?_ | refine Keeps.sets rfl ?_ | refine Keeps.havoc rfl ?_)) ⟨rfl, trivial⟩ ?_
        rw [hsn2]
        exact .cons .here .nil
      · obtain rfl : j = s.ops[k].uses.length := by omega
        rw [List.take_length, ← hsn]
        focus (refine gI ?_; (iterate 2 refine gZ ?_); refine gJ ?_; refine gH ?_; refine gX ?_; refine gG ?_; refine gA rfl rfl rfl rfl rfl (by omega) ?_; refine gM ?_; refine gw_nil ?_)
        exact gx_round (k + 1) hlt (by omega) (by repeat (first | exact Keeps.refl | refine Keeps.upd rfl ?_ | refine Keeps.sets rfl ?_ | refine Keeps.havoc rfl ?_)) ⟨rfl, trivial⟩ (Sub.all _)
    obtain rfl : k = s.ops.length := by omega
    rw [List.take_length]
    have hE : opCheckE s plE = if (marks s.uses.length s.ops).all id = true then 0 else 20 := by unfold opCheckE; rw [if_neg (by rw [hS0]; decide), if_neg (by rw [he]; decide)]
    rw [hE]
    have hml := marks_len s.uses.length s.ops
    generalize marks s.uses.length s.ops = bs at hml ⊢
    focus (refine gI ?_; (iterate 2 refine gZ ?_); refine gJ ?_; refine gX ?_; refine gQ ?_; refine gV ?_; refine gM ?_; refine gL rfl rfl rfl ?_; refine gM ?_; refine gO ?_; refine gB ?_)
    refine gc_loopK (σ := Nat) [56, 57, 58, 12, 59, 60, 2, 61, 55] (fun k => [(55, .int .i64 k)]) (fun k => k ≤ bs.length ∧ (bs.take k).all id = true) (fun k => bs.length - k) 0 ⟨Nat.zero_le _, rfl⟩ ⟨rfl, trivial⟩ ?_
    rintro k base3 ⟨hk3, hK⟩
    focus (refine gV ?_; refine gC rfl rfl rfl rfl rfl ?_; refine gO ?_; refine gQ ?_)
    refine gc_if_dec rfl (fun h => ?_) (fun h => ?_)
    · have hlt : k < bs.length := by omega
      have hpc : (bs.map Value.bool).toArray[k * 1]? = some (.bool (bs.getD k false)) := row_get Value.bool false (by omega)
      have hg : bs.getD k false = bs[k] := by simp [hlt]
      rw [hg] at hpc
      focus (refine gK ?_; refine gX ?_; refine gQ ?_; refine gB ?_; refine gV ?_; apply gw_d; exact w_index rfl rfl rfl rfl (by with_reducible exact rfl) (by omega); apply gw_d; exact w_load_row rfl rfl rfl .here hpc; refine gM ?_; refine gN ?_; refine gM ?_; apply gw_d; exact det_not_ rfl rfl rfl; refine gO ?_)
      refine gc_if rfl (fun h3 => ?_) (fun h3 => ?_)
      · focus (refine gV ?_; refine gM ?_; refine gO ?_; refine gR ?_; refine gY ?_; (iterate 2 refine gT ?_); refine gY ?_; refine gT ?_)
        refine gx_ret1 (v := .int _ _) rfl rfl (fun _ _ => ?_)
        rw [if_neg (by rw [Bool.not_eq_true, List.all_eq_false]; exact ⟨bs[k], List.getElem_mem hlt, by simpa using h3⟩)]
      · focus (refine gK ?_; refine gH ?_; refine gX ?_; refine gG ?_; refine gA rfl rfl rfl rfl rfl (by omega) ?_; refine gM ?_; refine gw_nil ?_)
        exact gx_round (k + 1) ⟨hlt, by rw [List.take_succ_eq_append_getElem hlt, List.all_append, hK]; simpa using h3⟩ (by omega) (by repeat (first | exact Keeps.refl | refine Keeps.upd rfl ?_ | refine Keeps.sets rfl ?_ | refine Keeps.havoc rfl ?_)) ⟨rfl, trivial⟩ (Sub.all _)
    · obtain rfl : k = bs.length := by omega
      rw [List.take_length] at hK
      focus (refine gI ?_; (iterate 2 refine gZ ?_); refine gJ ?_; refine gX ?_; refine gV ?_; refine gM ?_; refine gO ?_; refine gR ?_)
      refine gx_ret1 (v := .int _ _) rfl rfl (fun _ _ => ?_)
      rw [if_pos hK]
  · have hE : opCheckE s plE = listE s.ops s.uses.length := by unfold opCheckE; rw [if_neg (by rw [hS0]; decide), if_pos he]
    rw [hE]
    focus (refine gK ?_; refine gX ?_; refine gQ ?_; refine gV ?_; refine gF rfl rfl rfl ?_; refine gW rfl rfl rfl .here rfl ?_; refine gF rfl rfl rfl ?_; refine gW rfl rfl rfl .here rfl ?_; refine gL rfl rfl rfl ?_; apply gw_d; exact w_call rfl rfl (fun w s' => checkList_bad w _ s.ops s.uses.length (h6.later s') he) rfl; refine gM ?_; apply gw_d; exact det_extract rfl rfl rfl (by conv => (lhs; whnf)); apply gw_d; exact det_extract rfl rfl rfl (by conv => (lhs; whnf)); (iterate 2 refine gM ?_); refine gN ?_; refine gM ?_; refine gC rfl rfl rfl rfl rfl ?_; refine gO ?_)
    refine gc_if_dec rfl (fun _ => ?_) (fun h => absurd he h)
    focus (refine gV ?_; (iterate 2 refine gM ?_); refine gO ?_; refine gR ?_; refine gT ?_)
    refine gx_ret1 (v := .int _ _) rfl rfl (fun _ _ => ?_)
    rfl
theorem opCheck0_ok (w : World) (v : Value) (s : Sty) (hs : StyV w w.heap.size v s) (hno : ∀ p ∈ s.pieces, p.notches = []) : Ok Tryz.prog 63 [v].toArray w fun r _ => r = .int .i64 (opCheckE s pl0) := by
  have h := opCheck_ok w v s hs
  unfold opCheckE at h ⊢
  rw [styleE_none hno] at h
  exact h
def sHem : ByteArray := ⟨#[104, 101, 109]⟩
def sPress : ByteArray := ⟨#[112, 114, 101, 115, 115]⟩
def sBack : ByteArray := ⟨#[98, 97, 99, 107]⟩
def sVest : ByteArray := ⟨#[118, 101, 115, 116]⟩
def sAnn : ByteArray := ⟨#[97, 110, 110]⟩
def sS : ByteArray := ⟨#[83]⟩
def sA : ByteArray := ⟨#[97]⟩
def sB : ByteArray := ⟨#[98]⟩
def twoV (x : Nat → Nat) : Value := .agg #[.string sVest, .slice (some ⟨x 6, 0, none⟩) 1 1, .slice (some ⟨x 7, 0, none⟩) 1 1, .slice (some ⟨x 8, 0, none⟩) 1 1, .slice (some ⟨x 9, 0, none⟩) 1 1, .slice none 0 0, .slice (some ⟨x 12, 0, none⟩) 2 2, .slice (some ⟨x 13, 0, none⟩) 1 1, .slice (some ⟨x 15, 0, none⟩) 1 1, .slice (some ⟨x 16, 0, none⟩) 3 3]
def twoStyV (x : Nat → Nat) : Value := .agg #[.string sVest, .slice (some ⟨x 6, 0, none⟩) 1 1, .slice (some ⟨x 7, 0, none⟩) 1 1, .slice (some ⟨x 8, 0, none⟩) 1 1, .slice (some ⟨x 9, 0, none⟩) 1 1, .slice none 0 0, .slice (some ⟨x 12, 0, none⟩) 2 2]
def twoR (x : Nat → Nat) : List Res := [Box (x 16) 51 #[.int .i64 7, .int .i64 0, .int .i64 0, .int .i64 5, .int .i64 7, .int .i64 0, .int .i64 0, .int .i64 6, .int .i64 7, .int .i64 1, .int .i64 0, .int .i64 9], Box (x 15) 85 #[.string sAnn, .slice (some ⟨x 14, 0, none⟩) 2 2], Box (x 14) 3 #[.int .i64 0, .int .i64 1], Box (x 13) 44 #[.int .i64 7, .int .i64 0, .int .i64 0, .int .i64 0, .int .i64 0, .int .i64 10], Box (x 12) 55 #[.string sHem, .int .i64 0, .int .i64 120, .slice none 0 0, .slice (some ⟨x 10, 0, none⟩) 1 1, .string sPress, .int .i64 1, .int .i64 80, .slice (some ⟨x 11, 0, none⟩) 1 1, .slice none 0 0], Box (x 11) 3 #[.int .i64 0], Box (x 10) 3 #[.int .i64 0], Box (x 9) 115 #[.int .i64 0, .int .i64 1, .bool false], Box (x 8) 113 #[.string sBack, .slice (some ⟨x 3, 0, none⟩) 2 2, .int .i64 1, .slice none 0 0, .slice (some ⟨x 4, 0, none⟩) 2 2, .slice (some ⟨x 5, 0, none⟩) 2 2, .bool false], Box (x 7) 3 #[.int .i64 0], Box (x 6) 9 #[.string sS], Box (x 5) 3 #[.int .i64 0, .int .i64 0], Box (x 4) 106 #[.int .i64 0, .int .i64 0, .int .i64 0, .int .i64 0], Box (x 3) 109 #[.string sA, .slice (some ⟨x 1, 0, none⟩) 2 2, .string sB, .slice (some ⟨x 2, 0, none⟩) 3 3], Box (x 2) 106 #[.int .i64 10, .int .i64 0, .int .i64 0, .int .i64 10, .int .i64 0, .int .i64 0], Box (x 1) 106 #[.int .i64 0, .int .i64 0, .int .i64 10, .int .i64 0]]
theorem two_ok (w : World) : OkM Tryz.prog 25 [].toArray w twoV twoR := by
  unfold OkM
  refine ok_enter Tryz.func25 rfl Tryz.ntmps25 rfl ?_
  focus (refine gV ?_; refine w_alloc rfl (fun _ => ?_); refine gN ?_; apply gw_d; exact w_buildP [] (cells := #[.int .i64 0, .int .i64 0]) (by kernel_rfl) rfl rfl rfl; apply gw_d; exact w_buildP [(0, .int .i64 10)] (cells := #[.int .i64 10, .int .i64 0]) (by kernel_rfl) rfl rfl rfl)
  refine gw_bslice (cells := #[.int .i64 0, .int .i64 0, .int .i64 10, .int .i64 0]) rfl ?_ ?_ ?_ (fun b1 => ?_)
  · rfl
  · rfl
  · kernel_rfl
  focus (apply gw_d; exact w_buildP [(0, .string sA), (1, .slice (some ⟨b1, 0, none⟩) 2 2)] (cells := #[.string sA, .slice (some ⟨b1, 0, none⟩) 2 2]) (by kernel_rfl) rfl rfl rfl; apply gw_d; exact w_buildP [(0, .int .i64 10)] (cells := #[.int .i64 10, .int .i64 0]) (by kernel_rfl) rfl rfl rfl; apply gw_d; exact w_buildP [(1, .int .i64 10)] (cells := #[.int .i64 0, .int .i64 10]) (by kernel_rfl) rfl rfl rfl; apply gw_d; exact w_buildP [] (cells := #[.int .i64 0, .int .i64 0]) (by kernel_rfl) rfl rfl rfl)
  refine gw_bslice (cells := #[.int .i64 10, .int .i64 0, .int .i64 0, .int .i64 10, .int .i64 0, .int .i64 0]) rfl ?_ ?_ ?_ (fun b2 => ?_)
  · rfl
  · rfl
  · kernel_rfl
  focus (apply gw_d; exact w_buildP [(0, .string sB), (1, .slice (some ⟨b2, 0, none⟩) 3 3)] (cells := #[.string sB, .slice (some ⟨b2, 0, none⟩) 3 3]) (by kernel_rfl) rfl rfl rfl)
  refine gw_bslice (cells := #[.string sA, .slice (some ⟨b1, 0, none⟩) 2 2, .string sB, .slice (some ⟨b2, 0, none⟩) 3 3]) rfl ?_ ?_ ?_ (fun b3 => ?_)
  · rfl
  · rfl
  · kernel_rfl
  focus (apply gw_d; exact w_buildP [] (cells := #[.int .i64 0, .int .i64 0]) (by kernel_rfl) rfl rfl rfl; apply gw_d; exact w_buildP [] (cells := #[.int .i64 0, .int .i64 0]) (by kernel_rfl) rfl rfl rfl)
  refine gw_bslice (cells := #[.int .i64 0, .int .i64 0, .int .i64 0, .int .i64 0]) rfl ?_ ?_ ?_ (fun b4 => ?_)
  · rfl
  · rfl
  · kernel_rfl
  focus (skip)
  refine gw_bslice (cells := #[.int .i64 0, .int .i64 0]) rfl ?_ ?_ ?_ (fun b5 => ?_)
  · rfl
  · rfl
  · kernel_rfl
  focus (apply gw_d; exact w_buildP [(0, .string sBack), (1, .slice (some ⟨b3, 0, none⟩) 2 2), (2, .int .i64 1), (4, .slice (some ⟨b4, 0, none⟩) 2 2), (5, .slice (some ⟨b5, 0, none⟩) 2 2)] (cells := #[.string sBack, .slice (some ⟨b3, 0, none⟩) 2 2, .int .i64 1, .slice none 0 0, .slice (some ⟨b4, 0, none⟩) 2 2, .slice (some ⟨b5, 0, none⟩) 2 2, .bool false]) (by kernel_rfl) rfl rfl rfl; refine w_alloc rfl (fun _ => ?_); refine w_store_all rfl rfl rfl rfl rfl .here rfl ?_; refine gN ?_)
  rename_i bc bp
  refine gw_bslice1 (v := .string sS) rfl rfl rfl rfl rfl (fun b6 => ?_)
  refine gw_bslice1 (v := .int .i64 0) rfl rfl rfl rfl rfl (fun b7 => ?_)
  focus (apply gw_d; exact w_load_boxN rfl rfl rfl (.there (.there .here)) rfl)
  refine gw_bslice1 (v := .agg #[.string sBack, .slice (some ⟨b3, 0, none⟩) 2 2, .int .i64 1, .slice none 0 0, .slice (some ⟨b4, 0, none⟩) 2 2, .slice (some ⟨b5, 0, none⟩) 2 2, .bool false]) rfl rfl rfl rfl rfl (fun b8 => ?_)
  focus (apply gw_d; exact w_buildP [(1, .int .i64 1)] (cells := #[.int .i64 0, .int .i64 1, .bool false]) (by kernel_rfl) rfl rfl rfl)
  refine gw_bslice1 (v := .agg #[.int .i64 0, .int .i64 1, .bool false]) rfl rfl rfl rfl rfl (fun b9 => ?_)
  refine gw_bslice1 (v := .int .i64 0) rfl rfl rfl rfl rfl (fun b10 => ?_)
  focus (apply gw_d; exact w_buildP [(0, .string sHem), (2, .int .i64 120), (4, .slice (some ⟨b10, 0, none⟩) 1 1)] (cells := #[.string sHem, .int .i64 0, .int .i64 120, .slice none 0 0, .slice (some ⟨b10, 0, none⟩) 1 1]) (by kernel_rfl) rfl rfl rfl)
  refine gw_bslice1 (v := .int .i64 0) rfl rfl rfl rfl rfl (fun b11 => ?_)
  focus (apply gw_d; exact w_buildP [(0, .string sPress), (1, .int .i64 1), (2, .int .i64 80), (3, .slice (some ⟨b11, 0, none⟩) 1 1)] (cells := #[.string sPress, .int .i64 1, .int .i64 80, .slice (some ⟨b11, 0, none⟩) 1 1, .slice none 0 0]) (by kernel_rfl) rfl rfl rfl)
  refine gw_bslice (cells := #[.string sHem, .int .i64 0, .int .i64 120, .slice none 0 0, .slice (some ⟨b10, 0, none⟩) 1 1, .string sPress, .int .i64 1, .int .i64 80, .slice (some ⟨b11, 0, none⟩) 1 1, .slice none 0 0]) rfl ?_ ?_ ?_ (fun b12 => ?_)
  · rfl
  · rfl
  · kernel_rfl
  focus (apply gw_d; exact w_buildP [(0, .string sVest), (1, .slice (some ⟨b6, 0, none⟩) 1 1), (2, .slice (some ⟨b7, 0, none⟩) 1 1), (3, .slice (some ⟨b8, 0, none⟩) 1 1), (4, .slice (some ⟨b9, 0, none⟩) 1 1), (6, .slice (some ⟨b12, 0, none⟩) 2 2)] (cells := #[.string sVest, .slice (some ⟨b6, 0, none⟩) 1 1, .slice (some ⟨b7, 0, none⟩) 1 1, .slice (some ⟨b8, 0, none⟩) 1 1, .slice (some ⟨b9, 0, none⟩) 1 1, .slice none 0 0, .slice (some ⟨b12, 0, none⟩) 2 2]) (by kernel_rfl) rfl rfl rfl; refine w_alloc rfl (fun _ => ?_); refine w_store_all rfl rfl rfl rfl rfl .here rfl ?_; refine gN ?_; apply gw_d; exact w_load_boxN rfl rfl rfl .here rfl)
  rename_i bs
  focus (apply gw_d; exact w_buildP [(0, .int .i64 7), (5, .int .i64 10)] (cells := #[.int .i64 7, .int .i64 0, .int .i64 0, .int .i64 0, .int .i64 0, .int .i64 10]) (by kernel_rfl) rfl rfl rfl)
  refine gw_bslice1 (v := .agg #[.int .i64 7, .int .i64 0, .int .i64 0, .int .i64 0, .int .i64 0, .int .i64 10]) rfl rfl rfl rfl rfl (fun b13 => ?_)
  refine gw_bslice (cells := #[.int .i64 0, .int .i64 1]) rfl ?_ ?_ ?_ (fun b14 => ?_)
  · rfl
  · rfl
  · kernel_rfl
  focus (apply gw_d; exact w_buildP [(0, .string sAnn), (1, .slice (some ⟨b14, 0, none⟩) 2 2)] (cells := #[.string sAnn, .slice (some ⟨b14, 0, none⟩) 2 2]) (by kernel_rfl) rfl rfl rfl)
  refine gw_bslice1 (v := .agg #[.string sAnn, .slice (some ⟨b14, 0, none⟩) 2 2]) rfl rfl rfl rfl rfl (fun b15 => ?_)
  focus (apply gw_d; exact w_buildP [(0, .int .i64 7), (3, .int .i64 5)] (cells := #[.int .i64 7, .int .i64 0, .int .i64 0, .int .i64 5]) (by kernel_rfl) rfl rfl rfl; apply gw_d; exact w_buildP [(0, .int .i64 7), (3, .int .i64 6)] (cells := #[.int .i64 7, .int .i64 0, .int .i64 0, .int .i64 6]) (by kernel_rfl) rfl rfl rfl; apply gw_d; exact w_buildP [(0, .int .i64 7), (1, .int .i64 1), (3, .int .i64 9)] (cells := #[.int .i64 7, .int .i64 1, .int .i64 0, .int .i64 9]) (by kernel_rfl) rfl rfl rfl)
  refine gw_bslice (cells := #[.int .i64 7, .int .i64 0, .int .i64 0, .int .i64 5, .int .i64 7, .int .i64 0, .int .i64 0, .int .i64 6, .int .i64 7, .int .i64 1, .int .i64 0, .int .i64 9]) rfl ?_ ?_ ?_ (fun b16 => ?_)
  · rfl
  · rfl
  · kernel_rfl
  focus (apply gw_d; exact w_buildP [(0, .agg #[.string sVest, .slice (some ⟨b6, 0, none⟩) 1 1, .slice (some ⟨b7, 0, none⟩) 1 1, .slice (some ⟨b8, 0, none⟩) 1 1, .slice (some ⟨b9, 0, none⟩) 1 1, .slice none 0 0, .slice (some ⟨b12, 0, none⟩) 2 2]), (1, .slice (some ⟨b13, 0, none⟩) 1 1), (2, .slice (some ⟨b15, 0, none⟩) 1 1), (3, .slice (some ⟨b16, 0, none⟩) 3 3)] (cells := #[.string sVest, .slice (some ⟨b6, 0, none⟩) 1 1, .slice (some ⟨b7, 0, none⟩) 1 1, .slice (some ⟨b8, 0, none⟩) 1 1, .slice (some ⟨b9, 0, none⟩) 1 1, .slice none 0 0, .slice (some ⟨b12, 0, none⟩) 2 2, .slice (some ⟨b13, 0, none⟩) 1 1, .slice (some ⟨b15, 0, none⟩) 1 1, .slice (some ⟨b16, 0, none⟩) 3 3]) (by kernel_rfl) rfl rfl rfl)
  refine w_store_all rfl rfl rfl rfl rfl (.there (.there (.there (.there (.there (.there (.there (.there (.there (.there (.there (.there (.there (.there (.there (.there (.there (.there .here)))))))))))))))))) rfl ?_
  focus (refine gO ?_; refine gR ?_)
  refine gx_retc rfl rfl .here rfl fun w s => ⟨fun i => bif Nat.beq i 1 then b1 else bif Nat.beq i 2 then b2 else bif Nat.beq i 3 then b3 else bif Nat.beq i 4 then b4 else bif Nat.beq i 5 then b5 else bif Nat.beq i 6 then b6 else bif Nat.beq i 7 then b7 else bif Nat.beq i 8 then b8 else bif Nat.beq i 9 then b9 else bif Nat.beq i 10 then b10 else bif Nat.beq i 11 then b11 else bif Nat.beq i 12 then b12 else bif Nat.beq i 13 then b13 else bif Nat.beq i 14 then b14 else bif Nat.beq i 15 then b15 else bif Nat.beq i 16 then b16 else 0, rfl, ?_⟩
  exact (St.sub (K := twoR (fun i => bif Nat.beq i 1 then b1 else bif Nat.beq i 2 then b2 else bif Nat.beq i 3 then b3 else bif Nat.beq i 4 then b4 else bif Nat.beq i 5 then b5 else bif Nat.beq i 6 then b6 else bif Nat.beq i 7 then b7 else bif Nat.beq i 8 then b8 else bif Nat.beq i 9 then b9 else bif Nat.beq i 10 then b10 else bif Nat.beq i 11 then b11 else bif Nat.beq i 12 then b12 else bif Nat.beq i 13 then b13 else bif Nat.beq i 14 then b14 else bif Nat.beq i 15 then b15 else bif Nat.beq i 16 then b16 else 0)) (.cons (.there .here) (.cons (.there .here) (.cons (.there .here) (.cons (.there .here) (.cons (.there (.there .here)) (.cons (.there (.there .here)) (.cons (.there (.there .here)) (.cons (.there (.there .here)) (.cons (.there (.there .here)) (.cons (.there (.there .here)) (.cons (.there (.there .here)) (.cons (.there (.there (.there .here))) (.cons (.there (.there (.there .here))) (.cons (.there (.there (.there .here))) (.cons (.there (.there (.there .here))) (.cons (.there (.there (.there .here))) .nil)))))))))))))))) s).sep

section
variable {w0 w : World} {L : List Res} {x : Nat → Nat}
def twoOps : List Opn := [⟨sHem, 0, 120, [], [0]⟩, ⟨sPress, 1, 80, [0], []⟩]
def twoSty : Sty := ⟨sVest, [sS], [0], [⟨sBack, [(sA, [(0, 0), (10, 0)]), (sB, [(10, 0), (0, 10), (0, 0)])], 1, [], [(0, 0), (0, 0)], [0, 0], false⟩], [(0, 1, false)], [], twoOps⟩
def twoBuns : List Bun := [⟨7, 0, 0, 0, 0, 10⟩]
def twoWrks : List Wrk := [⟨sAnn, [0, 1]⟩]
def twoScns : List Scn := [⟨7, 0, 0, 5⟩, ⟨7, 0, 0, 6⟩, ⟨7, 1, 0, 9⟩]
theorem two_ops (s : St w0 (twoR x ++ L) w) : Sl rOp w w.heap.size (.slice (some ⟨x 12, 0, none⟩) 2 2) twoOps := by
  have h12 : w.heap[x 12]? = some (.cells #[.string sHem, .int .i64 0, .int .i64 120, .slice none 0 0, .slice (some ⟨x 10, 0, none⟩) 1 1, .string sPress, .int .i64 1, .int .i64 80, .slice (some ⟨x 11, 0, none⟩) 1 1, .slice none 0 0] 55 (0, 0)) := s.drop.drop.drop.drop.head
  have h11 : w.heap[x 11]? = some (.cells #[.int .i64 0] 3 (0, 0)) := s.drop.drop.drop.drop.drop.head
  have h10 : w.heap[x 10]? = some (.cells #[.int .i64 0] 3 (0, 0)) := s.drop.drop.drop.drop.drop.drop.head
  have a10 : Sl rInt w w.heap.size (.slice (some ⟨x 10, 0, none⟩) 1 1) [0] := Sl.ofCells h10 rfl (by decide) (by decide) ⟨⟨rfl, inI rfl⟩, trivial⟩
  have a11 : Sl rInt w w.heap.size (.slice (some ⟨x 11, 0, none⟩) 1 1) [0] := Sl.ofCells h11 rfl (by decide) (by decide) ⟨⟨rfl, inI rfl⟩, trivial⟩
  exact Sl.ofCells h12 rfl (by decide) (by decide) ⟨⟨_, _, _, _, rfl, ⟨by decide, inI rfl, inI rfl⟩, Sl.nil _ _, a10⟩, ⟨_, _, _, _, rfl, ⟨by decide, inI rfl, inI rfl⟩, a11, Sl.nil _ _⟩, trivial⟩
theorem two_sty (s : St w0 (twoR x ++ L) w) : StyV w w.heap.size (twoStyV x) twoSty := by
  have h9 : w.heap[x 9]? = some (.cells #[.int .i64 0, .int .i64 1, .bool false] 115 (0, 0)) := s.drop.drop.drop.drop.drop.drop.drop.head
  have h8 : w.heap[x 8]? = some (.cells #[.string sBack, .slice (some ⟨x 3, 0, none⟩) 2 2, .int .i64 1, .slice none 0 0, .slice (some ⟨x 4, 0, none⟩) 2 2, .slice (some ⟨x 5, 0, none⟩) 2 2, .bool false] 113 (0, 0)) := s.drop.drop.drop.drop.drop.drop.drop.drop.head
  have h7 : w.heap[x 7]? = some (.cells #[.int .i64 0] 3 (0, 0)) := s.drop.drop.drop.drop.drop.drop.drop.drop.drop.head
  have h6 : w.heap[x 6]? = some (.cells #[.string sS] 9 (0, 0)) := s.drop.drop.drop.drop.drop.drop.drop.drop.drop.drop.head
  have h5 : w.heap[x 5]? = some (.cells #[.int .i64 0, .int .i64 0] 3 (0, 0)) := s.drop.drop.drop.drop.drop.drop.drop.drop.drop.drop.drop.head
  have h4 : w.heap[x 4]? = some (.cells #[.int .i64 0, .int .i64 0, .int .i64 0, .int .i64 0] 106 (0, 0)) := s.drop.drop.drop.drop.drop.drop.drop.drop.drop.drop.drop.drop.head
  have h3 : w.heap[x 3]? = some (.cells #[.string sA, .slice (some ⟨x 1, 0, none⟩) 2 2, .string sB, .slice (some ⟨x 2, 0, none⟩) 3 3] 109 (0, 0)) := s.drop.drop.drop.drop.drop.drop.drop.drop.drop.drop.drop.drop.drop.head
  have h2 : w.heap[x 2]? = some (.cells #[.int .i64 10, .int .i64 0, .int .i64 0, .int .i64 10, .int .i64 0, .int .i64 0] 106 (0, 0)) := s.drop.drop.drop.drop.drop.drop.drop.drop.drop.drop.drop.drop.drop.drop.head
  have h1 : w.heap[x 1]? = some (.cells #[.int .i64 0, .int .i64 0, .int .i64 10, .int .i64 0] 106 (0, 0)) := s.drop.drop.drop.drop.drop.drop.drop.drop.drop.drop.drop.drop.drop.drop.drop.head
  have a1 : Sl rSpot w w.heap.size (.slice (some ⟨x 1, 0, none⟩) 2 2) [(0, 0), (10, 0)] := Sl.ofCells h1 rfl (by decide) (by decide) ⟨⟨rfl, inI rfl, inI rfl⟩, ⟨rfl, inI rfl, inI rfl⟩, trivial⟩
  have a2 : Sl rSpot w w.heap.size (.slice (some ⟨x 2, 0, none⟩) 3 3) [(10, 0), (0, 10), (0, 0)] := Sl.ofCells h2 rfl (by decide) (by decide) ⟨⟨rfl, inI rfl, inI rfl⟩, ⟨rfl, inI rfl, inI rfl⟩, ⟨rfl, inI rfl, inI rfl⟩, trivial⟩
  have a3 : Sl rEdge w w.heap.size (.slice (some ⟨x 3, 0, none⟩) 2 2) [(sA, [(0, 0), (10, 0)]), (sB, [(10, 0), (0, 10), (0, 0)])] := Sl.ofCells h3 rfl (by decide) (by decide) ⟨⟨_, rfl, by decide, a1⟩, ⟨_, rfl, by decide, a2⟩, trivial⟩
  have a4 : Sl rSpot w w.heap.size (.slice (some ⟨x 4, 0, none⟩) 2 2) [(0, 0), (0, 0)] := Sl.ofCells h4 rfl (by decide) (by decide) ⟨⟨rfl, inI rfl, inI rfl⟩, ⟨rfl, inI rfl, inI rfl⟩, trivial⟩
  have a5 : Sl rInt w w.heap.size (.slice (some ⟨x 5, 0, none⟩) 2 2) [0, 0] := Sl.ofCells h5 rfl (by decide) (by decide) ⟨⟨rfl, inI rfl⟩, ⟨rfl, inI rfl⟩, trivial⟩
  exact ⟨_, _, _, _, _, _, _, _, _, _, _, _, rfl, (show sVest.size ≤ maxLen by decide), Sl.ofCells h6 rfl (Nat.le_refl 1) (by decide) ⟨⟨rfl, by decide⟩, trivial⟩, Sl.ofCells h7 rfl (Nat.le_refl 1) (by decide) ⟨⟨rfl, inI rfl⟩, trivial⟩, Sl.ofCells h8 rfl (Nat.le_refl 1) (by decide) ⟨⟨_, _, _, _, _, _, _, _, rfl, ⟨(show sBack.size ≤ maxLen by decide), inI rfl⟩, a3, Sl.nil _ _, a4, a5⟩, trivial⟩,
    Sl.ofCells h9 rfl (Nat.le_refl 1) (by decide) ⟨⟨rfl, inI rfl, inI rfl⟩, trivial⟩, Sl.nil _ _, two_ops s⟩
theorem two_buns (s : St w0 (twoR x ++ L) w) : Sl rBun w w.heap.size (.slice (some ⟨x 13, 0, none⟩) 1 1) twoBuns := by
  have h13 : w.heap[x 13]? = some (.cells #[.int .i64 7, .int .i64 0, .int .i64 0, .int .i64 0, .int .i64 0, .int .i64 10] 44 (0, 0)) := s.drop.drop.drop.head
  exact Sl.ofCells h13 rfl (by decide) (by decide) ⟨⟨rfl, inI rfl, inI rfl, inI rfl⟩, trivial⟩
theorem two_wrks (s : St w0 (twoR x ++ L) w) : Sl rWrk w w.heap.size (.slice (some ⟨x 15, 0, none⟩) 1 1) twoWrks := by
  have h15 : w.heap[x 15]? = some (.cells #[.string sAnn, .slice (some ⟨x 14, 0, none⟩) 2 2] 85 (0, 0)) := s.drop.head
  have h14 : w.heap[x 14]? = some (.cells #[.int .i64 0, .int .i64 1] 3 (0, 0)) := s.drop.drop.head
  have a14 : Sl rInt w w.heap.size (.slice (some ⟨x 14, 0, none⟩) 2 2) [0, 1] := Sl.ofCells h14 rfl (by decide) (by decide) ⟨⟨rfl, inI rfl⟩, ⟨rfl, inI rfl⟩, trivial⟩
  exact Sl.ofCells h15 rfl (by decide) (by decide) ⟨⟨_, _, rfl, by decide, a14⟩, trivial⟩
theorem two_scns (s : St w0 (twoR x ++ L) w) : Sl rScn w w.heap.size (.slice (some ⟨x 16, 0, none⟩) 3 3) twoScns := by
  have h16 : w.heap[x 16]? = some (.cells #[.int .i64 7, .int .i64 0, .int .i64 0, .int .i64 5, .int .i64 7, .int .i64 0, .int .i64 0, .int .i64 6, .int .i64 7, .int .i64 1, .int .i64 0, .int .i64 9] 51 (0, 0)) := s.head
  exact Sl.ofCells h16 rfl (by decide) (by decide) ⟨⟨rfl, inI rfl, inI rfl, inI rfl, inI rfl⟩, ⟨rfl, inI rfl, inI rfl, inI rfl, inI rfl⟩, ⟨rfl, inI rfl, inI rfl, inI rfl, inI rfl⟩, trivial⟩
end
theorem same57_ok (w : World) (va vb : Value) (a b : List Pay) (ha : Sl rPay w w.heap.size va a) (hb : Sl rPay w w.heap.size vb b) : Ok Tryz.prog 16 [va, vb].toArray w fun r _ => r = .bool (decide (a = b)) := by
  obtain ⟨A, c, rfl, hac, ham, hacell⟩ := ha.pay
  obtain ⟨B, d, rfl, hbc, hbm, hbcell⟩ := hb.pay
  refine ok_enter Tryz.func16 rfl Tryz.ntmps16 rfl ?_
  focus (refine gV ?_; refine gM ?_; refine gO ?_; refine gQ ?_; refine gV ?_; refine gM ?_; refine gL rfl rfl rfl ?_; refine gM ?_; refine gL rfl rfl rfl ?_; refine gC rfl rfl rfl rfl rfl ?_; refine gO ?_)
  refine gc_if_dec rfl (fun h => ?_) (fun h => ?_)
  · focus (refine gV ?_; refine gM ?_; refine gO ?_; refine gR ?_; refine gT ?_)
    refine gx_ret1 (v := .bool _) rfl rfl (fun _ _ => ?_)
    have : ¬ a = b := fun hc => h (by rw [hc])
    simp [this]
  have hlen : a.length = b.length := by omega
  focus (refine gK ?_; refine gX ?_; refine gQ ?_; refine gV ?_; refine gM ?_; refine gO ?_; refine gB ?_)
  refine gc_loop (σ := Nat) [11, 12, 13, 14, 17, 18, 19, 20, 21, 22, 23, 24, 25, 4, 15, 16, 5] (fun k => [(5, .int .i64 k)]) (fun _ => []) (fun k => k ≤ a.length ∧ a.take k = b.take k) (fun k => a.length - k) 0 ⟨Nat.zero_le _, rfl⟩ ⟨rfl, trivial⟩ .nil ?_
  rintro k base ⟨hk, hI⟩
  focus (refine gQ ?_; refine gV ?_; (iterate 2 refine gM ?_); refine gL rfl rfl rfl ?_; refine gC rfl rfl rfl rfl rfl ?_; refine gO ?_)
  refine gc_if_dec rfl (fun h => ?_) (fun h => ?_)
  · have hka : k < a.length := by omega
    have hkb : k < b.length := by omega
    obtain ⟨ad1, rfl, hb1, hce1, _⟩ := hacell k hka
    obtain ⟨ad2, rfl, hb2, hce2, _⟩ := hbcell k hkb
    focus (refine gK ?_; refine gX ?_; refine gQ ?_; refine gB ?_; refine gQ ?_)
    refine gc_draw 9 (by kernel_rfl) (by kernel_rfl) ?_
    focus ((iterate 2 refine dM ?_); apply gd_d; exact w_index rfl rfl rfl rfl (by with_reducible exact rfl) (by omega); apply gd_d; exact w_load_elem rfl rfl rfl (by assumption) (by assumption) (by rfl); (iterate 2 refine dM ?_); apply gd_d; exact w_index rfl rfl rfl rfl (by with_reducible exact rfl) (by omega); apply gd_d; exact w_load_elem rfl rfl rfl (by assumption) (by assumption) (by rfl); apply gd_d; exact w_nes (xs := [a[k].who, a[k].work, a[k].top]) (ys := [b[k].who, b[k].work, b[k].top]) rfl rfl rfl rfl rfl rfl; refine gd_nil ?_; refine gO ?_)
    refine gc_if_dec rfl (fun h3 => ?_) (fun h3 => ?_)
    · focus (refine gV ?_; refine gM ?_; refine gO ?_; refine gR ?_; refine gY ?_; (iterate 2 refine gT ?_); refine gY ?_; refine gT ?_)
      refine gx_ret1 (v := .bool _) rfl rfl (fun _ _ => ?_)
      have : ¬ a = b := fun hc => h3 (by subst hc; rfl)
      simp [this]
    · focus (refine gK ?_; refine gH ?_; refine gX ?_; refine gG ?_; refine gM ?_; refine gA rfl rfl rfl rfl rfl (by omega) ?_; refine gM ?_; refine gw_nil ?_)
      refine gx_round (k + 1) ⟨hka, ?_⟩ (by omega) (by repeat (first | exact Keeps.refl | refine Keeps.upd rfl ?_ | refine Keeps.sets rfl ?_ | refine Keeps.havoc rfl ?_)) ⟨rfl, trivial⟩ .nil
      have h4 := Classical.not_not.1 h3
      have h5 : a[k] = b[k] := by
        simp only [List.cons.injEq, and_true] at h4
        cases ha5 : a[k]; cases hb5 : b[k]
        rw [ha5, hb5] at h4
        simp only at h4
        obtain ⟨q1, q2, q3⟩ := h4
        rw [q1, q2, q3]
      rw [List.take_succ_eq_append_getElem hka, List.take_succ_eq_append_getElem hkb, hI, h5]
  · obtain rfl : k = a.length := by omega
    rw [List.take_length, List.take_of_length_le (by omega)] at hI
    focus (refine gI ?_; (iterate 2 refine gZ ?_); refine gJ ?_; refine gX ?_; refine gV ?_; refine gM ?_; refine gO ?_; refine gR ?_)
    refine gx_ret1 (v := .bool _) rfl rfl (fun _ _ => ?_)
    simp [hI]

theorem e57a : amtV 250 60 120 10 = 30 ∧ amtE 250 60 120 10 = 0 := by exact ⟨by kernel_rfl, by kernel_rfl⟩
theorem e57b : opCheckE twoSty pl0 = 0 := by kernel_rfl
theorem e57c : paysE 250 60 0 twoBuns twoWrks 3 = 0 := by kernel_rfl
theorem e57d : paysE 250 60 0 twoBuns twoWrks 0 = 0 := by kernel_rfl
theorem e57e : paysL 250 60 twoOps twoBuns twoWrks twoScns = [⟨0, 50, 10⟩] := by kernel_rfl
theorem e57f : paysL 250 60 twoOps twoBuns twoWrks [] = [] := by kernel_rfl
theorem e57g : shL 10 4 = [3, 3, 2, 2] := by kernel_rfl
theorem e57h : totF [⟨0, 1, 2⟩, ⟨1, 3, 0⟩] 0 0 = some (4, 2) := by kernel_rfl
theorem e57i : totF [⟨0, -1, 0⟩] 0 0 = none := by kernel_rfl
theorem e57j : tarE (-1) 0 = 3 := by kernel_rfl
theorem two_small : Small twoOps := ⟨by decide, fun k hk a ha => by
  have hk2 : k < 2 := hk
  obtain rfl | rfl : k = 0 ∨ k = 1 := by omega
  · cases ha
  · have : a = 0 := by simpa [twoOps] using ha
    subst this
    decide⟩
theorem two_min : ∀ k (hk : k < twoOps.length), 0 ≤ twoOps[k].minutes ∧ twoOps[k].minutes ≤ 10000 := fun k hk => by
  have hk2 : k < 2 := hk
  obtain rfl | rfl : k = 0 ∨ k = 1 := by omega
  · show (0 : Int) ≤ 120 ∧ (120 : Int) ≤ 10000
    decide
  · show (0 : Int) ≤ 80 ∧ (80 : Int) ≤ 10000
    decide
section
variable {w0 w : World} {L : List Res} {x : Nat → Nat}
theorem two_check (s : St w0 (twoR x ++ L) w) : ∀ (L' : List Res) (w' : World), St w L' w' → Ok Tryz.prog 63 [twoStyV x].toArray w' fun r _ => r = .int .i64 0 := fun L' w' s' => by
  have h := opCheck0_ok w' _ _ (StyV.later s' (two_sty s)) (fun p hp => by rw [show p = _ from List.mem_singleton.1 hp])
  rw [e57b] at h
  exact h
theorem two_pays (s : St w0 (twoR x ++ L) w) (hL : Lay w) : OkM Tryz.prog 14 [twoStyV x, .slice (some ⟨x 13, 0, none⟩) 1 1, .slice (some ⟨x 15, 0, none⟩) 1 1, .slice (some ⟨x 16, 0, none⟩) 3 3, .agg #[.int .i64 250, .int .i64 60]].toArray w (fun y : Option Addr × Nat => .tuple #[.slice y.1 1 y.2, .int .i64 0]) (fun y => [Own y.1 1 y.2 90 3 [.int .i64 0, .int .i64 50, .int .i64 10]]) := by
  have h := Pays_ok (two_check s) hL (two_ops s) (two_buns s) (two_wrks s) (two_scns s) two_small two_min e57c
  rw [e57e] at h
  exact h
theorem two_none (s : St w0 (twoR x ++ L) w) (hL : Lay w) : OkM Tryz.prog 14 [twoStyV x, .slice (some ⟨x 13, 0, none⟩) 1 1, .slice (some ⟨x 15, 0, none⟩) 1 1, .slice none 0 0, .agg #[.int .i64 250, .int .i64 60]].toArray w (fun y : Option Addr × Nat => .tuple #[.slice y.1 0 y.2, .int .i64 0]) (fun y => [Own y.1 0 y.2 90 3 []]) := by
  have h := Pays_ok (xs := []) (two_check s) hL (two_ops s) (two_buns s) (two_wrks s) (Sl.nil _ _) two_small two_min e57d
  rw [e57f] at h
  exact h
end
theorem share_ten (w : World) : OkM Tryz.prog 30 [.int .i64 10, .int .i64 4].toArray w (fun b : Nat => .tuple #[.slice (some ⟨b, 0, none⟩) 4 4, .int .i64 0]) (fun b => [Box b 3 #[.int .i64 3, .int .i64 3, .int .i64 2, .int .i64 2]]) := by
  have h := wShare_good w 10 4 (by kernel_rfl)
  rw [e57g] at h
  exact h
theorem awake57_ok (w : World) (hL : Lay w) : Ok Tryz.prog 13 [].toArray w fun r _ => r = .bool true := by
  have hAm : ∀ (L : List Res) (w' : World), St w L w' → Ok Tryz.prog 11 [.agg #[.int .i64 250, .int .i64 60], .int .i64 120, .int .i64 10].toArray w' fun y _ => y = .tuple #[.int .i64 30, .int .i64 0] := fun L w' s => by
    have := wAmount_ok w' 250 60 120 10 (hL.later s)
    rw [e57a.1, e57a.2] at this
    exact this
  refine ok_enter Tryz.func13 rfl Tryz.ntmps13 rfl ?_
  focus (refine gV ?_; refine gM ?_; refine gN ?_; apply gw_d; exact w_buildP [(0, .int .i64 250), (1, .int .i64 60)] (cells := #[.int .i64 250, .int .i64 60]) (by kernel_rfl) rfl rfl rfl; refine w_alloc rfl (fun _ => ?_); refine w_store_all rfl rfl rfl rfl rfl .here rfl ?_; refine gN ?_)
  rename_i bt
  refine gw_callm rfl (fun w s => two_ok w) rfl (fun x => ?_)
  focus (refine w_alloc rfl (fun _ => ?_); refine w_store_all rfl rfl rfl rfl rfl .here rfl ?_; refine gN ?_)
  rename_i bc
  refine gw_ent (K := Box bt 36 #[.int .i64 250, .int .i64 60] :: Box bc 34 (twoV x).cells :: (twoR x ++ [])) (Sub.ent (.cons (.there (.there (.there (.there (.there (.there (.there (.there (.there (.there (.there (.there (.there (.there (.there (.there (.there .here))))))))))))))))) (.cons .here (Sub.all _)))) ?_
  focus (apply gw_d; exact w_load_boxN rfl rfl rfl .here rfl; apply gw_d; exact w_call rfl rfl (hAm _) rfl; refine gM ?_; apply gw_d; exact det_extract rfl rfl rfl (by conv => (lhs; whnf)); apply gw_d; exact det_extract rfl rfl rfl (by conv => (lhs; whnf)); (iterate 2 refine gM ?_); refine gN ?_; refine gF rfl rfl rfl ?_; apply gw_d; exact w_load_part rfl rfl rfl (.there .here) rfl rfl; refine gF rfl rfl rfl ?_; refine gW rfl rfl rfl (.there .here) rfl ?_; refine gF rfl rfl rfl ?_; refine gW rfl rfl rfl (.there .here) rfl ?_; refine gF rfl rfl rfl ?_; refine gW rfl rfl rfl (.there .here) rfl ?_; apply gw_d; exact w_load_boxN rfl rfl rfl .here rfl)
  refine gw_callm rfl (fun w s => two_pays s.drop.drop (hL.later s)) rfl (fun y => ?_)
  focus (refine gM ?_; apply gw_d; exact det_extract rfl rfl rfl (by conv => (lhs; whnf)); apply gw_d; exact det_extract rfl rfl rfl (by conv => (lhs; whnf)); (iterate 2 refine gM ?_); refine gN ?_; refine gF rfl rfl rfl ?_; apply gw_d; exact w_load_part rfl rfl rfl (.there (.there .here)) rfl rfl; refine gF rfl rfl rfl ?_; refine gW rfl rfl rfl (.there (.there .here)) rfl ?_; refine gF rfl rfl rfl ?_; refine gW rfl rfl rfl (.there (.there .here)) rfl ?_; apply gw_d; exact w_load_boxN rfl rfl rfl (.there .here) rfl)
  refine gw_callm rfl (fun w s => two_none s.drop.drop.drop (hL.later s)) rfl (fun z => ?_)
  refine gw_ent (K := [Own y.1 1 y.2 90 3 [.int .i64 0, .int .i64 50, .int .i64 10]]) (Sub.ent (.cons (.there .here) .nil)) ?_
  focus (refine gM ?_; apply gw_d; exact det_extract rfl rfl rfl (by conv => (lhs; whnf)); apply gw_d; exact det_extract rfl rfl rfl (by conv => (lhs; whnf)); (iterate 2 refine gM ?_); refine gN ?_)
  refine gw_callm rfl (fun w s => share_ten w) rfl (fun bs => ?_)
  focus (refine gM ?_; apply gw_d; exact det_extract rfl rfl rfl (by conv => (lhs; whnf)); apply gw_d; exact det_extract rfl rfl rfl (by conv => (lhs; whnf)); (iterate 2 refine gM ?_); refine gN ?_; apply gw_d; exact w_buildP [(1, .int .i64 1), (2, .int .i64 2)] (cells := #[.int .i64 0, .int .i64 1, .int .i64 2]) (by kernel_rfl) rfl rfl rfl; apply gw_d; exact w_buildP [(0, .int .i64 1), (1, .int .i64 3)] (cells := #[.int .i64 1, .int .i64 3, .int .i64 0]) (by kernel_rfl) rfl rfl rfl)
  refine gw_bslice (cells := #[.int .i64 0, .int .i64 1, .int .i64 2, .int .i64 1, .int .i64 3, .int .i64 0]) rfl ?_ ?_ ?_ (fun b1 => ?_)
  · rfl
  · rfl
  · kernel_rfl
  have hT1 : ∀ (L : List Res) (w' : World), St w (Box b1 90 #[.int .i64 0, .int .i64 1, .int .i64 2, .int .i64 1, .int .i64 3, .int .i64 0] :: L) w' → Ok Tryz.prog 31 [.slice (some ⟨b1, 0, none⟩) 2 2].toArray w' fun y _ => y = .tuple #[.int .i64 4, .int .i64 2, .int .i64 0] := fun L w' s => by
    have h := wTotal_ok w' (.slice (some ⟨b1, 0, none⟩) 2 2) [⟨0, 1, 2⟩, ⟨1, 3, 0⟩] (Sl.ofCells s.head rfl (by decide) (by decide) ⟨⟨rfl, inI rfl, inI rfl, inI rfl⟩, ⟨rfl, inI rfl, inI rfl, inI rfl⟩, trivial⟩)
    rw [e57h] at h
    exact h
  focus (apply gw_d; exact w_call rfl rfl (hT1 _) rfl; refine gM ?_; apply gw_d; exact det_extract rfl rfl rfl (by conv => (lhs; whnf)); apply gw_d; exact det_extract rfl rfl rfl (by conv => (lhs; whnf)); apply gw_d; exact det_extract rfl rfl rfl (by conv => (lhs; whnf)); (iterate 3 refine gM ?_); refine gN ?_; apply gw_d; exact w_buildP [(1, .int .i64 (-1))] (cells := #[.int .i64 0, .int .i64 (-1), .int .i64 0]) (by kernel_rfl) rfl rfl rfl)
  refine gw_bslice1 (v := .agg #[.int .i64 0, .int .i64 (-1), .int .i64 0]) rfl rfl rfl rfl rfl (fun b2 => ?_)
  have hT2 : ∀ (L : List Res) (w' : World), St w (Box b2 90 #[.int .i64 0, .int .i64 (-1), .int .i64 0] :: L) w' → Ok Tryz.prog 31 [.slice (some ⟨b2, 0, none⟩) 1 1].toArray w' fun y _ => y = .tuple #[.int .i64 0, .int .i64 0, .int .i64 3] := fun L w' s => by
    have h := wTotal_ok w' (.slice (some ⟨b2, 0, none⟩) 1 1) [⟨0, -1, 0⟩] (Sl.ofCells s.head rfl (by decide) (by decide) ⟨⟨rfl, inI rfl, inI rfl, inI rfl⟩, trivial⟩)
    rw [e57i] at h
    exact h
  focus (apply gw_d; exact w_call rfl rfl (hT2 _) rfl; refine gM ?_; apply gw_d; exact det_extract rfl rfl rfl (by conv => (lhs; whnf)); apply gw_d; exact det_extract rfl rfl rfl (by conv => (lhs; whnf)); apply gw_d; exact det_extract rfl rfl rfl (by conv => (lhs; whnf)); (iterate 3 refine gM ?_); refine gO ?_; refine gQ ?_; refine gV ?_; refine gM ?_; refine gC rfl rfl rfl rfl rfl ?_; (iterate 2 refine gM ?_); refine gC rfl rfl rfl rfl rfl ?_; refine gPf rfl rfl rfl rfl ?_; (iterate 2 refine gM ?_); refine gC rfl rfl rfl rfl rfl ?_; refine gPf rfl rfl rfl rfl ?_; (iterate 2 refine gM ?_); refine gC rfl rfl rfl rfl rfl ?_; refine gPf rfl rfl rfl rfl ?_; (iterate 2 refine gM ?_); refine gC rfl rfl rfl rfl rfl ?_; refine gPf rfl rfl rfl rfl ?_; (iterate 2 refine gM ?_); refine gC rfl rfl rfl rfl rfl ?_; refine gPf rfl rfl rfl rfl ?_; refine gO ?_)
  refine gc_if_false rfl ?_
  refine gc_ent (K := [Box bs 3 #[.int .i64 3, .int .i64 3, .int .i64 2, .int .i64 2], Own y.1 1 y.2 90 3 [.int .i64 0, .int .i64 50, .int .i64 10]]) (Sub.ent (.cons (.there (.there .here)) (.cons (.there (.there .here)) .nil))) ?_
  focus (refine gK ?_; refine gX ?_; refine gV ?_; refine gM ?_; refine gC rfl rfl rfl rfl rfl ?_; (iterate 2 refine gM ?_); apply gw_d; exact w_buildP [(1, .int .i64 50), (2, .int .i64 10)] (cells := #[.int .i64 0, .int .i64 50, .int .i64 10]) (by kernel_rfl) rfl rfl rfl)
  refine gw_bslice1 (v := .agg #[.int .i64 0, .int .i64 50, .int .i64 10]) rfl rfl rfl rfl rfl (fun b3 => ?_)
  have hS1 : ∀ (L : List Res) (w' : World), St w (Box b3 90 #[.int .i64 0, .int .i64 50, .int .i64 10] :: Box bs 3 #[.int .i64 3, .int .i64 3, .int .i64 2, .int .i64 2] :: Own y.1 1 y.2 90 3 [.int .i64 0, .int .i64 50, .int .i64 10] :: L) w' → Ok Tryz.prog 16 [.slice y.1 1 y.2, .slice (some ⟨b3, 0, none⟩) 1 1].toArray w' fun r _ => r = .bool true := fun L w' s => by
    have h1 : Sl rPay w' w'.heap.size (.slice y.1 1 y.2) [⟨0, 50, 10⟩] := Sl.own (R := rPay) (enc := encP) (l := [⟨0, 50, 10⟩]) s (.there (.there .here)) rfl (fun q hq => by rw [List.mem_singleton] at hq; subst hq; exact ⟨rfl, inI rfl, inI rfl, inI rfl⟩)
    have h2 : Sl rPay w' w'.heap.size (.slice (some ⟨b3, 0, none⟩) 1 1) [⟨0, 50, 10⟩] := Sl.ofCells s.head rfl (by decide) (by decide) ⟨⟨rfl, inI rfl, inI rfl, inI rfl⟩, trivial⟩
    exact same57_ok w' _ _ [⟨0, 50, 10⟩] [⟨0, 50, 10⟩] h1 h2
  have hCk : ∀ (L : List Res) (w' : World), St w L w' → Ok Tryz.prog 9 [.agg #[.int .i64 (-1), .int .i64 0]].toArray w' fun y _ => y = .int .i64 3 := fun L w' s => by
    have h := wCheck_ok w' (-1) 0 (hL.later s)
    rw [e57j] at h
    exact h
  focus (apply gw_d; exact w_call rfl rfl (hS1 _) rfl; refine gPt rfl rfl rfl rfl ?_; (iterate 2 refine gM ?_); refine gL rfl rfl rfl ?_; refine gC rfl rfl rfl rfl rfl ?_; refine gPt rfl rfl rfl rfl ?_; (iterate 2 refine gM ?_); refine gL rfl rfl rfl ?_; refine gC rfl rfl rfl rfl rfl ?_; refine gPt rfl rfl rfl rfl ?_; (iterate 2 refine gM ?_); apply gw_d; exact w_index (m := 0) rfl rfl rfl rfl rfl (by decide); refine gW rfl rfl rfl (.there .here) rfl ?_; refine gC rfl rfl rfl rfl rfl ?_; refine gPt rfl rfl rfl rfl ?_; (iterate 2 refine gM ?_); apply gw_d; exact w_index (m := 1) rfl rfl rfl rfl rfl (by decide); refine gW rfl rfl rfl (.there .here) rfl ?_; refine gC rfl rfl rfl rfl rfl ?_; refine gPt rfl rfl rfl rfl ?_; (iterate 2 refine gM ?_); apply gw_d; exact w_index (m := 2) rfl rfl rfl rfl rfl (by decide); refine gW rfl rfl rfl (.there .here) rfl ?_; refine gC rfl rfl rfl rfl rfl ?_; refine gPt rfl rfl rfl rfl ?_; (iterate 2 refine gM ?_); apply gw_d; exact w_index (m := 3) rfl rfl rfl rfl rfl (by decide); refine gW rfl rfl rfl (.there .here) rfl ?_; refine gC rfl rfl rfl rfl rfl ?_; refine gPt rfl rfl rfl rfl ?_; (iterate 2 refine gM ?_); refine gC rfl rfl rfl rfl rfl ?_; refine gPt rfl rfl rfl rfl ?_; (iterate 2 refine gM ?_); refine gC rfl rfl rfl rfl rfl ?_; refine gPt rfl rfl rfl rfl ?_; refine gM ?_; apply gw_d; exact w_buildP [(0, .int .i64 (-1))] (cells := #[.int .i64 (-1), .int .i64 0]) (by kernel_rfl) rfl rfl rfl; apply gw_d; exact w_call rfl rfl (hCk _) rfl; refine gC rfl rfl rfl rfl rfl ?_; refine gPt rfl rfl rfl rfl ?_; refine gM ?_; refine gO ?_; refine gR ?_)
  refine gx_ret1 (v := .bool _) rfl rfl (fun _ _ => ?_)
  rfl
theorem op_parts {l : List Opn} {n : Int} {i : Nat} {o : Opn} (ho : l[i]? = some o) (h : opE l n i = 0) : ¬ (¬ nameB o.name = true) ∧ ¬ ((l.take i).any fun x => eqS x.name o.name) = true ∧ ¬ (o.machine < 0 ∨ o.machine ≥ 8 ∨ o.minutes < 1 ∨ o.minutes > 10000) ∧
    ¬ (areIx o.after l.length = false ∨ (0 ≤ n ∧ areIx o.uses n = false)) ∧ ¬ (dupL o.after o.after.length = true ∨ (0 ≤ n ∧ dupL o.uses o.uses.length = true)) := by
  unfold opE at h
  rw [ho] at h
  dsimp only at h
  split at h
  · cases h
  rename_i c1
  split at h
  · cases h
  rename_i c2
  split at h
  · cases h
  rename_i c3
  split at h
  · cases h
  rename_i c4
  split at h
  · cases h
  rename_i c5
  exact ⟨c1, c2, c3, c4, c5⟩
theorem list_parts {l : List Opn} {n : Int} (h : listE l n = 0) : ¬ 16 < l.length ∧ firstE (opE l n) l.length = 0 ∧ fullB l = true := by
  unfold listE at h
  split at h
  · cases h
  rename_i c1
  split at h
  · rename_i c2; exact absurd h c2
  rename_i c2
  split at h
  · rename_i c3; exact ⟨c1, Classical.not_not.1 c2, c3⟩
  · cases h
theorem check_parts {s : Sty} {pl : Pc → Int} (h : opCheckE s pl = 0) : styleE s pl = 0 ∧ listE s.ops s.uses.length = 0 ∧ (marks s.uses.length s.ops).all id = true := by
  unfold opCheckE at h
  split at h
  · rename_i c; exact absurd h c
  rename_i c1
  split at h
  · rename_i c; exact absurd h c
  rename_i c2
  split at h
  · rename_i c3; exact ⟨Classical.not_not.1 c1, Classical.not_not.1 c2, c3⟩
  · cases h
/-! ### The cells, as they are cleared one by one -/
section
variable {κ : Type} [DecidableEq κ] {P : Program} {kt n : Nat} [CInts P kt n] {f : κ → List Int}
end

section
variable {P : Program} {ops : Array Oper} {Q : Exit → Act → World → Prop} {N : Nat} {w0 : World} {L L' : List Res} {rest : List Oper} {e : Env} {o : Oper} {t : TypeId} {x : Operand} {v : Value} {n : Nat}
end
section
variable {P : Program} {ops : Array Oper} {Q : Exit → Act → World → Prop} {N : Nat} {w0 : World} {L L' : List Res} {rest : List Oper} {e : Env} {o : Oper} {t : TypeId} {x ix : Operand} {v : Value} {n c el sz : Nat} {A : Option Addr} {xs : List Value}
def adr (A : Option Addr) : Addr := A.getD ⟨0, 0, none⟩
theorem own_some {w : World} {el' : TypeId} {sz' : Nat} (s : St w0 L w) (hp : Pick L (Own A n c el' sz' xs) L') (hn : 0 < n) : ∃ g cs, A = some ⟨g, 0, none⟩ ∧ w.heap[g]? = some (.cells cs el' (0, 0)) ∧ cs.toList.take (n * sz') = xs := by
  have hown : w.ownsRow 0 el' sz' (.slice A n c) n xs := (s.pick hp).head
  rcases hown.2 with ⟨_, h0⟩ | ⟨g, cap, cur, hv, _, hg, h1, h2, h3, h4⟩
  · omega
  · injection hv with e1 e2 e3
    subst e1 e3
    exact ⟨g, cur, rfl, hg, h4⟩
theorem own_cell {w : World} {el' : TypeId} {sz' i : Nat} {u : Value} (s : St w0 L w) (hp : Pick L (Own A n c el' sz' xs) L') (hn : 0 < n) (hu : xs[i]? = some u) : w.cell? ((adr A).add i) = some u := by
  obtain ⟨g, cs, rfl, hg, ht⟩ := own_some s hp hn
  show w.cell? ((⟨g, 0, none⟩ : Addr).add i) = some u
  rw [add_zero]
  simp only [World.cell?, hg]
  rw [← ht, List.getElem?_take] at hu
  split at hu
  · simpa using hu
  · cases hu
theorem w_indexO [CSlice P t el sz] {el' : TypeId} {sz' m : Nat} {k : IntKind} {z : Int} (hop : o.op = .indexAddr t x ix) (hw : wantedE N ops e o = true) (hx : ev N e x = .slice A n c) (hi : ev N e ix = .int k z) (hz : z = (m : Int)) (hm : m < n) (hp : Pick L (Own A n c el' sz' xs) L') :
    Det P ops N w0 L o e (.pointer (some ((adr A).add (m * sz)))) :=
  .inl ⟨hw, fun w s => by
    obtain ⟨g, cs, rfl, _, _⟩ := own_some s hp (by omega)
    rcases w_index (P := P) (ops := ops) (N := N) (w0 := w0) (L := L) (e := e) (o := o) hop hw hx hi hz hm with h | h
    · exact h.2 w s
    · rw [hw] at h; cases h.1⟩
theorem w_loadO [CNotAgg P t] {el' : TypeId} {sz' i : Nat} (hop : o.op = .load t x) (hw : wantedE N ops e o = true) (hx : ev N e x = .pointer (some ((adr A).add i))) (hp : Pick L (Own A n c el' sz' xs) L') (hn : 0 < n) (hc : xs[i]? = some v) : Det P ops N w0 L o e v :=
  det_load hop hw hx fun _w s => run_loadVar1 CNotAgg.h (own_cell s hp hn hc)
end
structure Cse where
  (sty : Sty) (bs : List Bun) (ws : List Wrk) (xs : List Scn)
def CaseV (w : World) (v : Value) (c : Cse) : Prop :=
  ∃ v0 v1 v2 v3 v4 v5 v6 vb vw vx, v = .agg #[v0, v1, v2, v3, v4, v5, v6, vb, vw, vx] ∧ StyV w w.heap.size (.agg #[v0, v1, v2, v3, v4, v5, v6]) c.sty ∧ Sl rBun w w.heap.size vb c.bs ∧ Sl rWrk w w.heap.size vw c.ws ∧ Sl rScn w w.heap.size vx c.xs
theorem CaseV.later {w0 w : World} {L : List Res} {v : Value} {c : Cse} (s : St w0 L w) (h : CaseV w0 v c) : CaseV w v c := by
  obtain ⟨v0, v1, v2, v3, v4, v5, v6, vb, vw, vx, rfl, h1, h2, h3, h4⟩ := h
  exact ⟨v0, v1, v2, v3, v4, v5, v6, vb, vw, vx, rfl, StyV.later s h1, h2.later s, h3.later s, h4.later s⟩

def rU8 : Rp Int where
  size := 1
  rep _ _ i cs := cs = [.int .u8 i] ∧ (0 ≤ i ∧ i ≤ 255)
  len h := by rw [h.1]; rfl
  mono _ h := h
  grow _ h := h
theorem Sl.u8 {w : World} {B : Nat} {v : Value} {l : List Int} (h : Sl rU8 w B v l) : ∃ A c, v = .slice A l.length c ∧ l.length ≤ c ∧ l.length ≤ 9223372036854775807 ∧
    ∀ k (hk : k < l.length), ∃ ad, A = some ad ∧ ad.block < B ∧ w.cell? (ad.add (k * 1)) = some (.int .u8 l[k]) ∧ (0 ≤ l[k] ∧ l[k] ≤ 255) := by
  obtain ⟨A, c, hv, h1, h2, h3⟩ := h
  refine ⟨A, c, hv, h1, by unfold maxLen at h2; omega, fun k hk => ?_⟩
  obtain ⟨ad, cs, ha, hlt, hc, rfl, hr⟩ := h3 k hk
  exact ⟨ad, ha, hlt, hc 0 _ rfl, hr⟩

theorem paid_rep {w0 w : World} {B : Nat} {v : Value} {xs : List Scn} {S : Nat → Prop} (hx : Sl rScn w0 B v xs) {q : Scn} (hq : q ∈ xs) : rScn.rep w S q (encX q) := by
  obtain ⟨k, hk, rfl⟩ := List.getElem_of_mem hq
  obtain ⟨A, c, _, _, _, hcell⟩ := hx.scn
  obtain ⟨_, _, _, _, h⟩ := hcell k hk
  exact ⟨rfl, h⟩
theorem pay_rep {w : World} {S : Nat → Prop} {le : Int} {n : Nat} {q : Pay} (hle : 0 ≤ le ∧ le ≤ 1073741824) (h : (0 ≤ q.who ∧ q.who < n) ∧ (0 ≤ q.work ∧ q.work ≤ 300000000000) ∧ q.top = max (le - q.work) 0) (hn : n ≤ 12 := by assumption) : rPay.rep w S q (encP q) := by
  refine ⟨rfl, ?_, ?_, ?_⟩ <;> unfold inI64 <;> omega

theorem list_small {l : List Opn} {n : Int} (h : listE l n = 0) : Small l ∧ ∀ k (hk : k < l.length), 0 ≤ l[k].minutes ∧ l[k].minutes ≤ 10000 := by
  obtain ⟨h1, h2, _⟩ := list_parts h
  have hp : ∀ k (hk : k < l.length), _ := fun k hk => op_parts (l := l) (n := n) (List.getElem?_eq_getElem hk) (firstE_at h2 k hk)
  refine ⟨⟨by omega, fun k hk a ha => ?_⟩, fun k hk => ?_⟩
  · obtain ⟨_, _, _, c4, _⟩ := hp k hk
    have h3 : areIx l[k].after l.length = true := by
      cases hx : areIx l[k].after l.length with
      | true => rfl
      | false => exact absurd (.inl hx) c4
    exact areIx_at h3 a ha
  · obtain ⟨_, _, c3, _⟩ := hp k hk
    omega
theorem judge_zero {e : Int} {bs : List Bun} {ws : List Wrk} {n : Nat} (h : judgeAllE e bs ws n = 0) : ScanOk e bs ws ∧ n ≤ 300 := by
  unfold judgeAllE at h
  split at h
  · rename_i h1; exact absurd h h1
  · rename_i h1
    split at h
    · cases h
    · exact ⟨scan_good (Classical.not_not.1 h1), by omega⟩
theorem pays_zero {r le e : Int} {bs : List Bun} {ws : List Wrk} {n : Nat} (h : paysE r le e bs ws n = 0) : tarE r le = 0 ∧ judgeAllE e bs ws n = 0 := by
  unfold paysE at h
  split at h
  · rename_i h1; exact absurd h h1
  · rename_i h1; exact ⟨Classical.not_not.1 h1, h⟩
theorem pays_mk {r le e : Int} {bs : List Bun} {ws : List Wrk} {n : Nat} (h1 : tarE r le = 0) (h2 : judgeAllE e bs ws n = 0) : paysE r le e bs ws n = 0 := by
  unfold paysE
  rw [if_neg (by rw [h1]; decide)]
  exact h2
theorem skill_len {ws : List Wrk} (h : skillE ws = 0) : ws.length ≤ 12 := by
  unfold skillE at h
  split at h
  · cases h
  · omega
theorem scan_ops {s : Sty} {bs : List Bun} {ws : List Wrk} (h : ScanOk (opCheckE s plE) bs ws) : Small s.ops ∧ ∀ k (hk : k < s.ops.length), 0 ≤ s.ops[k].minutes ∧ s.ops[k].minutes ≤ 10000 := list_small (check_parts h.op).2.1
theorem sty_ops {w : World} {v0 v1 v2 v3 v4 v5 v6 : Value} {s : Sty} (h : StyV w w.heap.size (.agg #[v0, v1, v2, v3, v4, v5, v6]) s) : Sl rOp w w.heap.size v6 s.ops := by
  obtain ⟨As, cs, Am, cm, Ap, cp, Au, cu, Ae, ce, Ao, co, he, _, _, _, _, _, _, h6⟩ := h
  injection he with he
  have : (#[v0, v1, v2, v3, v4, v5, v6] : Array Value)[6]? = some v6 := rfl
  rw [he] at this
  injection this with this
  rw [← this]
  exact h6
theorem case_check {w : World} {v : Value} {s : Sty} (h : StyV w w.heap.size v s) : ∀ (L : List Res) (w' : World), St w L w' → Ok Tryz.prog 63 [v].toArray w' fun x _ => x = .int .i64 (opCheckE s plE) := fun _ w' s' => opCheck_ok w' v s (StyV.later s' h)

section
variable {w : World} {v0 v1 v2 v3 v4 v5 v6 vb vw vx : Value} {r le : Int} {s : Sty} {bs : List Bun} {ws : List Wrk} {xs : List Scn}
theorem cPays_bad (hL : Lay w) (hs : StyV w w.heap.size (.agg #[v0, v1, v2, v3, v4, v5, v6]) s) (hb : Sl rBun w w.heap.size vb bs) (hw : Sl rWrk w w.heap.size vw ws) (hx : Sl rScn w w.heap.size vx xs) (he : ¬ paysE r le (opCheckE s plE) bs ws xs.length = 0) :
    Ok Tryz.prog 14 [.agg #[v0, v1, v2, v3, v4, v5, v6], vb, vw, vx, .agg #[.int .i64 r, .int .i64 le]].toArray w fun x _ => x = .tuple #[.slice none 0 0, .int .i64 (paysE r le (opCheckE s plE) bs ws xs.length)] := Pays_bad (case_check hs) hL hb hw hx he
theorem cPays_ok (hL : Lay w) (hs : StyV w w.heap.size (.agg #[v0, v1, v2, v3, v4, v5, v6]) s) (hb : Sl rBun w w.heap.size vb bs) (hw : Sl rWrk w w.heap.size vw ws) (hx : Sl rScn w w.heap.size vx xs) (he : paysE r le (opCheckE s plE) bs ws xs.length = 0) :
    OkM Tryz.prog 14 [.agg #[v0, v1, v2, v3, v4, v5, v6], vb, vw, vx, .agg #[.int .i64 r, .int .i64 le]].toArray w (fun x : Option Addr × Nat => .tuple #[.slice x.1 (paysL r le s.ops bs ws xs).length x.2, .int .i64 0]) (fun x => [Own x.1 (paysL r le s.ops bs ws xs).length x.2 90 3 ((paysL r le s.ops bs ws xs).flatMap encP)]) := by
  have h1 := scan_ops (judge_zero (pays_zero he).2).1
  exact Pays_ok (case_check hs) hL (sty_ops hs) hb hw hx h1.1 h1.2 he
end
end Go.Proofs.YtckhibfbdnoigaaGreatDoor
