/- Texts in one file: S1 W1 W2 W3 W4 W5 W6 W7 W8 S3 Q57 QB. -/
import Derived.Test.YtljibjlkjelpbaaGreatDoorJB
import Derived.Test.YtljibjlkjelpbaaGreatDoorJE
/- Bundles, workers, scans, pays: how they lie in memory; what scans come to. No program in sight. -/
namespace Go.Proofs.YtljibjlkjelpbaaGreatDoor
open Go.RowKit

/-! ### How they lie -/
structure Bun where
  (tick garm size lot fr upto : Int)
def rBun : Rp Bun where
  size := 6
  rep _ _ b cs := cs = [.int .i64 b.tick, .int .i64 b.garm, .int .i64 b.size, .int .i64 b.lot, .int .i64 b.fr, .int .i64 b.upto] ∧ inI64 b.tick ∧ inI64 b.fr ∧ inI64 b.upto
  len h := by rw [h.1]; rfl
  mono _ h := h
  grow _ h := h
structure Wrk where
  (name : ByteArray) (machines : List Int)
def rWrk : Rp Wrk where
  size := 2
  rep w S o cs := ∃ A c, cs = [.string o.name, .slice A o.machines.length c] ∧ o.name.size ≤ maxLen ∧ SlS rInt w S (.slice A o.machines.length c) o.machines
  len h := by obtain ⟨_, _, rfl, _⟩ := h; rfl
  mono hb h := by obtain ⟨A, c, h0, h1, h2⟩ := h; exact ⟨A, c, h0, h1, h2.mono hb⟩
  grow hb h := by obtain ⟨A, c, h0, h1, h2⟩ := h; exact ⟨A, c, h0, h1, h2.grow hb⟩
structure Scn where
  (tick op who time : Int)
  deriving DecidableEq
def rScn : Rp Scn where
  size := 4
  rep _ _ b cs := cs = [.int .i64 b.tick, .int .i64 b.op, .int .i64 b.who, .int .i64 b.time] ∧ inI64 b.tick ∧ inI64 b.op ∧ inI64 b.who ∧ inI64 b.time
  len h := by rw [h.1]; rfl
  mono _ h := h
  grow _ h := h
structure Pay where
  (who work top : Int)
  deriving DecidableEq
def rPay : Rp Pay where
  size := 3
  rep _ _ b cs := cs = [.int .i64 b.who, .int .i64 b.work, .int .i64 b.top] ∧ inI64 b.who ∧ inI64 b.work ∧ inI64 b.top
  len h := by rw [h.1]; rfl
  mono _ h := h
  grow _ h := h

/-! ### What scans come to -/
def paidB (ps : List Scn) (t o : Int) : Bool := ps.any fun y => decide (y.tick = t) && decide (y.op = o)
def lastT (ps : List Scn) (t : Int) : Int := ps.foldl (fun a y => if y.tick = t then y.time else a) 0
def afterAt (l : List Opn) (o : Int) : List Int := ((l[o.toNat]?).map (·.after)).getD []
def machAt (l : List Opn) (o : Int) : Int := ((l[o.toNat]?).map (·.machine)).getD 0
def canAt (ws : List Wrk) (k m : Int) : Bool := hasB (((ws[k.toNat]?).map (·.machines)).getD []) m
def knownB (l : List Opn) (ws : List Wrk) (x : Scn) : Bool := decide (0 ≤ x.op ∧ x.op < l.length ∧ 0 ≤ x.who ∧ x.who < ws.length ∧ 0 ≤ x.time ∧ x.time ≤ 1073741824)
def judgeE (l : List Opn) (ws : List Wrk) (ps : List Scn) (x : Scn) : Int :=
  if knownB l ws x = false then 3 else if canAt ws x.who (machAt l x.op) = false then 4 else if paidB ps x.tick x.op = true then 2 else if (afterAt l x.op).all (fun a => paidB ps x.tick a) = false then 5 else if x.time < lastT ps x.tick then 6 else 1
def outE (l : List Opn) (ws : List Wrk) (tk : List Int) (ps : List Scn) (x : Scn) : Int := if hasB tk x.tick = false then 3 else judgeE l ws ps x
def nextP (l : List Opn) (ws : List Wrk) (tk : List Int) (ps : List Scn) (x : Scn) : List Scn := if outE l ws tk ps x = 1 then ps ++ [x] else ps
def paidL (l : List Opn) (ws : List Wrk) (tk : List Int) (xs : List Scn) : List Scn := xs.foldl (nextP l ws tk) []
def outs (l : List Opn) (ws : List Wrk) (tk : List Int) : List Scn → List Scn → List Int
  | _, [] => []
  | ps, x :: xs => outE l ws tk ps x :: outs l ws tk (nextP l ws tk ps x) xs
theorem outs_len (l : List Opn) (ws : List Wrk) (tk : List Int) : ∀ (xs ps : List Scn), (outs l ws tk ps xs).length = xs.length
  | [], _ => rfl
  | _ :: xs, _ => congrArg (· + 1) (outs_len l ws tk xs _)
theorem outs_snoc (l : List Opn) (ws : List Wrk) (tk : List Int) (x : Scn) : ∀ (xs ps : List Scn), outs l ws tk ps (xs ++ [x]) = outs l ws tk ps xs ++ [outE l ws tk (xs.foldl (nextP l ws tk) ps) x]
  | [], _ => rfl
  | y :: xs, ps => by
    show _ :: outs l ws tk _ (xs ++ [x]) = _
    rw [outs_snoc l ws tk x xs]
    rfl
theorem paidL_snoc (l : List Opn) (ws : List Wrk) (tk : List Int) (xs : List Scn) (x : Scn) : paidL l ws tk (xs ++ [x]) = nextP l ws tk (paidL l ws tk xs) x := by
  unfold paidL
  rw [List.foldl_append]
  rfl

/-! ### The record of a ticket -/
def recC (ps : List Scn) (t : Int) : Array Value := ((List.range 16).map (fun k => Value.bool (paidB ps t (k : Nat))) ++ [Value.int .i64 (lastT ps t)]).toArray
theorem recC_size (ps : List Scn) (t : Int) : (recC ps t).size = 17 := by simp [recC]
theorem recC_nil (t : Int) : recC [] t = #[.bool false, .bool false, .bool false, .bool false, .bool false, .bool false, .bool false, .bool false, .bool false, .bool false, .bool false, .bool false, .bool false, .bool false, .bool false, .bool false, .int .i64 0] := rfl
theorem recC_paid (ps : List Scn) (t : Int) {o : Nat} (ho : o < 16) : (recC ps t)[o]? = some (.bool (paidB ps t o)) := by
  unfold recC
  rw [List.getElem?_toArray, List.getElem?_append_left (by simp; omega), List.getElem?_map, List.getElem?_range ho]
  rfl
theorem recC_last (ps : List Scn) (t : Int) : (recC ps t)[16]? = some (.int .i64 (lastT ps t)) := by
  unfold recC
  rw [List.getElem?_toArray, List.getElem?_append_right (by simp)]
  simp
theorem paidB_snoc (ps : List Scn) (x : Scn) (t o : Int) : paidB (ps ++ [x]) t o = (paidB ps t o || (decide (x.tick = t) && decide (x.op = o))) := by
  unfold paidB
  rw [List.any_append]
  simp
theorem lastT_snoc (ps : List Scn) (x : Scn) (t : Int) : lastT (ps ++ [x]) t = if x.tick = t then x.time else lastT ps t := by
  unfold lastT
  rw [List.foldl_append]
  rfl
theorem recC_other (ps : List Scn) (x : Scn) {t : Int} (h : ¬ x.tick = t) : recC (ps ++ [x]) t = recC ps t := by
  unfold recC
  have e1 : ∀ o, paidB (ps ++ [x]) t o = paidB ps t o := fun o => by rw [paidB_snoc, decide_eq_false h]; simp
  simp only [e1, lastT_snoc, if_neg h]
theorem recC_pay (ps : List Scn) (x : Scn) {o : Nat} (ho : x.op = (o : Int)) (h16 : o < 16) : ((recC ps x.tick).toList.set o (.bool true)).set 16 (.int .i64 x.time) = (recC (ps ++ [x]) x.tick).toList := by
  apply List.ext_getElem?
  intro j
  have hl : (recC ps x.tick).toList.length = 17 := by rw [Array.length_toList]; exact recC_size _ _
  have e1 : ∀ q t (j : Nat), (recC q t).toList[j]? = (recC q t)[j]? := fun q t j => by rw [Array.getElem?_toList]
  rw [List.getElem?_set, List.getElem?_set, List.length_set, hl, e1, e1]
  by_cases h1 : 16 = j
  · subst h1
    rw [if_pos rfl, if_pos (by omega), recC_last, lastT_snoc, if_pos rfl]
  · rw [if_neg h1]
    by_cases h2 : o = j
    · subst h2
      rw [if_pos rfl, if_pos (by omega), recC_paid _ _ h16, paidB_snoc, ho]
      simp
    · rw [if_neg h2]
      by_cases h3 : j < 16
      · rw [recC_paid _ _ h3, recC_paid _ _ h3, paidB_snoc, ho, decide_eq_false (p := (o : Int) = (j : Int)) (by omega)]
        simp
      · rw [Array.getElem?_eq_none (by rw [recC_size]; omega), Array.getElem?_eq_none (by rw [recC_size]; omega)]
theorem set_row {cs : Array Value} {i : Nat} {v : Value} (hi : i < cs.size) (hv : v.cells = #[v]) : (cs.toList.take i ++ v.cells.toList ++ cs.toList.drop (i + 1)).toArray = (cs.toList.set i v).toArray := by
  rw [List.set_eq_take_append_cons_drop, if_pos (by rw [Array.length_toList]; exact hi), hv, List.append_assoc]
  rfl
end Go.Proofs.YtljibjlkjelpbaaGreatDoor

/- The records of all tickets, and the map that leads to them. No program in sight. -/
namespace Go.Proofs.YtljibjlkjelpbaaGreatDoor
open Go.RowKit

def tkAt (tk : List Int) (i : Nat) : Int := tk.getD i 0
def Tix (tk : List Int) : Prop := ∀ i j, i < j → j < tk.length → ¬ tkAt tk i = tkAt tk j
def ptrAt (β : Nat → Nat) (i : Nat) : Value := .pointer (some ⟨β i, 0, none⟩)
def recF (tk : List Int) (β : Nat → Nat) (rt : TypeId) (ps : List Scn) (i : Nat) : Res := Box (β i) rt (recC ps (tkAt tk i))
def mapK (tk : List Int) (β : Nat → Nat) : Nat → List (Int × Value)
  | 0 => []
  | k + 1 => aset (mapK tk β k) (tkAt tk k) (ptrAt β k)
theorem Tix.inj {tk : List Int} (h : Tix tk) {i j : Nat} (hi : i < tk.length) (hj : j < tk.length) (he : tkAt tk i = tkAt tk j) : i = j := by
  rcases Nat.lt_trichotomy i j with h1 | h1 | h1
  · exact absurd he (h i j h1 hj)
  · exact h1
  · exact absurd he.symm (h j i h1 hi)
theorem mapK_old {tk : List Int} {β : Nat → Nat} (h : Tix tk) : ∀ k, k ≤ tk.length → ∀ i, i < k → aget (mapK tk β k) (tkAt tk i) = some (ptrAt β i)
  | 0, _, i, hi => by omega
  | k + 1, hk, i, hi => by
    show aget (aset (mapK tk β k) (tkAt tk k) (ptrAt β k)) (tkAt tk i) = _
    rw [aget_aset]
    split
    · rename_i he
      rw [h.inj (by omega) (by omega) he]
    · rename_i he
      exact mapK_old h k (by omega) i (by
        have : ¬ i = k := fun hc => he (by rw [hc])
        omega)
theorem mapK_none {tk : List Int} {β : Nat → Nat} {t : Int} : ∀ k, (∀ i, i < k → ¬ tkAt tk i = t) → aget (mapK tk β k) t = none
  | 0, _ => rfl
  | k + 1, h => by
    show aget (aset (mapK tk β k) (tkAt tk k) (ptrAt β k)) t = _
    rw [aget_aset, if_neg (h k (by omega))]
    exact mapK_none k fun i hi => h i (by omega)
theorem mapK_congr {tk : List Int} {β β' : Nat → Nat} : ∀ k, (∀ i, i < k → β i = β' i) → mapK tk β k = mapK tk β' k
  | 0, _ => rfl
  | k + 1, h => by
    show aset (mapK tk β k) (tkAt tk k) (ptrAt β k) = aset (mapK tk β' k) (tkAt tk k) (ptrAt β' k)
    rw [mapK_congr k fun i hi => h i (by omega)]
    unfold ptrAt
    rw [h k (by omega)]
theorem tk_has {tk : List Int} {t : Int} (h : hasB tk t = true) : ∃ i, i < tk.length ∧ tkAt tk i = t := by
  obtain ⟨i, hi, he⟩ := List.getElem_of_mem (hasB_iff.1 h)
  exact ⟨i, hi, by unfold tkAt; rw [List.getD_eq_getElem?_getD, List.getElem?_eq_getElem hi]; exact he⟩
theorem tk_not {tk : List Int} {t : Int} (h : hasB tk t = false) : ∀ i, i < tk.length → ¬ tkAt tk i = t := fun i hi he => by
  have : hasB tk t = true := hasB_iff.2 (by
    rw [← he]
    unfold tkAt
    rw [List.getD_eq_getElem?_getD, List.getElem?_eq_getElem hi]
    exact List.getElem_mem hi)
  rw [this] at h
  cases h
/-- One more record. -/
theorem rec_push {tk : List Int} {β : Nat → Nat} {rt : TypeId} {k b : Nat} {ps : List Scn} {L : List Res} : Ent (Box b rt (recC ps (tkAt tk k)) :: Coll k (recF tk β rt ps) :: L) (Coll (k + 1) (recF tk (fun i => if i = k then b else β i) rt ps) :: L) :=
  Ent.trans coll_push (coll_congr fun i hi => by
    unfold setR recF
    by_cases h : i = k
    · subst h; simp
    · simp [h])
theorem rec_take {tk : List Int} {β : Nat → Nat} {rt : TypeId} {n i : Nat} {ps : List Scn} {L : List Res} (hi : i < n) : Ent (Coll n (recF tk β rt ps) :: L) (Box (β i) rt (recC ps (tkAt tk i)) :: Coll n (setR (recF tk β rt ps) i Emp) :: L) := coll_take hi
theorem rec_put {tk : List Int} {β : Nat → Nat} {rt : TypeId} {i : Nat} {ps : List Scn} {x : Scn} {L : List Res} (h : Tix tk) (hi : i < tk.length) (hx : tkAt tk i = x.tick) : Ent (Box (β i) rt (recC (ps ++ [x]) x.tick) :: Coll tk.length (setR (recF tk β rt ps) i Emp) :: L) (Coll tk.length (recF tk β rt (ps ++ [x])) :: L) :=
  Ent.trans (coll_put hi) (coll_congr fun j hj => by
    unfold setR recF
    by_cases hji : j = i
    · subst hji; simp [hx]
    · simp only [if_neg hji]
      rw [recC_other _ _ fun hc => hji (h.inj hj hi (by rw [hx, hc]))])
/-- The row of outcomes, so far. -/
def outRow (l : List Int) (n : Nat) : List Int := l ++ List.replicate (n - l.length) 0
theorem outRow_len {l : List Int} {n : Nat} (h : l.length ≤ n) : (outRow l n).length = n := by simp [outRow]; omega
theorem outRow_set {l : List Int} {n : Nat} (h : l.length < n) (v : Int) : (outRow l n).set l.length v = outRow (l ++ [v]) n := by
  unfold outRow
  rw [List.set_append_right _ _ (Nat.le_refl _), Nat.sub_self]
  obtain ⟨m, hm⟩ : ∃ m, n - l.length = m + 1 := ⟨n - l.length - 1, by omega⟩
  rw [hm, List.replicate_succ, List.set_cons_zero, List.append_assoc, List.length_append]
  have : n - (l.length + [v].length) = m := by simp; omega
  rw [this]
  rfl
theorem outRow_full {l : List Int} : outRow l l.length = l := by simp [outRow]
theorem outRow_nil (n : Nat) : outRow [] n = List.replicate n 0 := by simp [outRow]
end Go.Proofs.YtljibjlkjelpbaaGreatDoor

/- Contracts: tariffs and amounts, of the program and of the chapter. -/
namespace Go.Proofs.YtljibjlkjelpbaaGreatDoor
open Go.RowKit
set_option maxRecDepth 100000
set_option maxHeartbeats 2000000

/-- What the package-level variable holds. -/
def Lay (w : World) : Prop := 0 < w.heap.size ∧ w.cell? ((⟨0, 0, none⟩ : Addr).add (0 * 1)) = some (.int .i64 100000) ∧ w.cell? ((⟨0, 0, none⟩ : Addr).add (1 * 1)) = some (.int .i64 1073741824)
theorem Lay.later {w0 w : World} {L : List Res} (s : St w0 L w) (h : Lay w0) : Lay w := by
  have hb := s.below.block _ h.1
  exact ⟨Nat.lt_of_lt_of_le h.1 s.below.size, (cell_same (by rw [add_block]; exact hb)).trans h.2.1, (cell_same (by rw [add_block]; exact hb)).trans h.2.2⟩
def tarV (r l : Int) : Value := .agg #[.int .i64 r, .int .i64 l]
def tarE (r l : Int) : Int := if (r < 0 ∨ r > 100000) ∨ (l < 0 ∨ l > 1073741824) then 3 else 0
theorem wCheck_ok (w : World) (r l : Int) (hL : Lay w) : Ok Tryz.prog 33 [tarV r l].toArray w fun x _ => x = .int .i64 (tarE r l) := by
  obtain ⟨hLb, hL0, hL1⟩ := hL
  have hLb' : ((⟨0, 0, none⟩ : Addr)).block < w.heap.size := hLb
  unfold tarV
  refine ok_enter Tryz.func33 rfl Tryz.ntmps33 rfl ?_
  focus (refine gc_seq ?_; refine gc_region ?_; refine gw_boxd (v := .agg _) rfl rfl (fun _ => ?_); refine gM rfl rfl (by conv => (lhs; whnf)) ?_; refine gO ?_; refine gc_seq ?_; refine gc_seq ?_; refine gc_region ?_; refine gF rfl rfl rfl ?_; apply gw_d; exact w_load_box rfl rfl rfl .here rfl; refine gF rfl rfl rfl ?_; apply gw_d; exact w_load_box rfl rfl rfl .here rfl; apply gw_d; exact w_buildA (n := 2) (el := 3) (sz := 1) (cells := #[.int .i64 r, .int .i64 l]) (by kernel_rfl) (by kernel_rfl) rfl rfl (by rfl); refine gM rfl rfl (by conv => (lhs; whnf)) ?_; refine gO ?_; refine gc_block ?_)
  refine gc_loopK (σ := Nat) [11, 12, 13, 3, 4, 14, 15, 16, 17, 18, 19, 20, 21, 22, 2, 23, 10] (fun k => [(10, .int .i64 k)]) (fun k => k ≤ 2 ∧ (1 ≤ k → ¬ (r < 0 ∨ r > 100000)) ∧ (2 ≤ k → ¬ (l < 0 ∨ l > 1073741824))) (fun k => 2 - k) 0 ⟨by omega, by omega, by omega⟩ ⟨rfl, trivial⟩ ?_
  rintro k base ⟨hk, h1, h2⟩
  obtain rfl | rfl | rfl : k = 0 ∨ k = 1 ∨ k = 2 := by omega
  · focus (refine gc_seq ?_; refine gc_region ?_; refine gC rfl rfl rfl rfl rfl ?_; refine gO ?_; refine gc_seq ?_; refine gc_if_dec rfl (fun _ => ?_) (fun _ => ?_); refine gc_skip ?_; refine gx_next ?_; refine gc_seq ?_; refine gc_block ?_; refine gc_seq ?_; refine gc_region ?_; refine gM rfl rfl (by conv => (lhs; whnf)) ?_; apply gw_d; exact w_aidx (n := 2) (el := 3) (m := 0) (v := .int .i64 r) (by kernel_rfl) (by kernel_rfl) (by kernel_rfl) rfl rfl rfl rfl rfl (by decide) rfl; refine gM rfl rfl (by conv => (lhs; whnf)) ?_; refine gM rfl rfl (by conv => (lhs; whnf)) ?_; refine gN ?_; refine gM rfl rfl (by conv => (lhs; whnf)) ?_; refine gC rfl rfl rfl rfl rfl ?_; refine gM rfl rfl (by conv => (lhs; whnf)) ?_; refine gw_guard_dec rfl rfl (fun _ => ?_) (fun _ => ?_); refine gU rfl ?_; refine gU rfl ?_; refine gU rfl ?_; refine gU rfl ?_; refine gU rfl ?_; apply gw_d; exact det_pick_t (v := .bool _) rfl rfl rfl rfl; refine gO ?_; refine gc_if_true rfl ?_; refine gc_seq ?_; refine gc_region ?_; refine gM rfl rfl (by conv => (lhs; whnf)) ?_; refine gO ?_; refine gc_ret ?_; refine gx_block_ret ?_; refine gx_then_ret ?_; refine gx_then_ret ?_; refine gx_block_ret ?_; refine gx_then_ret ?_; rotate_left; refine gM rfl rfl (by conv => (lhs; whnf)) ?_; refine gM rfl rfl (by conv => (lhs; whnf)) ?_; apply gw_d; exact w_index_arr (m := 0) rfl rfl rfl rfl rfl (by decide); apply gw_d; exact w_load_at rfl rfl rfl (by assumption) (by assumption); refine gC rfl rfl rfl rfl rfl ?_; apply gw_d; exact det_pick_f (v := .bool _) rfl rfl rfl rfl; refine gO ?_; refine gc_if_dec rfl (fun _ => ?_) (fun _ => ?_); refine gc_seq ?_; refine gc_region ?_; refine gM rfl rfl (by conv => (lhs; whnf)) ?_; refine gO ?_; refine gc_ret ?_; refine gx_block_ret ?_; refine gx_then_ret ?_; refine gx_then_ret ?_; refine gx_block_ret ?_; refine gx_then_ret ?_; rotate_left; refine gc_skip ?_; refine gx_block ?_; refine gx_next ?_; refine gc_region ?_; apply gw_d; exact det_ar rfl rfl rfl rfl rfl (by omega); refine gM rfl rfl (by conv => (lhs; whnf)) ?_; refine gw_nil ?_; rotate_left; refine gc_exit ?_; refine gx_then_exit ?_; refine gx_then_exit ?_; refine gx_block_exit ?_; refine gx_next ?_; refine gc_seq ?_; refine gc_region ?_; refine gM rfl rfl (by conv => (lhs; whnf)) ?_; refine gO ?_; refine gc_ret ?_; rotate_left)
    all_goals first | (exfalso; omega) | skip
    · refine gx_ret1 (v := .int _ _) rfl rfl (fun _ _ => ?_)
      unfold tarE
      rw [if_pos (by omega)]
    · refine gx_ret1 (v := .int _ _) rfl rfl (fun _ _ => ?_)
      unfold tarE
      rw [if_pos (by omega)]
    · exact gx_round 1 ⟨by omega, by omega, by omega⟩ (by omega) (by repeat (first | exact Keeps.refl | refine Keeps.upd rfl ?_ | refine Keeps.sets rfl ?_ | refine Keeps.havoc rfl ?_)) ⟨rfl, trivial⟩ (Sub.all _)
  · focus (refine gc_seq ?_; refine gc_region ?_; refine gC rfl rfl rfl rfl rfl ?_; refine gO ?_; refine gc_seq ?_; refine gc_if_dec rfl (fun _ => ?_) (fun _ => ?_); refine gc_skip ?_; refine gx_next ?_; refine gc_seq ?_; refine gc_block ?_; refine gc_seq ?_; refine gc_region ?_; refine gM rfl rfl (by conv => (lhs; whnf)) ?_; apply gw_d; exact w_aidx (n := 2) (el := 3) (m := 1) (v := .int .i64 l) (by kernel_rfl) (by kernel_rfl) (by kernel_rfl) rfl rfl rfl rfl rfl (by decide) rfl; refine gM rfl rfl (by conv => (lhs; whnf)) ?_; refine gM rfl rfl (by conv => (lhs; whnf)) ?_; refine gN ?_; refine gM rfl rfl (by conv => (lhs; whnf)) ?_; refine gC rfl rfl rfl rfl rfl ?_; refine gM rfl rfl (by conv => (lhs; whnf)) ?_; refine gw_guard_dec rfl rfl (fun _ => ?_) (fun _ => ?_); refine gU rfl ?_; refine gU rfl ?_; refine gU rfl ?_; refine gU rfl ?_; refine gU rfl ?_; apply gw_d; exact det_pick_t (v := .bool _) rfl rfl rfl rfl; refine gO ?_; refine gc_if_true rfl ?_; refine gc_seq ?_; refine gc_region ?_; refine gM rfl rfl (by conv => (lhs; whnf)) ?_; refine gO ?_; refine gc_ret ?_; refine gx_block_ret ?_; refine gx_then_ret ?_; refine gx_then_ret ?_; refine gx_block_ret ?_; refine gx_then_ret ?_; rotate_left; refine gM rfl rfl (by conv => (lhs; whnf)) ?_; refine gM rfl rfl (by conv => (lhs; whnf)) ?_; apply gw_d; exact w_index_arr (m := 1) rfl rfl rfl rfl rfl (by decide); apply gw_d; exact w_load_at rfl rfl rfl (by assumption) (by assumption); refine gC rfl rfl rfl rfl rfl ?_; apply gw_d; exact det_pick_f (v := .bool _) rfl rfl rfl rfl; refine gO ?_; refine gc_if_dec rfl (fun _ => ?_) (fun _ => ?_); refine gc_seq ?_; refine gc_region ?_; refine gM rfl rfl (by conv => (lhs; whnf)) ?_; refine gO ?_; refine gc_ret ?_; refine gx_block_ret ?_; refine gx_then_ret ?_; refine gx_then_ret ?_; refine gx_block_ret ?_; refine gx_then_ret ?_; rotate_left; refine gc_skip ?_; refine gx_block ?_; refine gx_next ?_; refine gc_region ?_; apply gw_d; exact det_ar rfl rfl rfl rfl rfl (by omega); refine gM rfl rfl (by conv => (lhs; whnf)) ?_; refine gw_nil ?_; rotate_left; refine gc_exit ?_; refine gx_then_exit ?_; refine gx_then_exit ?_; refine gx_block_exit ?_; refine gx_next ?_; refine gc_seq ?_; refine gc_region ?_; refine gM rfl rfl (by conv => (lhs; whnf)) ?_; refine gO ?_; refine gc_ret ?_; rotate_left)
    all_goals first | (exfalso; omega) | skip
    · refine gx_ret1 (v := .int _ _) rfl rfl (fun _ _ => ?_)
      unfold tarE
      rw [if_pos (by omega)]
    · refine gx_ret1 (v := .int _ _) rfl rfl (fun _ _ => ?_)
      unfold tarE
      rw [if_pos (by omega)]
    · exact gx_round 2 ⟨by omega, by omega, by omega⟩ (by omega) (by repeat (first | exact Keeps.refl | refine Keeps.upd rfl ?_ | refine Keeps.sets rfl ?_ | refine Keeps.havoc rfl ?_)) ⟨rfl, trivial⟩ (Sub.all _)
  · focus (refine gc_seq ?_; refine gc_region ?_; refine gC rfl rfl rfl rfl rfl ?_; refine gO ?_; refine gc_seq ?_; refine gc_if_dec rfl (fun _ => ?_) (fun _ => ?_); refine gc_skip ?_; refine gx_next ?_; refine gc_seq ?_; refine gc_block ?_; refine gc_seq ?_; refine gc_region ?_; refine gM rfl rfl (by conv => (lhs; whnf)) ?_; rotate_left; refine gc_exit ?_; refine gx_then_exit ?_; refine gx_then_exit ?_; refine gx_block_exit ?_; refine gx_next ?_; refine gc_seq ?_; refine gc_region ?_; refine gM rfl rfl (by conv => (lhs; whnf)) ?_; refine gO ?_; refine gc_ret ?_; rotate_left)
    all_goals first | (exfalso; omega) | skip
    refine gx_ret1 (v := .int _ _) rfl rfl (fun _ _ => ?_)
    unfold tarE
    rw [if_neg (by omega)]
def amtE (r l m c : Int) : Int := if ¬ tarE r l = 0 then tarE r l else if (m < 0 ∨ m > 10000) ∨ (c < 0 ∨ c > 1000) then 3 else 0
def amtV (r l m c : Int) : Int := if amtE r l m c = 0 then (m * c * r + 5000) / 10000 else 0
theorem tar_zero {r l : Int} (h : tarE r l = 0) : (0 ≤ r ∧ r ≤ 100000) ∧ (0 ≤ l ∧ l ≤ 1073741824) := by
  unfold tarE at h
  split at h
  · cases h
  · omega
theorem amt_zero {r l m c : Int} (h : amtE r l m c = 0) : tarE r l = 0 ∧ (0 ≤ m ∧ m ≤ 10000) ∧ (0 ≤ c ∧ c ≤ 1000) := by
  unfold amtE at h
  split at h
  · rename_i h1; exact absurd h h1
  · rename_i h1
    split at h
    · cases h
    · exact ⟨by simpa using h1, by omega⟩
theorem mul_le {a b A B : Int} (ha : 0 ≤ a) (hA : a ≤ A) (hb : 0 ≤ b) (hB : b ≤ B) : 0 ≤ a * b ∧ a * b ≤ A * B := ⟨Int.mul_nonneg ha hb, Int.le_trans (Int.mul_le_mul_of_nonneg_right hA hb) (Int.mul_le_mul_of_nonneg_left hB (by omega))⟩
theorem amt_range {r l m c : Int} (h : amtE r l m c = 0) : (0 ≤ m * c ∧ m * c ≤ 10000000) ∧ (0 ≤ m * c * r ∧ m * c * r ≤ 1000000000000) := by
  obtain ⟨h1, h2, h3⟩ := amt_zero h
  obtain ⟨h4, _⟩ := tar_zero h1
  have a := mul_le h2.1 h2.2 h3.1 h3.2
  have b := mul_le a.1 a.2 h4.1 h4.2
  exact ⟨by omega, by omega⟩
theorem wAmount_ok (w : World) (r l m c : Int) (hL : Lay w) : Ok Tryz.prog 30 [tarV r l, .int .i64 m, .int .i64 c].toArray w fun x _ => x = .tuple #[.int .i64 (amtV r l m c), .int .i64 (amtE r l m c)] := by
  have hC : ∀ (L : List Res) (w' : World), St w L w' → Ok Tryz.prog 33 [tarV r l].toArray w' fun x _ => x = .int .i64 (tarE r l) := fun L w' s => wCheck_ok w' r l (hL.later s)
  by_cases he : amtE r l m c = 0
  · obtain ⟨h1, h2, h3⟩ := amt_zero he
    obtain ⟨r1, r2⟩ := amt_range he
    rw [h1] at hC
    unfold amtV
    rw [if_pos he, he]
    unfold tarV at hC ⊢
    refine ok_enter Tryz.func30 rfl Tryz.ntmps30 rfl ?_
    focus (refine gc_seq ?_; refine gc_region ?_; refine gw_boxd (v := .agg _) rfl rfl (fun _ => ?_); refine gM rfl rfl (by conv => (lhs; whnf)) ?_; refine gM rfl rfl (by conv => (lhs; whnf)) ?_; refine gO ?_; refine gc_seq ?_; refine gc_seq ?_; refine gc_region ?_; apply gw_d; exact w_load_boxN rfl rfl rfl .here rfl; apply gw_d; exact w_call rfl rfl (hC _) rfl; refine gM rfl rfl (by conv => (lhs; whnf)) ?_; refine gN ?_; refine gM rfl rfl (by conv => (lhs; whnf)) ?_; refine gC rfl rfl rfl rfl rfl ?_; refine gO ?_; refine gc_if_dec rfl (fun _ => ?_) (fun _ => ?_); refine gc_seq ?_; refine gc_region ?_; refine gM rfl rfl (by conv => (lhs; whnf)) ?_; refine gM rfl rfl (by conv => (lhs; whnf)) ?_; refine gM rfl rfl (by conv => (lhs; whnf)) ?_; refine gO ?_; refine gc_ret ?_; refine gx_then_ret ?_; rotate_left; refine gc_skip ?_; refine gx_next ?_; refine gc_seq ?_; refine gc_seq ?_; refine gc_region ?_; refine gM rfl rfl (by conv => (lhs; whnf)) ?_; refine gC rfl rfl rfl rfl rfl ?_; refine gM rfl rfl (by conv => (lhs; whnf)) ?_; refine gw_guard_dec rfl rfl (fun _ => ?_) (fun _ => ?_); refine gU rfl ?_; refine gU rfl ?_; apply gw_d; exact det_pick_t (v := .bool _) rfl rfl rfl rfl; refine gM rfl rfl (by conv => (lhs; whnf)) ?_; refine gU rfl ?_; refine gU rfl ?_; apply gw_d; exact det_pick_t (v := .bool _) rfl rfl rfl rfl; refine gM rfl rfl (by conv => (lhs; whnf)) ?_; refine gU rfl ?_; refine gU rfl ?_; apply gw_d; exact det_pick_t (v := .bool _) rfl rfl rfl rfl; refine gO ?_; refine gc_if_true rfl ?_; refine gc_seq ?_; refine gc_region ?_; refine gM rfl rfl (by conv => (lhs; whnf)) ?_; refine gM rfl rfl (by conv => (lhs; whnf)) ?_; refine gO ?_; refine gc_ret ?_; refine gx_then_ret ?_; rotate_left; refine gM rfl rfl (by conv => (lhs; whnf)) ?_; refine gC rfl rfl rfl rfl rfl ?_; apply gw_d; exact det_pick_f (v := .bool _) rfl rfl rfl rfl; refine gM rfl rfl (by conv => (lhs; whnf)) ?_; refine gw_guard_dec rfl rfl (fun _ => ?_) (fun _ => ?_); refine gU rfl ?_; refine gU rfl ?_; apply gw_d; exact det_pick_t (v := .bool _) rfl rfl rfl rfl; refine gM rfl rfl (by conv => (lhs; whnf)) ?_; refine gU rfl ?_; refine gU rfl ?_; apply gw_d; exact det_pick_t (v := .bool _) rfl rfl rfl rfl; refine gO ?_; refine gc_if_true rfl ?_; refine gc_seq ?_; refine gc_region ?_; refine gM rfl rfl (by conv => (lhs; whnf)) ?_; refine gM rfl rfl (by conv => (lhs; whnf)) ?_; refine gO ?_; refine gc_ret ?_; refine gx_then_ret ?_; rotate_left; refine gM rfl rfl (by conv => (lhs; whnf)) ?_; refine gC rfl rfl rfl rfl rfl ?_; apply gw_d; exact det_pick_f (v := .bool _) rfl rfl rfl rfl; refine gM rfl rfl (by conv => (lhs; whnf)) ?_; refine gw_guard_dec rfl rfl (fun _ => ?_) (fun _ => ?_); refine gU rfl ?_; refine gU rfl ?_; apply gw_d; exact det_pick_t (v := .bool _) rfl rfl rfl rfl; refine gO ?_; refine gc_if_true rfl ?_; refine gc_seq ?_; refine gc_region ?_; refine gM rfl rfl (by conv => (lhs; whnf)) ?_; refine gM rfl rfl (by conv => (lhs; whnf)) ?_; refine gO ?_; refine gc_ret ?_; refine gx_then_ret ?_; rotate_left; refine gM rfl rfl (by conv => (lhs; whnf)) ?_; refine gC rfl rfl rfl rfl rfl ?_; apply gw_d; exact det_pick_f (v := .bool _) rfl rfl rfl rfl; refine gO ?_; refine gc_if_dec rfl (fun _ => ?_) (fun _ => ?_); refine gc_seq ?_; refine gc_region ?_; refine gM rfl rfl (by conv => (lhs; whnf)) ?_; refine gM rfl rfl (by conv => (lhs; whnf)) ?_; refine gO ?_; refine gc_ret ?_; refine gx_then_ret ?_; rotate_left; refine gc_skip ?_; refine gx_next ?_; refine gc_seq ?_; refine gc_region ?_; refine gM rfl rfl (by conv => (lhs; whnf)) ?_; refine gM rfl rfl (by conv => (lhs; whnf)) ?_; apply gw_d; exact det_ar rfl rfl rfl rfl rfl (by omega); refine gF rfl rfl rfl ?_; apply gw_d; exact w_load_box rfl rfl rfl .here rfl; apply gw_d; exact det_ar rfl rfl rfl rfl rfl (by omega); apply gw_d; exact det_ar rfl rfl rfl rfl rfl (by omega); apply gw_d; exact det_quo rfl rfl rfl rfl (by omega) (by omega) (by omega); refine gM rfl rfl (by conv => (lhs; whnf)) ?_; refine gM rfl rfl (by conv => (lhs; whnf)) ?_; refine gO ?_; refine gc_ret ?_; rotate_left)
    all_goals first | (exfalso; omega) | skip
    refine gx_ret2 (u := .int _ _) (v := .int _ _) rfl rfl rfl (fun _ _ => ?_)
    rfl
  · unfold amtV
    rw [if_neg he]
    by_cases h1 : tarE r l = 0
    · have hE : amtE r l m c = 3 ∧ ((m < 0 ∨ m > 10000) ∨ (c < 0 ∨ c > 1000)) := by
        unfold amtE at he ⊢
        rw [if_neg (by rw [h1]; decide)] at he ⊢
        split
        · rename_i h2; exact ⟨rfl, h2⟩
        · rename_i h2; rw [if_neg h2] at he; exact absurd rfl he
      rw [hE.1]
      have h2 := hE.2
      rw [h1] at hC
      unfold tarV at hC ⊢
      refine ok_enter Tryz.func30 rfl Tryz.ntmps30 rfl ?_
      focus (refine gc_seq ?_; refine gc_region ?_; refine gw_boxd (v := .agg _) rfl rfl (fun _ => ?_); refine gM rfl rfl (by conv => (lhs; whnf)) ?_; refine gM rfl rfl (by conv => (lhs; whnf)) ?_; refine gO ?_; refine gc_seq ?_; refine gc_seq ?_; refine gc_region ?_; apply gw_d; exact w_load_boxN rfl rfl rfl .here rfl; apply gw_d; exact w_call rfl rfl (hC _) rfl; refine gM rfl rfl (by conv => (lhs; whnf)) ?_; refine gN ?_; refine gM rfl rfl (by conv => (lhs; whnf)) ?_; refine gC rfl rfl rfl rfl rfl ?_; refine gO ?_; refine gc_if_dec rfl (fun _ => ?_) (fun _ => ?_); refine gc_seq ?_; refine gc_region ?_; refine gM rfl rfl (by conv => (lhs; whnf)) ?_; refine gM rfl rfl (by conv => (lhs; whnf)) ?_; refine gM rfl rfl (by conv => (lhs; whnf)) ?_; refine gO ?_; refine gc_ret ?_; refine gx_then_ret ?_; rotate_left; refine gc_skip ?_; refine gx_next ?_; refine gc_seq ?_; refine gc_seq ?_; refine gc_region ?_; refine gM rfl rfl (by conv => (lhs; whnf)) ?_; refine gC rfl rfl rfl rfl rfl ?_; refine gM rfl rfl (by conv => (lhs; whnf)) ?_; refine gw_guard_dec rfl rfl (fun _ => ?_) (fun _ => ?_); refine gU rfl ?_; refine gU rfl ?_; apply gw_d; exact det_pick_t (v := .bool _) rfl rfl rfl rfl; refine gM rfl rfl (by conv => (lhs; whnf)) ?_; refine gU rfl ?_; refine gU rfl ?_; apply gw_d; exact det_pick_t (v := .bool _) rfl rfl rfl rfl; refine gM rfl rfl (by conv => (lhs; whnf)) ?_; refine gU rfl ?_; refine gU rfl ?_; apply gw_d; exact det_pick_t (v := .bool _) rfl rfl rfl rfl; refine gO ?_; refine gc_if_true rfl ?_; refine gc_seq ?_; refine gc_region ?_; refine gM rfl rfl (by conv => (lhs; whnf)) ?_; refine gM rfl rfl (by conv => (lhs; whnf)) ?_; refine gO ?_; refine gc_ret ?_; refine gx_then_ret ?_; rotate_left; refine gM rfl rfl (by conv => (lhs; whnf)) ?_; refine gC rfl rfl rfl rfl rfl ?_; apply gw_d; exact det_pick_f (v := .bool _) rfl rfl rfl rfl; refine gM rfl rfl (by conv => (lhs; whnf)) ?_; refine gw_guard_dec rfl rfl (fun _ => ?_) (fun _ => ?_); refine gU rfl ?_; refine gU rfl ?_; apply gw_d; exact det_pick_t (v := .bool _) rfl rfl rfl rfl; refine gM rfl rfl (by conv => (lhs; whnf)) ?_; refine gU rfl ?_; refine gU rfl ?_; apply gw_d; exact det_pick_t (v := .bool _) rfl rfl rfl rfl; refine gO ?_; refine gc_if_true rfl ?_; refine gc_seq ?_; refine gc_region ?_; refine gM rfl rfl (by conv => (lhs; whnf)) ?_; refine gM rfl rfl (by conv => (lhs; whnf)) ?_; refine gO ?_; refine gc_ret ?_; refine gx_then_ret ?_; rotate_left; refine gM rfl rfl (by conv => (lhs; whnf)) ?_; refine gC rfl rfl rfl rfl rfl ?_; apply gw_d; exact det_pick_f (v := .bool _) rfl rfl rfl rfl; refine gM rfl rfl (by conv => (lhs; whnf)) ?_; refine gw_guard_dec rfl rfl (fun _ => ?_) (fun _ => ?_); refine gU rfl ?_; refine gU rfl ?_; apply gw_d; exact det_pick_t (v := .bool _) rfl rfl rfl rfl; refine gO ?_; refine gc_if_true rfl ?_; refine gc_seq ?_; refine gc_region ?_; refine gM rfl rfl (by conv => (lhs; whnf)) ?_; refine gM rfl rfl (by conv => (lhs; whnf)) ?_; refine gO ?_; refine gc_ret ?_; refine gx_then_ret ?_; rotate_left; refine gM rfl rfl (by conv => (lhs; whnf)) ?_; refine gC rfl rfl rfl rfl rfl ?_; apply gw_d; exact det_pick_f (v := .bool _) rfl rfl rfl rfl; refine gO ?_; refine gc_if_dec rfl (fun _ => ?_) (fun _ => ?_); refine gc_seq ?_; refine gc_region ?_; refine gM rfl rfl (by conv => (lhs; whnf)) ?_; refine gM rfl rfl (by conv => (lhs; whnf)) ?_; refine gO ?_; refine gc_ret ?_; refine gx_then_ret ?_; rotate_left; refine gc_skip ?_; refine gx_next ?_; refine gc_seq ?_; refine gc_region ?_; refine gM rfl rfl (by conv => (lhs; whnf)) ?_; refine gM rfl rfl (by conv => (lhs; whnf)) ?_; apply gw_d; exact det_ar rfl rfl rfl rfl rfl (by omega); refine gF rfl rfl rfl ?_; apply gw_d; exact w_load_box rfl rfl rfl .here rfl; apply gw_d; exact det_ar rfl rfl rfl rfl rfl (by omega); apply gw_d; exact det_ar rfl rfl rfl rfl rfl (by omega); apply gw_d; exact det_quo rfl rfl rfl rfl (by omega) (by omega) (by omega); refine gM rfl rfl (by conv => (lhs; whnf)) ?_; refine gM rfl rfl (by conv => (lhs; whnf)) ?_; refine gO ?_; refine gc_ret ?_; rotate_left)
      all_goals first | (exfalso; omega) | skip
      all_goals (refine gx_ret2 (u := .int _ _) (v := .int _ _) rfl rfl rfl (fun _ _ => ?_); rfl)
    · have hE : amtE r l m c = tarE r l := by
        unfold amtE
        rw [if_pos h1]
      rw [hE]
      unfold tarV at hC ⊢
      refine ok_enter Tryz.func30 rfl Tryz.ntmps30 rfl ?_
      focus (refine gc_seq ?_; refine gc_region ?_; refine gw_boxd (v := .agg _) rfl rfl (fun _ => ?_); refine gM rfl rfl (by conv => (lhs; whnf)) ?_; refine gM rfl rfl (by conv => (lhs; whnf)) ?_; refine gO ?_; refine gc_seq ?_; refine gc_seq ?_; refine gc_region ?_; apply gw_d; exact w_load_boxN rfl rfl rfl .here rfl; apply gw_d; exact w_call rfl rfl (hC _) rfl; refine gM rfl rfl (by conv => (lhs; whnf)) ?_; refine gN ?_; refine gM rfl rfl (by conv => (lhs; whnf)) ?_; refine gC rfl rfl rfl rfl rfl ?_; refine gO ?_)
      refine gc_if_dec rfl (fun _ => ?_) (fun h => absurd h1 h)
      focus (refine gc_seq ?_; refine gc_region ?_; refine gM rfl rfl (by conv => (lhs; whnf)) ?_; refine gM rfl rfl (by conv => (lhs; whnf)) ?_; refine gM rfl rfl (by conv => (lhs; whnf)) ?_; refine gO ?_; refine gc_ret ?_; refine gx_then_ret ?_)
      refine gx_ret2 (u := .int _ _) (v := .int _ _) rfl rfl rfl (fun _ _ => ?_)
      rfl
end Go.Proofs.YtljibjlkjelpbaaGreatDoor

/- Contracts: the chapter's amounts; totals and shares, of the program and of the chapter. -/
namespace Go.Proofs.YtljibjlkjelpbaaGreatDoor
open Go.RowKit
set_option maxRecDepth 100000
set_option maxHeartbeats 2000000

def moneyB (n : Int) : Bool := decide (0 ≤ n) && decide (n ≤ 1099511627776)
theorem money_iff {n : Int} : moneyB n = true ↔ 0 ≤ n ∧ n ≤ 1099511627776 := by unfold moneyB; simp
theorem inRange_ok (w : World) (n : Int) : Ok Tryz.prog 40 [.int .i64 n].toArray w fun x _ => x = .bool (moneyB n) := by
  refine ok_enter Tryz.func40 rfl Tryz.ntmps40 rfl ?_
  focus (refine gc_seq ?_; refine gc_region ?_; refine gM rfl rfl (by conv => (lhs; whnf)) ?_; refine gN ?_; refine gM rfl rfl (by conv => (lhs; whnf)) ?_; refine gC rfl rfl rfl rfl rfl ?_; refine gM rfl rfl (by conv => (lhs; whnf)) ?_; refine gw_guard_dec rfl rfl (fun _ => ?_) (fun _ => ?_); refine gM rfl rfl (by conv => (lhs; whnf)) ?_; refine gC rfl rfl rfl rfl rfl ?_; apply gw_d; exact det_pick_t (v := .bool _) rfl rfl rfl rfl; refine gM rfl rfl (by conv => (lhs; whnf)) ?_; refine gO ?_; refine gc_ret ?_; rotate_left; refine gU rfl ?_; refine gU rfl ?_; apply gw_d; exact det_pick_f (v := .bool _) rfl rfl rfl rfl; refine gM rfl rfl (by conv => (lhs; whnf)) ?_; refine gO ?_; refine gc_ret ?_; rotate_left)
  · refine gx_ret1 (v := .bool _) rfl rfl (fun _ _ => ?_)
    unfold moneyB
    rename_i h
    rw [decide_eq_true (show 0 ≤ n by omega)]
    rfl
  · refine gx_ret1 (v := .bool _) rfl rfl (fun _ _ => ?_)
    unfold moneyB
    rename_i h
    rw [decide_eq_false (show ¬ 0 ≤ n by omega)]
    rfl
theorem Sl.pay {w : World} {B : Nat} {v : Value} {l : List Pay} (h : Sl rPay w B v l) : ∃ A c, v = .slice A l.length c ∧ l.length ≤ c ∧ l.length ≤ 9223372036854775807 ∧
    ∀ k (hk : k < l.length), ∃ ad, A = some ad ∧ ad.block < B ∧ (∀ j u, [Value.int .i64 l[k].who, .int .i64 l[k].work, .int .i64 l[k].top][j]? = some u → w.cell? (ad.add (k * 3 + j)) = some u) ∧ inI64 l[k].who ∧ inI64 l[k].work ∧ inI64 l[k].top := by
  obtain ⟨A, c, hv, h1, h2, h3⟩ := h
  refine ⟨A, c, hv, h1, by unfold maxLen at h2; omega, fun k hk => ?_⟩
  obtain ⟨ad, cs, ha, hlt, hc, hr⟩ := h3 k hk
  obtain ⟨rfl, hr⟩ := hr
  exact ⟨ad, ha, hlt, hc, hr⟩
end Go.Proofs.YtljibjlkjelpbaaGreatDoor

/- Contracts: shares, of the program and of the chapter. -/
namespace Go.Proofs.YtljibjlkjelpbaaGreatDoor
open Go.RowKit
set_option maxRecDepth 100000
set_option maxHeartbeats 2000000

def shE (a p : Int) : Int := if moneyB a = false ∨ p < 1 ∨ p > 40 then 3 else 0
def shF (a : Int) (n i : Nat) : Int := if (i : Int) < a % n then a / n + 1 else a / n
def shL (a : Int) (n : Nat) : List Int := (List.range n).map (shF a n)
def shP (a : Int) (n k : Nat) : List Int := (List.range n).map fun i => if i < k then shF a n i else 0
theorem shL_len (a : Int) (n : Nat) : (shL a n).length = n := by simp [shL]
theorem shP_len (a : Int) (n k : Nat) : (shP a n k).length = n := by simp [shP]
theorem shP_zero (a : Int) (n : Nat) : shP a n 0 = List.replicate n 0 := by
  apply List.ext_getElem <;> simp [shP]
theorem shP_full (a : Int) (n : Nat) : shP a n n = shL a n := by
  apply List.ext_getElem
  · simp [shP, shL]
  · intro i h1 h2
    simp only [shP, List.length_map, List.length_range] at h1
    simp [shP, shL, h1]
theorem shP_set (a : Int) {n k : Nat} (_hk : k < n) (v : Int) : (shP a n k).set k v = (List.range n).map fun i => if i < k then shF a n i else if i = k then v else 0 := by
  apply List.ext_getElem
  · simp [shP]
  · intro i h1 h2
    simp only [shP, List.length_set, List.length_map, List.length_range] at h1
    simp only [shP, List.getElem_set, List.getElem_map, List.getElem_range]
    by_cases h : k = i
    · subst h; simp
    · have : ¬ i = k := fun h' => h h'.symm
      simp [h, this]
theorem shP_next (a : Int) {n k : Nat} (hk : k < n) : (shP a n k).set k (shF a n k) = shP a n (k + 1) := by
  rw [shP_set a hk]
  unfold shP
  apply List.map_congr_left
  intro i _
  by_cases h1 : i < k
  · rw [if_pos h1, if_pos (by omega)]
  · by_cases h2 : i = k
    · subst h2; rw [if_neg h1, if_pos rfl, if_pos (by omega)]
    · rw [if_neg h1, if_neg h2, if_neg (by omega)]
theorem sh_zero {a p : Int} (h : shE a p = 0) : (0 ≤ a ∧ a ≤ 1099511627776) ∧ 1 ≤ p ∧ p ≤ 40 := by
  unfold shE at h
  split at h
  · cases h
  · rename_i h1
    refine ⟨money_iff.1 ?_, by omega⟩
    cases h2 : moneyB a with
    | true => rfl
    | false => exact absurd (.inl h2) h1
theorem sh_bad {a p : Int} (h : ¬ shE a p = 0) : shE a p = 3 ∧ (moneyB a = false ∨ p < 1 ∨ p > 40) := by
  unfold shE at h ⊢
  split
  · rename_i h1; exact ⟨rfl, h1⟩
  · rename_i h1; rw [if_neg h1] at h; exact absurd rfl h
theorem shF_range {a : Int} {n i : Nat} (h0 : 0 ≤ a) (h1 : a ≤ 1099511627776) : 0 ≤ shF a n i ∧ shF a n i ≤ 1099511627777 := by
  have h2 : 0 ≤ a / (n : Int) := Int.ediv_nonneg h0 (by omega)
  have h3 : a / (n : Int) ≤ a := Int.ediv_le_self _ h0
  unfold shF
  split <;> omega
theorem wShare_good (w : World) (a : Int) (n : Nat) (he : shE a n = 0) : OkM Tryz.prog 36 [.int .i64 a, .int .i64 (n : Int)].toArray w (fun b : Nat => .tuple #[.slice (some ⟨b, 0, none⟩) n n, .int .i64 0]) (fun b => [Box b 3 ((shL a n).map (Value.int .i64)).toArray]) := by
  obtain ⟨ha, hn1, hn2⟩ := sh_zero he
  have hmb : moneyB a = true := money_iff.2 ha
  have c1 : ∀ (L : List Res) (w' : World), St w L w' → Ok Tryz.prog 40 [.int .i64 a].toArray w' fun x _ => x = .bool true := fun _ w' _ => by have := inRange_ok w' a; rw [hmb] at this; exact this
  unfold OkM
  refine ok_enter Tryz.func36 rfl Tryz.ntmps36 rfl ?_
  focus (refine gc_seq ?_; refine gc_region ?_; refine gM rfl rfl (by conv => (lhs; whnf)) ?_; refine gM rfl rfl (by conv => (lhs; whnf)) ?_; refine gO ?_; refine gc_seq ?_; refine gc_seq ?_; refine gc_region ?_; refine gM rfl rfl (by conv => (lhs; whnf)) ?_; apply gw_d; exact w_call rfl rfl (c1 _) rfl; apply gw_d; exact det_not_ rfl rfl rfl; refine gM rfl rfl (by conv => (lhs; whnf)) ?_; refine gM rfl rfl (by conv => (lhs; whnf)) ?_; refine gC rfl rfl rfl rfl rfl ?_; apply gw_d; exact det_pick_f (v := .bool _) rfl rfl rfl rfl; refine gM rfl rfl (by conv => (lhs; whnf)) ?_; refine gw_guard_dec rfl rfl (fun _ => ?_) (fun _ => ?_); refine gU rfl ?_; refine gU rfl ?_; apply gw_d; exact det_pick_t (v := .bool _) rfl rfl rfl rfl; refine gO ?_; refine gc_if_true rfl ?_; refine gc_seq ?_; refine gc_region ?_; refine gM rfl rfl (by conv => (lhs; whnf)) ?_; refine gM rfl rfl (by conv => (lhs; whnf)) ?_; refine gO ?_; refine gc_ret ?_; refine gx_then_ret ?_; rotate_left; refine gM rfl rfl (by conv => (lhs; whnf)) ?_; refine gC rfl rfl rfl rfl rfl ?_; apply gw_d; exact det_pick_f (v := .bool _) rfl rfl rfl rfl; refine gO ?_; refine gc_if_dec rfl (fun _ => ?_) (fun _ => ?_); refine gc_seq ?_; refine gc_region ?_; refine gM rfl rfl (by conv => (lhs; whnf)) ?_; refine gM rfl rfl (by conv => (lhs; whnf)) ?_; refine gO ?_; refine gc_ret ?_; refine gx_then_ret ?_; rotate_left; refine gc_skip ?_; refine gx_next ?_; refine gc_seq ?_; refine gc_region ?_; refine gM rfl rfl (by conv => (lhs; whnf)) ?_; rotate_left)
  all_goals first | (exfalso; omega) | skip
  refine gw_make1 (n := n) rfl rfl rfl rfl rfl (by omega) (by omega) rfl (fun b => ?_)
  rw [show Array.replicate n ((Value.int .i64 0).cells.getD 0 undef) = ((shP a n 0).map (Value.int .i64)).toArray from by rw [shP_zero]; exact row_make (Value.int .i64) n 0]
  focus (refine gM rfl rfl (by conv => (lhs; whnf)) ?_; refine gO ?_; refine gc_seq ?_; refine gc_seq ?_; refine gc_region ?_; refine gM rfl rfl (by conv => (lhs; whnf)) ?_; refine gL rfl rfl rfl ?_; refine gM rfl rfl (by conv => (lhs; whnf)) ?_; refine gO ?_; refine gc_block ?_)
  refine gc_loop (σ := Nat) [24, 25, 7, 26, 27, 28, 29, 30, 31, 32, 33, 34, 35, 36, 37, 38, 39, 40, 41, 42, 43, 23] (fun k => [(23, .int .i64 k)]) (fun k => [Box b 3 ((shP a n k).map (Value.int .i64)).toArray]) (fun k => k ≤ n) (fun k => n - k) 0 (Nat.zero_le _) ⟨rfl, trivial⟩ (.cons .here .nil) ?_
  rintro k base hk
  have hpl := shP_len a n k
  focus (refine gc_seq ?_; refine gc_region ?_; refine gC rfl rfl rfl rfl rfl ?_; refine gO ?_; refine gc_seq ?_)
  refine gc_if_dec rfl (fun h => ?_) (fun h => ?_)
  · have hlt : k < n := by omega
    focus (refine gc_skip ?_; refine gx_next ?_; refine gc_seq ?_; refine gc_block ?_; refine gc_seq ?_; refine gc_region ?_; refine gM rfl rfl (by conv => (lhs; whnf)) ?_; refine gM rfl rfl (by conv => (lhs; whnf)) ?_; refine gN ?_; refine gM rfl rfl (by conv => (lhs; whnf)) ?_; refine gM rfl rfl (by conv => (lhs; whnf)) ?_; refine gM rfl rfl (by conv => (lhs; whnf)) ?_; refine gM rfl rfl (by conv => (lhs; whnf)) ?_; apply gw_d; exact det_quo rfl rfl rfl rfl (by omega) (by omega) (by omega); apply gw_d; exact w_index rfl rfl rfl rfl (by with_reducible exact rfl) (by omega))
    refine w_store_row (n := 1) (v := .int .i64 (a / (n : Int))) rfl rfl rfl rfl rfl .here (by simp; omega) (row_set (Value.int .i64) (by omega) _) ?_
    have hg : ((((shP a n k).set k (a / (n : Int))).map (Value.int .i64)).toArray)[k * 1]? = some (.int .i64 (((shP a n k).set k (a / (n : Int))).getD k 0)) := row_get (Value.int .i64) 0 (by simp; omega)
    have hg2 : ((shP a n k).set k (a / (n : Int))).getD k 0 = a / (n : Int) := by simp [hpl, hlt]
    rw [hg2] at hg
    have hr := shF_range (n := n) (i := k) ha.1 ha.2
    have hq : a / (n : Int) ≤ a := Int.ediv_le_self _ ha.1
    have hq0 : 0 ≤ a / (n : Int) := Int.ediv_nonneg ha.1 (by omega)
    focus (refine gN ?_; refine gM rfl rfl (by conv => (lhs; whnf)) ?_; refine gM rfl rfl (by conv => (lhs; whnf)) ?_; refine gM rfl rfl (by conv => (lhs; whnf)) ?_; apply gw_d; exact det_rem rfl rfl rfl rfl (by omega) (by omega); refine gC rfl rfl rfl rfl rfl ?_; refine gO ?_)
    refine gc_if_dec rfl (fun h2 => ?_) (fun h2 => ?_)
    · focus (refine gc_region ?_; refine gM rfl rfl (by conv => (lhs; whnf)) ?_; refine gM rfl rfl (by conv => (lhs; whnf)) ?_; apply gw_d; exact w_index rfl rfl rfl rfl (by with_reducible exact rfl) (by omega); apply gw_d; exact w_load_row rfl rfl rfl .here hg; apply gw_d; exact det_ar rfl rfl rfl rfl rfl (by omega); apply gw_d; exact w_index rfl rfl rfl rfl (by with_reducible exact rfl) (by omega))
      refine w_store_row (n := 1) (v := .int .i64 (a / (n : Int) + 1)) rfl rfl rfl rfl rfl .here (by simp; omega) (row_set (Value.int .i64) (by simp; omega) _) ?_
      focus (refine gw_nil ?_; refine gx_block ?_; refine gx_next ?_; refine gc_region ?_; apply gw_d; exact det_ar rfl rfl rfl rfl rfl (by omega); refine gM rfl rfl (by conv => (lhs; whnf)) ?_; refine gw_nil ?_)
      refine gx_round (k + 1) hlt (by omega) (by repeat (first | exact Keeps.refl | refine Keeps.upd rfl ?_ | refine Keeps.sets rfl ?_ | refine Keeps.havoc rfl ?_)) ⟨rfl, trivial⟩ ?_
      have e : (((shP a n k).set k (a / (n : Int))).set k (a / (n : Int) + 1)) = shP a n (k + 1) := by
        rw [List.set_set, ← shP_next a hlt]
        unfold shF
        rw [if_pos h2]
      rw [e]
      exact .cons .here .nil
    · focus (refine gc_skip ?_; refine gx_block ?_; refine gx_next ?_; refine gc_region ?_; apply gw_d; exact det_ar rfl rfl rfl rfl rfl (by omega); refine gM rfl rfl (by conv => (lhs; whnf)) ?_; refine gw_nil ?_)
      refine gx_round (k + 1) hlt (by omega) (by repeat (first | exact Keeps.refl | refine Keeps.upd rfl ?_ | refine Keeps.sets rfl ?_ | refine Keeps.havoc rfl ?_)) ⟨rfl, trivial⟩ ?_
      have e : ((shP a n k).set k (a / (n : Int))) = shP a n (k + 1) := by
        rw [← shP_next a hlt]
        unfold shF
        rw [if_neg h2]
      rw [e]
      exact .cons .here .nil
  · obtain rfl : k = n := by omega
    rw [shP_full]
    focus (refine gc_exit ?_; refine gx_then_exit ?_; refine gx_then_exit ?_; refine gx_block_exit ?_; refine gx_next ?_; refine gc_seq ?_; refine gc_region ?_; refine gM rfl rfl (by conv => (lhs; whnf)) ?_; refine gM rfl rfl (by conv => (lhs; whnf)) ?_; refine gM rfl rfl (by conv => (lhs; whnf)) ?_; refine gO ?_; refine gc_ret ?_)
    exact gx_ret2 (u := .slice _ _ _) (v := .int _ _) rfl rfl rfl (fun w' s => ⟨b, rfl, s.sep⟩)
theorem wShare_bad (w : World) (a p : Int) (he : ¬ shE a p = 0) : Ok Tryz.prog 36 [.int .i64 a, .int .i64 p].toArray w fun x _ => x = .tuple #[.slice none 0 0, .int .i64 3] := by
  obtain ⟨_, hb⟩ := sh_bad he
  refine ok_enter Tryz.func36 rfl Tryz.ntmps36 rfl ?_
  focus (refine gc_seq ?_; refine gc_region ?_; refine gM rfl rfl (by conv => (lhs; whnf)) ?_; refine gM rfl rfl (by conv => (lhs; whnf)) ?_; refine gO ?_; refine gc_seq ?_; refine gc_seq ?_; refine gc_region ?_; refine gM rfl rfl (by conv => (lhs; whnf)) ?_; apply gw_d; exact w_call rfl rfl (fun w _ => inRange_ok w _) rfl; apply gw_d; exact det_not_ rfl rfl rfl; refine gM rfl rfl (by conv => (lhs; whnf)) ?_; refine gw_guard rfl rfl (fun _ => ?_) (fun _ => ?_); refine gU rfl ?_; refine gU rfl ?_; apply gw_d; exact det_pick_t (v := .bool _) rfl rfl rfl rfl; refine gM rfl rfl (by conv => (lhs; whnf)) ?_; refine gU rfl ?_; refine gU rfl ?_; apply gw_d; exact det_pick_t (v := .bool _) rfl rfl rfl rfl; refine gO ?_; refine gc_if_true rfl ?_; refine gc_seq ?_; refine gc_region ?_; refine gM rfl rfl (by conv => (lhs; whnf)) ?_; refine gM rfl rfl (by conv => (lhs; whnf)) ?_; refine gO ?_; refine gc_ret ?_; refine gx_then_ret ?_; rotate_left; refine gM rfl rfl (by conv => (lhs; whnf)) ?_; refine gC rfl rfl rfl rfl rfl ?_; apply gw_d; exact det_pick_f (v := .bool _) rfl rfl rfl rfl; refine gM rfl rfl (by conv => (lhs; whnf)) ?_; refine gw_guard_dec rfl rfl (fun _ => ?_) (fun _ => ?_); refine gU rfl ?_; refine gU rfl ?_; apply gw_d; exact det_pick_t (v := .bool _) rfl rfl rfl rfl; refine gO ?_; refine gc_if_true rfl ?_; refine gc_seq ?_; refine gc_region ?_; refine gM rfl rfl (by conv => (lhs; whnf)) ?_; refine gM rfl rfl (by conv => (lhs; whnf)) ?_; refine gO ?_; refine gc_ret ?_; refine gx_then_ret ?_; rotate_left; refine gM rfl rfl (by conv => (lhs; whnf)) ?_; refine gC rfl rfl rfl rfl rfl ?_; apply gw_d; exact det_pick_f (v := .bool _) rfl rfl rfl rfl; refine gO ?_; refine gc_if_dec rfl (fun _ => ?_) (fun _ => ?_); refine gc_seq ?_; refine gc_region ?_; refine gM rfl rfl (by conv => (lhs; whnf)) ?_; refine gM rfl rfl (by conv => (lhs; whnf)) ?_; refine gO ?_; refine gc_ret ?_; refine gx_then_ret ?_; rotate_left; refine gc_skip ?_; refine gx_next ?_; refine gc_seq ?_; refine gc_region ?_; refine gM rfl rfl (by conv => (lhs; whnf)) ?_; rotate_left)
  all_goals first | (refine gx_ret2 (u := .slice _ _ _) (v := .int _ _) rfl rfl rfl (fun _ _ => ?_); rfl) | skip
  exfalso
  rename_i h1 h2 h3
  rcases hb with h | h | h
  · rw [h] at h1; cases h1
  · omega
  · omega
theorem shL_take_snoc (a : Int) {n k : Nat} (hk : k < n) : (shL a n).take (k + 1) = (shL a n).take k ++ [shF a n k] := by
  rw [List.take_succ_eq_append_getElem (by rw [shL_len]; exact hk)]
  simp [shL]
end Go.Proofs.YtljibjlkjelpbaaGreatDoor

/- Contracts: workers. -/
namespace Go.Proofs.YtljibjlkjelpbaaGreatDoor
open Go.RowKit
set_option maxRecDepth 100000
set_option maxHeartbeats 2000000

theorem Sl.wrk {w : World} {B : Nat} {v : Value} {l : List Wrk} (h : Sl rWrk w B v l) : ∃ A c, v = .slice A l.length c ∧ l.length ≤ c ∧ l.length ≤ 9223372036854775807 ∧
    ∀ k (hk : k < l.length), ∃ ad Am cm, A = some ad ∧ ad.block < B ∧ (∀ j u, [Value.string l[k].name, .slice Am l[k].machines.length cm][j]? = some u → w.cell? (ad.add (k * 2 + j)) = some u) ∧ l[k].name.size ≤ 9223372036854775807 ∧ Sl rInt w B (.slice Am l[k].machines.length cm) l[k].machines := by
  obtain ⟨A, c, hv, h1, h2, h3⟩ := h
  refine ⟨A, c, hv, h1, by unfold maxLen at h2; omega, fun k hk => ?_⟩
  obtain ⟨ad, cs, ha, hlt, hc, Am, cm, rfl, hn, hs⟩ := h3 k hk
  exact ⟨ad, Am, cm, ha, hlt, hc, by unfold maxLen at hn; omega, hs⟩

theorem isMachine_ok (w : World) (m : Int) : Ok Tryz.prog 59 [.int .i64 m].toArray w fun x _ => x = .bool (decide (0 ≤ m ∧ m < 8)) := by
  refine ok_enter Tryz.func59 rfl Tryz.ntmps59 rfl ?_
  focus (refine gc_seq ?_; refine gc_region ?_; refine gM rfl rfl (by conv => (lhs; whnf)) ?_; refine gN ?_; refine gM rfl rfl (by conv => (lhs; whnf)) ?_; refine gC rfl rfl rfl rfl rfl ?_; refine gM rfl rfl (by conv => (lhs; whnf)) ?_; refine gw_guard_dec rfl rfl (fun _ => ?_) (fun _ => ?_); refine gM rfl rfl (by conv => (lhs; whnf)) ?_; refine gC rfl rfl rfl rfl rfl ?_; apply gw_d; exact det_pick_t (v := .bool _) rfl rfl rfl rfl; refine gM rfl rfl (by conv => (lhs; whnf)) ?_; refine gO ?_; refine gc_ret ?_; rotate_left; refine gU rfl ?_; refine gU rfl ?_; apply gw_d; exact det_pick_f (v := .bool _) rfl rfl rfl rfl; refine gM rfl rfl (by conv => (lhs; whnf)) ?_; refine gO ?_; refine gc_ret ?_; rotate_left)
  · refine gx_ret1 (v := .bool _) rfl rfl (fun _ _ => ?_)
    rename_i h _ _
    congr 1
    simp only [show 0 ≤ m from h, true_and]
  · refine gx_ret1 (v := .bool _) rfl rfl (fun _ _ => ?_)
    rename_i h _ _
    congr 1
    rw [decide_eq_false (fun h2 => h h2.1)]
theorem can_ok (w : World) (nm : ByteArray) (A : Option Addr) (_c m : Int) (k : Nat) (ms : List Int) (hl : Sl rInt w w.heap.size (.slice A ms.length k) ms) : Ok Tryz.prog 55 [.agg #[.string nm, .slice A ms.length k], .int .i64 m].toArray w fun x _ => x = .bool (hasB ms m) := by
  refine ok_enter Tryz.func55 rfl Tryz.ntmps55 rfl ?_
  focus (refine gc_seq ?_; refine gc_region ?_; refine gw_boxd (v := .agg _) rfl rfl (fun _ => ?_); refine gM rfl rfl (by conv => (lhs; whnf)) ?_; refine gN ?_; refine gF rfl rfl rfl ?_; apply gw_d; exact w_load_box rfl rfl rfl .here rfl; refine gM rfl rfl (by conv => (lhs; whnf)) ?_; apply gw_d; exact w_call rfl rfl (fun w' s => containsInt_ok w' _ ms m (hl.later s)) rfl; refine gM rfl rfl (by conv => (lhs; whnf)) ?_; refine gO ?_; refine gc_ret ?_)
  refine gx_ret1 (v := .bool _) rfl rfl (fun _ _ => ?_)
  congr 1
  unfold hasB isI
  congr 1
  funext x
  simp [eq_comm]
/-! ### The machines of a worker -/
def machF (ms : List Int) (j : Nat) : Int := match ms[j]? with
  | some m => if ¬ (0 ≤ m ∧ m < 8) then 3 else if hasB (ms.take j) m = true then 7 else 0
  | none => 0
def machE (ms : List Int) : Int := firstE (machF ms) ms.length
def wrkE (l : List Wrk) (i : Nat) : Int := match l[i]? with
  | some x => if nameB x.name = false then 1 else if ((l.take i).any fun y => eqS y.name x.name) = true then 7 else machE x.machines
  | none => 0
def skillE (l : List Wrk) : Int := if l.length > 12 then 5 else firstE (wrkE l) l.length
def seenL (ms : List Int) : List Bool := (List.range 8).map fun i => hasB ms ((i : Nat) : Int)
theorem seenL_len (ms : List Int) : (seenL ms).length = 8 := by simp [seenL]
theorem seenL_get (ms : List Int) {m : Nat} (hm : m < 8) : (seenL ms).getD m false = hasB ms m := by
  simp [seenL, hm]
theorem seenL_snoc (ms : List Int) {m : Nat} (_hm : m < 8) : (seenL ms).set m true = seenL (ms ++ [(m : Int)]) := by
  apply List.ext_getElem
  · simp [seenL]
  · intro i h1 h2
    simp only [seenL, List.getElem_set, List.getElem_map, List.getElem_range, hasB, List.any_append]
    by_cases h : m = i
    · subst h; simp
    · have : ¬ (m : Int) = (i : Int) := by omega
      simp [h, this]
theorem skillCheck_ok (w : World) (v : Value) (l : List Wrk) (hl : Sl rWrk w w.heap.size v l) : Ok Tryz.prog 54 [v].toArray w fun x _ => x = .int .i64 (skillE l) := by
  obtain ⟨A, c, rfl, hc, hm, hcell⟩ := hl.wrk
  refine ok_enter Tryz.func54 rfl Tryz.ntmps54 rfl ?_
  focus (refine gc_seq ?_; refine gc_region ?_; refine gM rfl rfl (by conv => (lhs; whnf)) ?_; refine gO ?_; refine gc_seq ?_; refine gc_seq ?_; refine gc_region ?_; refine gM rfl rfl (by conv => (lhs; whnf)) ?_; refine gL rfl rfl rfl ?_; refine gC rfl rfl rfl rfl rfl ?_; refine gO ?_)
  refine gc_if_dec rfl (fun h => ?_) (fun h12 => ?_)
  · focus (refine gc_seq ?_; refine gc_region ?_; refine gM rfl rfl (by conv => (lhs; whnf)) ?_; refine gO ?_; refine gc_ret ?_; refine gx_then_ret ?_)
    refine gx_ret1 (v := .int _ _) rfl rfl (fun _ _ => ?_)
    unfold skillE
    rw [if_pos (by omega)]
  have hE : skillE l = firstE (wrkE l) l.length := by unfold skillE; rw [if_neg (by omega)]
  rw [hE]
  focus (refine gc_skip ?_; refine gx_next ?_; refine gc_seq ?_; refine gc_seq ?_; refine gc_region ?_; refine gM rfl rfl (by conv => (lhs; whnf)) ?_; refine gL rfl rfl rfl ?_; refine gM rfl rfl (by conv => (lhs; whnf)) ?_; refine gO ?_; refine gc_block ?_)
  refine gc_loopK (σ := Nat) [16, 17, 18, 19, 4, 3, 20, 21, 22, 23, 24, 2, 25, 26, 27, 28, 29, 30, 31, 32, 6, 33, 34, 35, 36, 37, 38, 7, 39, 40, 41, 42, 43, 44, 45, 9, 46, 47, 48, 49, 50, 51, 52, 53, 54, 55, 15] (fun k => [(15, .int .i64 k)]) (fun k => k ≤ l.length ∧ firstE (wrkE l) k = 0) (fun k => l.length - k) 0 ⟨Nat.zero_le _, rfl⟩ ⟨rfl, trivial⟩ ?_
  rintro k base ⟨hk, hI⟩
  focus (refine gc_seq ?_; refine gc_region ?_; refine gC rfl rfl rfl rfl rfl ?_; refine gO ?_; refine gc_seq ?_)
  refine gc_if_dec rfl (fun h => ?_) (fun h => ?_)
  · have hlt : k < l.length := by omega
    obtain ⟨ad, Am, cm, rfl, hb, hce, hnm, hms⟩ := hcell k hlt
    have hW : wrkE l k = if nameB l[k].name = false then 1 else if ((l.take k).any fun y => eqS y.name l[k].name) = true then 7 else machE l[k].machines := by
      unfold wrkE
      rw [List.getElem?_eq_getElem hlt]
    focus (refine gc_skip ?_; refine gx_next ?_; refine gc_seq ?_; refine gc_block ?_; refine gc_seq ?_; refine gc_region ?_; refine gM rfl rfl (by conv => (lhs; whnf)) ?_; apply gw_d; exact w_index rfl rfl rfl rfl (by with_reducible exact rfl) (by omega); apply gw_d; exact w_load_elem rfl rfl rfl (by assumption) (by assumption) (by rfl); refine w_alloc rfl (fun _ => ?_); refine gM rfl rfl (by conv => (lhs; whnf)) ?_; refine w_store_all rfl rfl rfl rfl rfl .here rfl ?_; refine gO ?_; refine gc_seq ?_; refine gc_seq ?_; refine gc_region ?_; refine gF rfl rfl rfl ?_; apply gw_d; exact w_load_box rfl rfl rfl .here rfl)
    focus (apply gw_d; exact w_buildP [(0, .int .i64 2), (2, .string l[k].name)] (cells := #[.int .i64 2, .bool false, .slice none 0 0, .slice none 0 0, .string l[k].name, .slice none 0 0]) (by rfl) rfl rfl rfl; apply gw_d; exact w_call rfl rfl (fun w _ => fcheck_ok w l[k].name hnm) rfl; refine gC rfl rfl rfl rfl rfl ?_; refine gO ?_)
    refine gc_if_dec rfl (fun h => ?_) (fun h => ?_)
    · focus (refine gc_seq ?_; refine gc_region ?_; refine gM rfl rfl (by conv => (lhs; whnf)) ?_; refine gO ?_; refine gc_ret ?_; refine gx_then_ret ?_; refine gx_block_ret ?_; refine gx_then_ret ?_; refine gx_then_ret ?_; refine gx_block_ret ?_; refine gx_then_ret ?_)
      refine gx_ret1 (v := .int _ _) rfl rfl (fun _ _ => ?_)
      have hn : nameB l[k].name = false := by cases h2 : nameB l[k].name <;> simp_all
      rw [if_pos hn] at hW
      rw [firstE_stop hI (by rw [hW]; decide) hlt, hW]
    have hn : nameB l[k].name = true := by cases h2 : nameB l[k].name <;> simp_all
    rw [if_neg (by rw [hn]; decide)] at hW
    focus (refine gc_skip ?_; refine gx_next ?_; refine gc_seq ?_; refine gc_seq ?_; refine gc_region ?_; refine gM rfl rfl (by conv => (lhs; whnf)) ?_; refine gM rfl rfl (by conv => (lhs; whnf)) ?_; apply gw_d; exact w_cut_hi rfl rfl rfl rfl (by with_reducible exact rfl) (by omega); refine gL rfl rfl rfl ?_; refine gM rfl rfl (by conv => (lhs; whnf)) ?_; refine gO ?_; refine gc_block ?_)
    refine gc_loopK (σ := Nat) [30, 31, 32, 6, 33, 34, 35, 36, 37, 2, 38, 29] (fun j => [(29, .int .i64 j)]) (fun j => j ≤ k ∧ ((l.take j).any fun y => eqS y.name l[k].name) = false) (fun j => k - j) 0 ⟨Nat.zero_le _, rfl⟩ ⟨rfl, trivial⟩ ?_
    rintro j base2 ⟨hj, hJ⟩
    focus (refine gc_seq ?_; refine gc_region ?_; refine gC rfl rfl rfl rfl rfl ?_; refine gO ?_; refine gc_seq ?_)
    refine gc_if_dec rfl (fun h => ?_) (fun h => ?_)
    · have hjl : j < l.length := by omega
      obtain ⟨ad2, Am2, cm2, h2, hb2, hce2, _, _⟩ := hcell j hjl
      injection h2 with h2
      subst h2
      focus (refine gc_skip ?_; refine gx_next ?_; refine gc_seq ?_; refine gc_block ?_; refine gc_seq ?_; refine gc_region ?_; apply gw_d; exact w_index rfl rfl rfl rfl (by with_reducible exact rfl) (by omega); apply gw_d; exact w_load_elem rfl rfl rfl (by assumption) (by assumption) (by rfl); refine w_alloc rfl (fun _ => ?_); refine w_store_all rfl rfl rfl rfl rfl .here rfl ?_; refine gN ?_; refine gF rfl rfl rfl ?_; apply gw_d; exact w_load_box rfl rfl rfl .here rfl; refine gF rfl rfl rfl ?_; apply gw_d; exact w_load_box rfl rfl rfl (.there .here) rfl; apply gw_d; exact det_seq rfl rfl rfl rfl; refine gO ?_)
      refine gc_if rfl (fun h => ?_) (fun h => ?_)
      · focus (refine gc_seq ?_; refine gc_region ?_; refine gM rfl rfl (by conv => (lhs; whnf)) ?_; refine gO ?_; refine gc_ret ?_; refine gx_block_ret ?_; refine gx_then_ret ?_; refine gx_then_ret ?_; refine gx_block_ret ?_; refine gx_then_ret ?_; refine gx_block_ret ?_; refine gx_then_ret ?_; refine gx_then_ret ?_; refine gx_block_ret ?_; refine gx_then_ret ?_)
        refine gx_ret1 (v := .int _ _) rfl rfl (fun _ _ => ?_)
        rw [if_pos (List.any_eq_true.2 ⟨l[j], List.mem_take_iff_getElem.2 ⟨j, by omega, rfl⟩, h⟩)] at hW
        rw [firstE_stop hI (by rw [hW]; decide) hlt, hW]
      · focus (refine gc_skip ?_; refine gx_block ?_; refine gx_next ?_; refine gc_region ?_; apply gw_d; exact det_ar rfl rfl rfl rfl rfl (by omega); refine gM rfl rfl (by conv => (lhs; whnf)) ?_; refine gw_nil ?_)
        exact gx_round (j + 1) ⟨by omega, take_any_snoc hjl hJ h⟩ (by omega) (by repeat (first | exact Keeps.refl | refine Keeps.upd rfl ?_ | refine Keeps.sets rfl ?_ | refine Keeps.havoc rfl ?_)) ⟨rfl, trivial⟩ Sub.tail
    obtain rfl : j = k := by omega
    rw [if_neg (by rw [hJ]; decide)] at hW
    obtain ⟨_, _, hv, hmc, hmm, hmcell⟩ := hms.int
    injection hv with e1 e2 e3
    subst e1 e3
    focus (refine gc_exit ?_; refine gx_then_exit ?_; refine gx_then_exit ?_; refine gx_block_exit ?_; refine gx_next ?_; refine gc_seq ?_; refine gc_region ?_; refine w_alloc rfl (fun _ => ?_); refine gN ?_; refine gF rfl rfl rfl ?_; apply gw_d; exact w_load_box rfl rfl rfl (.there .here) rfl; refine gL rfl rfl rfl ?_; refine gM rfl rfl (by conv => (lhs; whnf)) ?_; refine gO ?_; refine gc_block ?_)
    refine gc_loop1 (σ := Nat) [43, 44, 45, 9, 46, 47, 48, 2, 49, 50, 51, 52, 53, 54, 42] (fun i => [(42, .int .i64 i)]) (fun i => Box _ 150 ((seenL (l[j].machines.take i)).map Value.bool).toArray) (fun i => i ≤ l[j].machines.length ∧ firstE (machF l[j].machines) i = 0) (fun i => l[j].machines.length - i) 0 ⟨Nat.zero_le _, rfl⟩ ⟨rfl, trivial⟩ rfl ?_
    rintro i base3 ⟨hi, hM⟩
    focus (refine gc_seq ?_; refine gc_region ?_; refine gC rfl rfl rfl rfl rfl ?_; refine gO ?_; refine gc_seq ?_)
    refine gc_if_dec rfl (fun h => ?_) (fun h => ?_)
    · have hil : i < l[j].machines.length := by omega
      obtain ⟨ad3, rfl, hb3, hce3, _⟩ := hmcell i hil
      have hF : machF l[j].machines i = if ¬ (0 ≤ l[j].machines[i] ∧ l[j].machines[i] < 8) then 3 else if hasB (l[j].machines.take i) l[j].machines[i] = true then 7 else 0 := by
        unfold machF
        rw [List.getElem?_eq_getElem hil]
      focus (refine gc_skip ?_; refine gx_next ?_; refine gc_seq ?_; refine gc_block ?_; refine gc_seq ?_; refine gc_region ?_; apply gw_d; exact w_index rfl rfl rfl rfl (by with_reducible exact rfl) (by omega); apply gw_d; exact w_load_at rfl rfl rfl (by assumption) (by assumption); refine gM rfl rfl (by conv => (lhs; whnf)) ?_; refine gO ?_; refine gc_seq ?_; refine gc_seq ?_; refine gc_region ?_; refine gM rfl rfl (by conv => (lhs; whnf)) ?_; apply gw_d; exact w_call rfl rfl (fun w _ => isMachine_ok w _) rfl; apply gw_d; exact det_not_dec rfl rfl rfl; refine gO ?_)
      refine gc_if rfl (fun h => ?_) (fun h => ?_)
      · focus (refine gc_seq ?_; refine gc_region ?_; refine gM rfl rfl (by conv => (lhs; whnf)) ?_; refine gO ?_; refine gc_ret ?_; refine gx_then_ret ?_; refine gx_block_ret ?_; refine gx_then_ret ?_; refine gx_then_ret ?_; refine gx_block_ret ?_; refine gx_block_ret ?_; refine gx_then_ret ?_; refine gx_then_ret ?_; refine gx_block_ret ?_; refine gx_then_ret ?_)
        refine gx_ret1 (v := .int _ _) rfl rfl (fun _ _ => ?_)
        have h' : ¬ (0 ≤ l[j].machines[i] ∧ l[j].machines[i] < 8) := by
          have h9 : l[j].machines[i] < 0 ∨ 8 ≤ l[j].machines[i] := by simpa using h
          omega
        rw [if_pos h'] at hF
        have hME : machE l[j].machines = 3 := by unfold machE; rw [firstE_stop hM (by rw [hF]; decide) hil, hF]
        rw [hME] at hW
        rw [firstE_stop hI (by rw [hW]; decide) hlt, hW]
      have h8 : 0 ≤ l[j].machines[i] ∧ l[j].machines[i] < 8 := by simpa using h
      obtain ⟨m, hmm⟩ : ∃ m : Nat, l[j].machines[i] = (m : Int) := ⟨l[j].machines[i].toNat, by omega⟩
      have hm8 : m < 8 := by omega
      rw [hmm] at hF
      rw [if_neg (by omega)] at hF
      have hsl := seenL_len (l[j].machines.take i)
      have hg : ((seenL (l[j].machines.take i)).map Value.bool).toArray[m * 1]? = some (.bool ((seenL (l[j].machines.take i)).getD m false)) := row_get Value.bool false (by omega)
      rw [seenL_get _ hm8] at hg
      focus (refine gc_skip ?_; refine gx_next ?_; refine gc_seq ?_; refine gc_seq ?_; refine gc_region ?_; refine gM rfl rfl (by conv => (lhs; whnf)) ?_; apply gw_d; exact w_index_arr (m := m) rfl rfl rfl rfl hmm hm8; apply gw_d; exact w_load_row rfl rfl rfl .here hg; refine gO ?_)
      refine gc_if rfl (fun h => ?_) (fun h => ?_)
      · focus (refine gc_seq ?_; refine gc_region ?_; refine gM rfl rfl (by conv => (lhs; whnf)) ?_; refine gO ?_; refine gc_ret ?_; refine gx_then_ret ?_; refine gx_block_ret ?_; refine gx_then_ret ?_; refine gx_then_ret ?_; refine gx_block_ret ?_; refine gx_block_ret ?_; refine gx_then_ret ?_; refine gx_then_ret ?_; refine gx_block_ret ?_; refine gx_then_ret ?_)
        refine gx_ret1 (v := .int _ _) rfl rfl (fun _ _ => ?_)
        rw [if_pos h] at hF
        have hME : machE l[j].machines = 7 := by unfold machE; rw [firstE_stop hM (by rw [hF]; decide) hil, hF]
        rw [hME] at hW
        rw [firstE_stop hI (by rw [hW]; decide) hlt, hW]
      rw [if_neg (by rw [h]; decide)] at hF
      focus (refine gc_skip ?_; refine gx_next ?_; refine gc_region ?_; refine gM rfl rfl (by conv => (lhs; whnf)) ?_; apply gw_d; exact w_index_arr (m := m) rfl rfl rfl rfl hmm hm8)
      refine w_store_row (n := 1) (v := .bool true) rfl rfl rfl rfl rfl .here (by simp; omega) (row_set Value.bool (by omega) true) ?_
      rw [seenL_snoc _ hm8, ← hmm, ← List.take_succ_eq_append_getElem hil]
      focus (refine gw_nil ?_; refine gx_block ?_; refine gx_next ?_; refine gc_region ?_; apply gw_d; exact det_ar rfl rfl rfl rfl rfl (by omega); refine gM rfl rfl (by conv => (lhs; whnf)) ?_; refine gw_nil ?_)
      exact gx_round (i + 1) ⟨by omega, firstE_snoc hM hF⟩ (by omega) (by repeat (first | exact Keeps.refl | refine Keeps.upd rfl ?_ | refine Keeps.sets rfl ?_ | refine Keeps.havoc rfl ?_)) ⟨rfl, trivial⟩ (Sub.all _)
    · obtain rfl : i = l[j].machines.length := by omega
      have hME : machE l[j].machines = 0 := hM
      rw [hME] at hW
      focus (refine gc_exit ?_; refine gx_then_exit ?_; refine gx_then_exit ?_; refine gx_block_exit ?_; refine gx_block ?_; refine gx_next ?_; refine gc_region ?_; apply gw_d; exact det_ar rfl rfl rfl rfl rfl (by omega); refine gM rfl rfl (by conv => (lhs; whnf)) ?_; refine gw_nil ?_)
      exact gx_round (j + 1) ⟨by omega, firstE_snoc hI hW⟩ (by omega) (by repeat (first | exact Keeps.refl | refine Keeps.upd rfl ?_ | refine Keeps.sets rfl ?_ | refine Keeps.havoc rfl ?_)) ⟨rfl, trivial⟩ (Sub.weak (Sub.weak (Sub.all _)))
  · obtain rfl : k = l.length := by omega
    focus (refine gc_exit ?_; refine gx_then_exit ?_; refine gx_then_exit ?_; refine gx_block_exit ?_; refine gx_next ?_; refine gc_seq ?_; refine gc_region ?_; refine gM rfl rfl (by conv => (lhs; whnf)) ?_; refine gO ?_; refine gc_ret ?_)
    refine gx_ret1 (v := .int _ _) rfl rfl (fun _ _ => ?_)
    rw [hI]
end Go.Proofs.YtljibjlkjelpbaaGreatDoor

/- Contracts: bundles; scan.Check, given what operation.Check answers. -/
namespace Go.Proofs.YtljibjlkjelpbaaGreatDoor
open Go.RowKit
set_option maxRecDepth 100000
set_option maxHeartbeats 2000000

theorem Sl.bun {w : World} {B : Nat} {v : Value} {l : List Bun} (h : Sl rBun w B v l) : ∃ A c, v = .slice A l.length c ∧ l.length ≤ c ∧ l.length ≤ 9223372036854775807 ∧
    ∀ k (hk : k < l.length), ∃ ad, A = some ad ∧ ad.block < B ∧ (∀ j u, [Value.int .i64 l[k].tick, .int .i64 l[k].garm, .int .i64 l[k].size, .int .i64 l[k].lot, .int .i64 l[k].fr, .int .i64 l[k].upto][j]? = some u → w.cell? (ad.add (k * 6 + j)) = some u) ∧ inI64 l[k].tick ∧ inI64 l[k].fr ∧ inI64 l[k].upto := by
  obtain ⟨A, c, hv, h1, h2, h3⟩ := h
  refine ⟨A, c, hv, h1, by unfold maxLen at h2; omega, fun k hk => ?_⟩
  obtain ⟨ad, cs, ha, hlt, hc, rfl, hr⟩ := h3 k hk
  exact ⟨ad, ha, hlt, hc, hr⟩
def bunE (l : List Bun) (i : Nat) : Int := match l[i]? with
  | some b => if b.fr ≥ b.upto ∨ b.upto - b.fr > 40 then 3 else if ((l.take i).any fun y => decide (y.tick = b.tick)) = true then 7 else 0
  | none => 0
def scanE (e : Int) (bs : List Bun) (ws : List Wrk) : Int := if ¬ e = 0 then e else if bs.length > 60 then 5 else if ¬ firstE (bunE bs) bs.length = 0 then firstE (bunE bs) bs.length else skillE ws
theorem wrap_u64 (i : Int) : IntKind.u64.wrap i = i % 18446744073709551616 := by
  unfold IntKind.wrap
  rfl
theorem scanCheck_ok (w : World) (v0 v1 v2 v3 v4 v5 v6 vb vw : Value) (e : Int) (bs : List Bun) (ws : List Wrk) (hO : ∀ (L : List Res) (w' : World), St w L w' → Ok Tryz.prog 53 [.agg #[v0, v1, v2, v3, v4, v5, v6]].toArray w' fun x _ => x = .int .i64 e)
    (hb : Sl rBun w w.heap.size vb bs) (hw : Sl rWrk w w.heap.size vw ws) : Ok Tryz.prog 51 [.agg #[v0, v1, v2, v3, v4, v5, v6], vb, vw].toArray w fun x _ => x = .int .i64 (scanE e bs ws) := by
  obtain ⟨A, c, rfl, hc, hm, hcell⟩ := hb.bun
  obtain ⟨Aw, cw, rfl, hwc, hwm, _⟩ := hw.wrk
  refine ok_enter Tryz.func51 rfl Tryz.ntmps51 rfl ?_
  focus (refine gc_seq ?_; refine gc_region ?_; refine gw_boxd (v := .agg _) rfl rfl (fun _ => ?_); refine gM rfl rfl (by conv => (lhs; whnf)) ?_; refine gO ?_; refine gc_seq ?_; refine gc_seq ?_; refine gc_region ?_; apply gw_d; exact w_load_boxN rfl rfl rfl .here rfl; apply gw_d; exact w_call rfl rfl (hO _) rfl; refine gM rfl rfl (by conv => (lhs; whnf)) ?_; refine gN ?_; refine gM rfl rfl (by conv => (lhs; whnf)) ?_; refine gC rfl rfl rfl rfl rfl ?_; refine gO ?_)
  refine gc_if_dec rfl (fun h => ?_) (fun h => ?_)
  · focus (refine gc_seq ?_; refine gc_region ?_; refine gM rfl rfl (by conv => (lhs; whnf)) ?_; refine gM rfl rfl (by conv => (lhs; whnf)) ?_; refine gO ?_; refine gc_ret ?_; refine gx_then_ret ?_)
    refine gx_ret1 (v := .int _ _) rfl rfl (fun _ _ => ?_)
    unfold scanE
    rw [if_pos h]
  have he : e = 0 := by simpa using h
  focus (refine gc_skip ?_; refine gx_next ?_; refine gc_seq ?_; refine gc_seq ?_; refine gc_region ?_; refine gM rfl rfl (by conv => (lhs; whnf)) ?_; refine gL rfl rfl rfl ?_; refine gC rfl rfl rfl rfl rfl ?_; refine gO ?_)
  refine gc_if_dec rfl (fun h => ?_) (fun h60 => ?_)
  · focus (refine gc_seq ?_; refine gc_region ?_; refine gM rfl rfl (by conv => (lhs; whnf)) ?_; refine gO ?_; refine gc_ret ?_; refine gx_then_ret ?_)
    refine gx_ret1 (v := .int _ _) rfl rfl (fun _ _ => ?_)
    unfold scanE
    rw [if_neg (by rw [he]; decide), if_pos (by omega)]
  have hE : scanE e bs ws = if ¬ firstE (bunE bs) bs.length = 0 then firstE (bunE bs) bs.length else skillE ws := by
    unfold scanE
    rw [if_neg (by rw [he]; decide), if_neg (by omega)]
  rw [hE]
  focus (refine gc_skip ?_; refine gx_next ?_; refine gc_seq ?_; refine gc_seq ?_; refine gc_region ?_; refine gM rfl rfl (by conv => (lhs; whnf)) ?_; refine gL rfl rfl rfl ?_; refine gM rfl rfl (by conv => (lhs; whnf)) ?_; refine gO ?_; refine gc_block ?_)
  refine gc_loopK (σ := Nat) [23, 24, 25, 26, 9, 8, 27, 28, 29, 30, 31, 32, 33, 34, 35, 36, 37, 38, 39, 40, 41, 6, 42, 43, 44, 45, 46, 47, 48, 49, 11, 50, 51, 52, 53, 54, 55, 56, 22] (fun k => [(22, .int .i64 k)]) (fun k => k ≤ bs.length ∧ firstE (bunE bs) k = 0) (fun k => bs.length - k) 0 ⟨Nat.zero_le _, rfl⟩ ⟨rfl, trivial⟩ ?_
  rintro k base ⟨hk, hI⟩
  focus (refine gc_seq ?_; refine gc_region ?_; refine gC rfl rfl rfl rfl rfl ?_; refine gO ?_; refine gc_seq ?_)
  refine gc_if_dec rfl (fun h => ?_) (fun h => ?_)
  · have hlt : k < bs.length := by omega
    obtain ⟨ad, rfl, hbk, hce, h1, h2, h3⟩ := hcell k hlt
    unfold inI64 at h1 h2 h3
    have hW : bunE bs k = if bs[k].fr ≥ bs[k].upto ∨ bs[k].upto - bs[k].fr > 40 then 3 else if ((bs.take k).any fun y => decide (y.tick = bs[k].tick)) = true then 7 else 0 := by
      unfold bunE
      rw [List.getElem?_eq_getElem hlt]
    have hstop : ∀ x : Int, bunE bs k = x → ¬ x = 0 → (if ¬ firstE (bunE bs) bs.length = 0 then firstE (bunE bs) bs.length else skillE ws) = x := fun x hx hx0 => by
      have := firstE_stop hI (by rw [hx]; exact hx0) hlt
      rw [this, hx, if_pos hx0]
    focus (refine gc_skip ?_; refine gx_next ?_; refine gc_seq ?_; refine gc_block ?_; refine gc_seq ?_; refine gc_region ?_; refine gM rfl rfl (by conv => (lhs; whnf)) ?_; apply gw_d; exact w_index rfl rfl rfl rfl (by with_reducible exact rfl) (by omega); apply gw_d; exact w_load_elem rfl rfl rfl (by assumption) (by assumption) (by rfl); refine w_alloc rfl (fun _ => ?_); refine gM rfl rfl (by conv => (lhs; whnf)) ?_; refine w_store_all rfl rfl rfl rfl rfl .here rfl ?_; refine gO ?_; refine gc_seq ?_; refine gc_seq ?_; refine gc_region ?_; refine gF rfl rfl rfl ?_; apply gw_d; exact w_load_box rfl rfl rfl .here rfl; refine gF rfl rfl rfl ?_; apply gw_d; exact w_load_box rfl rfl rfl .here rfl; refine gC rfl rfl rfl rfl rfl ?_; refine gM rfl rfl (by conv => (lhs; whnf)) ?_)
    by_cases h4 : bs[k].fr ≥ bs[k].upto
    · rw [if_pos (.inl h4)] at hW
      focus (refine gw_guard_dec rfl rfl (fun _ => ?_) (fun _ => ?_); refine gU rfl ?_; refine gU rfl ?_; refine gU rfl ?_; refine gU rfl ?_; refine gU rfl ?_; refine gU rfl ?_; refine gU rfl ?_; refine gU rfl ?_; apply gw_d; exact det_pick_t (v := .bool _) rfl rfl rfl rfl; refine gO ?_; refine gc_if_true rfl ?_; refine gc_seq ?_; refine gc_region ?_; refine gM rfl rfl (by conv => (lhs; whnf)) ?_; refine gO ?_; refine gc_ret ?_; refine gx_then_ret ?_; refine gx_block_ret ?_; refine gx_then_ret ?_; refine gx_then_ret ?_; refine gx_block_ret ?_; refine gx_then_ret ?_; rotate_left; refine gF rfl rfl rfl ?_; apply gw_d; exact w_load_box rfl rfl rfl .here rfl; rotate_left)
      all_goals first | (exfalso; omega) | skip
      refine gx_ret1 (v := .int _ _) rfl rfl (fun _ _ => ?_)
      rw [hstop 3 hW (by decide)]
    have hu : (bs[k].upto % 18446744073709551616 - bs[k].fr % 18446744073709551616) % 18446744073709551616 = bs[k].upto - bs[k].fr := by omega
    by_cases h5 : bs[k].upto - bs[k].fr > 40
    · rw [if_pos (.inr h5)] at hW
      focus (refine gw_guard_dec rfl rfl (fun _ => ?_) (fun _ => ?_); refine gU rfl ?_; refine gU rfl ?_; refine gU rfl ?_; refine gU rfl ?_; refine gU rfl ?_; refine gU rfl ?_; refine gU rfl ?_; refine gU rfl ?_; apply gw_d; exact det_pick_t (v := .bool _) rfl rfl rfl rfl; refine gO ?_; refine gc_if_true rfl ?_; refine gc_seq ?_; refine gc_region ?_; refine gM rfl rfl (by conv => (lhs; whnf)) ?_; refine gO ?_; refine gc_ret ?_; refine gx_then_ret ?_; refine gx_block_ret ?_; refine gx_then_ret ?_; refine gx_then_ret ?_; refine gx_block_ret ?_; refine gx_then_ret ?_; rotate_left; refine gF rfl rfl rfl ?_; apply gw_d; exact w_load_box rfl rfl rfl .here rfl; apply gw_d; exact det_conv (r := bs[k].upto % 18446744073709551616) rfl rfl rfl (wrap_u64 _); refine gF rfl rfl rfl ?_; apply gw_d; exact w_load_box rfl rfl rfl .here rfl; apply gw_d; exact det_conv (r := bs[k].fr % 18446744073709551616) rfl rfl rfl (wrap_u64 _); apply gw_d; exact det_eq (c' := .int .u64 (bs[k].upto - bs[k].fr)) (det_ar_wrap rfl rfl rfl rfl rfl) (by rw [wrap_u64, hu]); refine gC rfl rfl rfl rfl rfl ?_; apply gw_d; exact det_pick_f (v := .bool _) rfl rfl rfl rfl; refine gO ?_; refine gc_if_dec rfl (fun _ => ?_) (fun _ => ?_); refine gc_seq ?_; refine gc_region ?_; refine gM rfl rfl (by conv => (lhs; whnf)) ?_; refine gO ?_; refine gc_ret ?_; refine gx_then_ret ?_; refine gx_block_ret ?_; refine gx_then_ret ?_; refine gx_then_ret ?_; refine gx_block_ret ?_; refine gx_then_ret ?_; rotate_left; refine gc_skip ?_; refine gx_next ?_; refine gc_seq ?_; refine gc_region ?_; refine gM rfl rfl (by conv => (lhs; whnf)) ?_; refine gM rfl rfl (by conv => (lhs; whnf)) ?_; apply gw_d; exact w_cut_hi rfl rfl rfl rfl (by with_reducible exact rfl) (by omega); refine gL rfl rfl rfl ?_; refine gM rfl rfl (by conv => (lhs; whnf)) ?_; refine gO ?_; refine gc_block ?_; rotate_left)
      all_goals first | (exfalso; omega) | skip
      refine gx_ret1 (v := .int _ _) rfl rfl (fun _ _ => ?_)
      rw [hstop 3 hW (by decide)]
    rw [if_neg (by omega)] at hW
    focus (refine gw_guard_dec rfl rfl (fun _ => ?_) (fun _ => ?_); refine gU rfl ?_; refine gU rfl ?_; refine gU rfl ?_; refine gU rfl ?_; refine gU rfl ?_; refine gU rfl ?_; refine gU rfl ?_; refine gU rfl ?_; apply gw_d; exact det_pick_t (v := .bool _) rfl rfl rfl rfl; refine gO ?_; refine gc_if_true rfl ?_; refine gc_seq ?_; refine gc_region ?_; refine gM rfl rfl (by conv => (lhs; whnf)) ?_; refine gO ?_; refine gc_ret ?_; refine gx_then_ret ?_; refine gx_block_ret ?_; refine gx_then_ret ?_; refine gx_then_ret ?_; refine gx_block_ret ?_; refine gx_then_ret ?_; rotate_left; refine gF rfl rfl rfl ?_; apply gw_d; exact w_load_box rfl rfl rfl .here rfl; apply gw_d; exact det_conv (r := bs[k].upto % 18446744073709551616) rfl rfl rfl (wrap_u64 _); refine gF rfl rfl rfl ?_; apply gw_d; exact w_load_box rfl rfl rfl .here rfl; apply gw_d; exact det_conv (r := bs[k].fr % 18446744073709551616) rfl rfl rfl (wrap_u64 _); apply gw_d; exact det_eq (c' := .int .u64 (bs[k].upto - bs[k].fr)) (det_ar_wrap rfl rfl rfl rfl rfl) (by rw [wrap_u64, hu]); refine gC rfl rfl rfl rfl rfl ?_; apply gw_d; exact det_pick_f (v := .bool _) rfl rfl rfl rfl; refine gO ?_; refine gc_if_dec rfl (fun _ => ?_) (fun _ => ?_); refine gc_seq ?_; refine gc_region ?_; refine gM rfl rfl (by conv => (lhs; whnf)) ?_; refine gO ?_; refine gc_ret ?_; refine gx_then_ret ?_; refine gx_block_ret ?_; refine gx_then_ret ?_; refine gx_then_ret ?_; refine gx_block_ret ?_; refine gx_then_ret ?_; rotate_left; refine gc_skip ?_; refine gx_next ?_; refine gc_seq ?_; refine gc_region ?_; refine gM rfl rfl (by conv => (lhs; whnf)) ?_; refine gM rfl rfl (by conv => (lhs; whnf)) ?_; apply gw_d; exact w_cut_hi rfl rfl rfl rfl (by with_reducible exact rfl) (by omega); refine gL rfl rfl rfl ?_; refine gM rfl rfl (by conv => (lhs; whnf)) ?_; refine gO ?_; refine gc_block ?_; rotate_left)
    all_goals first | (exfalso; omega) | skip
    refine gc_loopK (σ := Nat) [47, 48, 49, 11, 50, 51, 52, 53, 54, 6, 55, 46] (fun j => [(46, .int .i64 j)]) (fun j => j ≤ k ∧ ((bs.take j).any fun y => decide (y.tick = bs[k].tick)) = false) (fun j => k - j) 0 ⟨Nat.zero_le _, rfl⟩ ⟨rfl, trivial⟩ ?_
    rintro j base2 ⟨hj, hJ⟩
    focus (refine gc_seq ?_; refine gc_region ?_; refine gC rfl rfl rfl rfl rfl ?_; refine gO ?_; refine gc_seq ?_)
    refine gc_if_dec rfl (fun h => ?_) (fun h => ?_)
    · have hjl : j < bs.length := by omega
      obtain ⟨ad2, h6, hb2, hce2, _⟩ := hcell j hjl
      injection h6 with h6
      subst h6
      focus (refine gc_skip ?_; refine gx_next ?_; refine gc_seq ?_; refine gc_block ?_; refine gc_seq ?_; refine gc_region ?_; apply gw_d; exact w_index rfl rfl rfl rfl (by with_reducible exact rfl) (by omega); apply gw_d; exact w_load_elem rfl rfl rfl (by assumption) (by assumption) (by rfl); refine w_alloc rfl (fun _ => ?_); refine w_store_all rfl rfl rfl rfl rfl .here rfl ?_; refine gN ?_; refine gF rfl rfl rfl ?_; apply gw_d; exact w_load_box rfl rfl rfl .here rfl; refine gF rfl rfl rfl ?_; apply gw_d; exact w_load_box rfl rfl rfl (.there .here) rfl; refine gC rfl rfl rfl rfl rfl ?_; refine gO ?_)
      refine gc_if_dec rfl (fun h => ?_) (fun h => ?_)
      · focus (refine gc_seq ?_; refine gc_region ?_; refine gM rfl rfl (by conv => (lhs; whnf)) ?_; refine gO ?_; refine gc_ret ?_; refine gx_block_ret ?_; refine gx_then_ret ?_; refine gx_then_ret ?_; refine gx_block_ret ?_; refine gx_block_ret ?_; refine gx_then_ret ?_; refine gx_then_ret ?_; refine gx_block_ret ?_; refine gx_then_ret ?_)
        refine gx_ret1 (v := .int _ _) rfl rfl (fun _ _ => ?_)
        rw [if_pos (List.any_eq_true.2 ⟨bs[j], List.mem_take_iff_getElem.2 ⟨j, by omega, rfl⟩, decide_eq_true h⟩)] at hW
        rw [hstop 7 hW (by decide)]
      · focus (refine gc_skip ?_; refine gx_block ?_; refine gx_next ?_; refine gc_region ?_; apply gw_d; exact det_ar rfl rfl rfl rfl rfl (by omega); refine gM rfl rfl (by conv => (lhs; whnf)) ?_; refine gw_nil ?_)
        exact gx_round (j + 1) ⟨by omega, take_any_snoc hjl hJ (decide_eq_false h)⟩ (by omega) (by repeat (first | exact Keeps.refl | refine Keeps.upd rfl ?_ | refine Keeps.sets rfl ?_ | refine Keeps.havoc rfl ?_)) ⟨rfl, trivial⟩ Sub.tail
    · obtain rfl : j = k := by omega
      rw [if_neg (by rw [hJ]; decide)] at hW
      focus (refine gc_exit ?_; refine gx_then_exit ?_; refine gx_then_exit ?_; refine gx_block_exit ?_; refine gx_block ?_; refine gx_next ?_; refine gc_region ?_; apply gw_d; exact det_ar rfl rfl rfl rfl rfl (by omega); refine gM rfl rfl (by conv => (lhs; whnf)) ?_; refine gw_nil ?_)
      exact gx_round (j + 1) ⟨by omega, firstE_snoc hI hW⟩ (by omega) (by repeat (first | exact Keeps.refl | refine Keeps.upd rfl ?_ | refine Keeps.sets rfl ?_ | refine Keeps.havoc rfl ?_)) ⟨rfl, trivial⟩ Sub.tail
  · obtain rfl : k = bs.length := by omega
    rw [if_neg (by rw [hI]; decide)]
    focus (refine gc_exit ?_; refine gx_then_exit ?_; refine gx_then_exit ?_; refine gx_block_exit ?_; refine gx_next ?_; refine gc_seq ?_; refine gc_region ?_; refine gM rfl rfl (by conv => (lhs; whnf)) ?_; apply gw_d; exact w_call rfl rfl (fun w' s => skillCheck_ok w' _ ws (hw.later s)) rfl; refine gM rfl rfl (by conv => (lhs; whnf)) ?_; refine gO ?_; refine gc_ret ?_)
    refine gx_ret1 (v := .int _ _) rfl rfl (fun _ _ => ?_)
    rfl
end Go.Proofs.YtljibjlkjelpbaaGreatDoor

/- Contracts: the outcome of a scan. -/
namespace Go.Proofs.YtljibjlkjelpbaaGreatDoor
open Go.RowKit
set_option maxRecDepth 100000
set_option maxHeartbeats 2000000

def scnC (x : Scn) : Array Value := #[.int .i64 x.tick, .int .i64 x.op, .int .i64 x.who, .int .i64 x.time]
def Small (l : List Opn) : Prop := l.length ≤ 16 ∧ ∀ k (hk : k < l.length), ∀ a ∈ l[k].after, 0 ≤ a ∧ a < l.length
theorem judge_nil (w : World) (vl vw : Value) (x : Scn) : Ok Tryz.prog 52 [vl, vw, .pointer none, .agg #[.int .i64 x.tick, .int .i64 x.op, .int .i64 x.who, .int .i64 x.time]].toArray w fun r _ => r = .int .i64 3 := by
  refine ok_enter Tryz.func52 rfl Tryz.ntmps52 rfl ?_
  focus (refine gc_seq ?_; refine gc_region ?_; refine gw_boxd (v := .agg _) rfl rfl (fun _ => ?_); refine gM rfl rfl (by conv => (lhs; whnf)) ?_; refine gO ?_; refine gc_seq ?_; refine gc_seq ?_; refine gc_region ?_; refine gM rfl rfl (by conv => (lhs; whnf)) ?_; apply gw_d; exact w_peqnil (te := 132) (by kernel_rfl) rfl rfl rfl rfl; refine gM rfl rfl (by conv => (lhs; whnf)) ?_; refine gU rfl ?_; refine gU rfl ?_; refine gU rfl ?_; apply gw_d; exact det_pick_t (v := .bool _) rfl rfl rfl rfl; refine gM rfl rfl (by conv => (lhs; whnf)) ?_; refine gU rfl ?_; refine gU rfl ?_; refine gU rfl ?_; refine gU rfl ?_; refine gU rfl ?_; apply gw_d; exact det_pick_t (v := .bool _) rfl rfl rfl rfl; refine gM rfl rfl (by conv => (lhs; whnf)) ?_; refine gU rfl ?_; refine gU rfl ?_; refine gU rfl ?_; apply gw_d; exact det_pick_t (v := .bool _) rfl rfl rfl rfl; refine gM rfl rfl (by conv => (lhs; whnf)) ?_; refine gU rfl ?_; refine gU rfl ?_; refine gU rfl ?_; refine gU rfl ?_; refine gU rfl ?_; apply gw_d; exact det_pick_t (v := .bool _) rfl rfl rfl rfl; refine gM rfl rfl (by conv => (lhs; whnf)) ?_; refine gU rfl ?_; refine gU rfl ?_; refine gU rfl ?_; apply gw_d; exact det_pick_t (v := .bool _) rfl rfl rfl rfl; refine gM rfl rfl (by conv => (lhs; whnf)) ?_; refine gU rfl ?_; refine gU rfl ?_; refine gU rfl ?_; apply gw_d; exact det_pick_t (v := .bool _) rfl rfl rfl rfl; refine gO ?_; refine gc_if_true rfl ?_; refine gc_seq ?_; refine gc_region ?_; refine gM rfl rfl (by conv => (lhs; whnf)) ?_; refine gO ?_; refine gc_ret ?_; refine gx_then_ret ?_)
  refine gx_ret1 (v := .int _ _) rfl rfl (fun _ _ => ?_)
  rfl
theorem judge_ok (w : World) (vl vw : Value) (b : Nat) (ty : TypeId) (l : List Opn) (ws : List Wrk) (ps : List Scn) (x : Scn) (hl : Sl rOp w w.heap.size vl l) (hw : Sl rWrk w w.heap.size vw ws) (hS : Small l)
    (hr : w.heap[b]? = some (.cells (recC ps x.tick) ty (0, 0))) :
    Ok Tryz.prog 52 [vl, vw, .pointer (some ⟨b, 0, none⟩), .agg #[.int .i64 x.tick, .int .i64 x.op, .int .i64 x.who, .int .i64 x.time]].toArray w fun r _ => r = .int .i64 (judgeE l ws ps x) := by
  obtain ⟨A, c, rfl, hc, hm⟩ := len_small hl
  obtain ⟨Aw, cw, rfl, hwc, hwm, hwcell⟩ := hw.wrk
  have hbb : (⟨b, 0, none⟩ : Addr).block < w.heap.size := (Array.getElem?_eq_some_iff.1 hr).1
  have hcell : ∀ i, w.cell? ((⟨b, 0, none⟩ : Addr).add i) = (recC ps x.tick)[i]? := fun i => by
    rw [add_zero]
    exact Box.cell (ty := ty) hr i
  have hP : ∀ m : Nat, m < 16 → w.cell? ((⟨b, 0, none⟩ : Addr).add (0 + m * 1)) = some (.bool (paidB ps x.tick m)) := fun m hm => by
    rw [hcell, Nat.zero_add, Nat.mul_one, recC_paid _ _ hm]
  have hLst : w.cell? ((⟨b, 0, none⟩ : Addr).add 16) = some (.int .i64 (lastT ps x.tick)) := by rw [hcell, recC_last]
  by_cases hK : 0 ≤ x.op ∧ x.op < l.length ∧ 0 ≤ x.who ∧ x.who < ws.length ∧ 0 ≤ x.time ∧ x.time ≤ 1073741824
  · have hE : judgeE l ws ps x = if canAt ws x.who (machAt l x.op) = false then 4 else if paidB ps x.tick x.op = true then 2 else if (afterAt l x.op).all (fun a => paidB ps x.tick a) = false then 5 else if x.time < lastT ps x.tick then 6 else 1 := by
      unfold judgeE knownB
      rw [if_neg (by rw [decide_eq_true hK]; decide)]
    rw [hE]
    obtain ⟨o, ho⟩ : ∃ o : Nat, x.op = (o : Int) := ⟨x.op.toNat, by omega⟩
    obtain ⟨m, hmw⟩ : ∃ m : Nat, x.who = (m : Int) := ⟨x.who.toNat, by omega⟩
    have hol : o < l.length := by omega
    have hml : m < ws.length := by omega
    have ho16 : o < 16 := by have := hS.1; omega
    obtain ⟨ad, _, hv, _, _, hb, hocell⟩ := hl.at' 5 rfl (by omega)
    injection hv with e1 e2 e3
    subst e1 e3
    obtain ⟨cs, hce, Aa, ca, Au, cu, rfl, hnm, q1, q2⟩ := hocell o hol
    have ha : Sl rInt w w.heap.size (.slice Aa l[o].after.length ca) l[o].after := q1
    obtain ⟨_, _, hv, hac, ham, hacell⟩ := ha.int
    injection hv with e1 e2 e3
    subst e1 e3
    obtain ⟨ad2, Am, cm, rfl, hb2, hce2, hnm2, hms⟩ := hwcell m hml
    have hcan : canAt ws x.who (machAt l x.op) = hasB ws[m].machines l[o].machine := by
      unfold canAt machAt
      rw [ho, hmw, Int.toNat_natCast, Int.toNat_natCast, List.getElem?_eq_getElem hol, List.getElem?_eq_getElem hml]
      rfl
    have haft : afterAt l x.op = l[o].after := by
      unfold afterAt
      rw [ho, Int.toNat_natCast, List.getElem?_eq_getElem hol]
      rfl
    rw [hcan, haft]
    have hPo := hP o ho16
    rw [← ho] at hPo
    have hSa := hS.2 o hol
    have hCan : ∀ (L : List Res) (w' : World), St w L w' → Ok Tryz.prog 55 [.agg #[.string ws[m].name, .slice Am ws[m].machines.length cm], .int .i64 l[o].machine].toArray w' fun x _ => x = .bool (hasB ws[m].machines l[o].machine) := fun L w' s => can_ok w' ws[m].name Am 0 l[o].machine cm ws[m].machines (hms.later s)
    refine ok_enter Tryz.func52 rfl Tryz.ntmps52 rfl ?_
    focus (refine gc_seq ?_; refine gc_region ?_; refine gw_boxd (v := .agg _) rfl rfl (fun _ => ?_); refine gM rfl rfl (by conv => (lhs; whnf)) ?_; refine gO ?_; refine gc_seq ?_; refine gc_seq ?_; refine gc_region ?_; refine gM rfl rfl (by conv => (lhs; whnf)) ?_; apply gw_d; exact w_peqnil (te := 132) (by kernel_rfl) rfl rfl rfl rfl; refine gM rfl rfl (by conv => (lhs; whnf)) ?_; refine gF rfl rfl rfl ?_; apply gw_d; exact w_load_box rfl rfl rfl .here rfl; refine gC rfl rfl rfl rfl rfl ?_; apply gw_d; exact det_pick_f (v := .bool _) rfl rfl rfl rfl; refine gM rfl rfl (by conv => (lhs; whnf)) ?_; refine gw_guard_dec rfl rfl (fun _ => ?_) (fun _ => ?_); refine gU rfl ?_; refine gU rfl ?_; refine gU rfl ?_; refine gU rfl ?_; refine gU rfl ?_; apply gw_d; exact det_pick_t (v := .bool _) rfl rfl rfl rfl; refine gM rfl rfl (by conv => (lhs; whnf)) ?_; refine gU rfl ?_; refine gU rfl ?_; refine gU rfl ?_; apply gw_d; exact det_pick_t (v := .bool _) rfl rfl rfl rfl; refine gM rfl rfl (by conv => (lhs; whnf)) ?_; refine gU rfl ?_; refine gU rfl ?_; refine gU rfl ?_; refine gU rfl ?_; refine gU rfl ?_; apply gw_d; exact det_pick_t (v := .bool _) rfl rfl rfl rfl; refine gM rfl rfl (by conv => (lhs; whnf)) ?_; refine gU rfl ?_; refine gU rfl ?_; refine gU rfl ?_; apply gw_d; exact det_pick_t (v := .bool _) rfl rfl rfl rfl; refine gM rfl rfl (by conv => (lhs; whnf)) ?_; refine gU rfl ?_; refine gU rfl ?_; refine gU rfl ?_; apply gw_d; exact det_pick_t (v := .bool _) rfl rfl rfl rfl; refine gO ?_; refine gc_if_true rfl ?_; refine gc_seq ?_; refine gc_region ?_; refine gM rfl rfl (by conv => (lhs; whnf)) ?_; refine gO ?_; refine gc_ret ?_; refine gx_then_ret ?_; rotate_left; refine gF rfl rfl rfl ?_; apply gw_d; exact w_load_box rfl rfl rfl .here rfl; refine gM rfl rfl (by conv => (lhs; whnf)) ?_; refine gL rfl rfl rfl ?_; refine gC rfl rfl rfl rfl rfl ?_; apply gw_d; exact det_pick_f (v := .bool _) rfl rfl rfl rfl; refine gM rfl rfl (by conv => (lhs; whnf)) ?_; refine gw_guard_dec rfl rfl (fun _ => ?_) (fun _ => ?_); refine gU rfl ?_; refine gU rfl ?_; refine gU rfl ?_; apply gw_d; exact det_pick_t (v := .bool _) rfl rfl rfl rfl; refine gM rfl rfl (by conv => (lhs; whnf)) ?_; refine gU rfl ?_; refine gU rfl ?_; refine gU rfl ?_; refine gU rfl ?_; refine gU rfl ?_; apply gw_d; exact det_pick_t (v := .bool _) rfl rfl rfl rfl; refine gM rfl rfl (by conv => (lhs; whnf)) ?_; refine gU rfl ?_; refine gU rfl ?_; refine gU rfl ?_; apply gw_d; exact det_pick_t (v := .bool _) rfl rfl rfl rfl; refine gM rfl rfl (by conv => (lhs; whnf)) ?_; refine gU rfl ?_; refine gU rfl ?_; refine gU rfl ?_; apply gw_d; exact det_pick_t (v := .bool _) rfl rfl rfl rfl; refine gO ?_; refine gc_if_true rfl ?_; refine gc_seq ?_; refine gc_region ?_; refine gM rfl rfl (by conv => (lhs; whnf)) ?_; refine gO ?_; refine gc_ret ?_; refine gx_then_ret ?_; rotate_left; refine gF rfl rfl rfl ?_; apply gw_d; exact w_load_box rfl rfl rfl .here rfl; refine gC rfl rfl rfl rfl rfl ?_; apply gw_d; exact det_pick_f (v := .bool _) rfl rfl rfl rfl; refine gM rfl rfl (by conv => (lhs; whnf)) ?_; refine gw_guard_dec rfl rfl (fun _ => ?_) (fun _ => ?_); refine gU rfl ?_; refine gU rfl ?_; refine gU rfl ?_; refine gU rfl ?_; refine gU rfl ?_; apply gw_d; exact det_pick_t (v := .bool _) rfl rfl rfl rfl; refine gM rfl rfl (by conv => (lhs; whnf)) ?_; refine gU rfl ?_; refine gU rfl ?_; refine gU rfl ?_; apply gw_d; exact det_pick_t (v := .bool _) rfl rfl rfl rfl; refine gM rfl rfl (by conv => (lhs; whnf)) ?_; refine gU rfl ?_; refine gU rfl ?_; refine gU rfl ?_; apply gw_d; exact det_pick_t (v := .bool _) rfl rfl rfl rfl; refine gO ?_; refine gc_if_true rfl ?_; refine gc_seq ?_; refine gc_region ?_; refine gM rfl rfl (by conv => (lhs; whnf)) ?_; refine gO ?_; refine gc_ret ?_; refine gx_then_ret ?_; rotate_left; refine gF rfl rfl rfl ?_; apply gw_d; exact w_load_box rfl rfl rfl .here rfl; refine gM rfl rfl (by conv => (lhs; whnf)) ?_; refine gL rfl rfl rfl ?_; refine gC rfl rfl rfl rfl rfl ?_; apply gw_d; exact det_pick_f (v := .bool _) rfl rfl rfl rfl; refine gM rfl rfl (by conv => (lhs; whnf)) ?_; refine gw_guard_dec rfl rfl (fun _ => ?_) (fun _ => ?_); refine gU rfl ?_; refine gU rfl ?_; refine gU rfl ?_; apply gw_d; exact det_pick_t (v := .bool _) rfl rfl rfl rfl; refine gM rfl rfl (by conv => (lhs; whnf)) ?_; refine gU rfl ?_; refine gU rfl ?_; refine gU rfl ?_; apply gw_d; exact det_pick_t (v := .bool _) rfl rfl rfl rfl; refine gO ?_; refine gc_if_true rfl ?_; refine gc_seq ?_; refine gc_region ?_; refine gM rfl rfl (by conv => (lhs; whnf)) ?_; refine gO ?_; refine gc_ret ?_; refine gx_then_ret ?_; rotate_left; refine gF rfl rfl rfl ?_; apply gw_d; exact w_load_box rfl rfl rfl .here rfl; refine gC rfl rfl rfl rfl rfl ?_; apply gw_d; exact det_pick_f (v := .bool _) rfl rfl rfl rfl; refine gM rfl rfl (by conv => (lhs; whnf)) ?_; refine gw_guard_dec rfl rfl (fun _ => ?_) (fun _ => ?_); refine gU rfl ?_; refine gU rfl ?_; refine gU rfl ?_; apply gw_d; exact det_pick_t (v := .bool _) rfl rfl rfl rfl; refine gO ?_; refine gc_if_true rfl ?_; refine gc_seq ?_; refine gc_region ?_; refine gM rfl rfl (by conv => (lhs; whnf)) ?_; refine gO ?_; refine gc_ret ?_; refine gx_then_ret ?_; rotate_left; refine gF rfl rfl rfl ?_; apply gw_d; exact w_load_box rfl rfl rfl .here rfl; refine gC rfl rfl rfl rfl rfl ?_; apply gw_d; exact det_pick_f (v := .bool _) rfl rfl rfl rfl; refine gO ?_; refine gc_if_dec rfl (fun _ => ?_) (fun _ => ?_); refine gc_seq ?_; refine gc_region ?_; refine gM rfl rfl (by conv => (lhs; whnf)) ?_; refine gO ?_; refine gc_ret ?_; refine gx_then_ret ?_; rotate_left; refine gc_skip ?_; refine gx_next ?_; refine gc_seq ?_; refine gc_region ?_; refine gM rfl rfl (by conv => (lhs; whnf)) ?_; refine gF rfl rfl rfl ?_; apply gw_d; exact w_load_box rfl rfl rfl .here rfl; rotate_left)
    all_goals first | (exfalso; omega) | skip
    focus (apply gw_d; exact w_index (m := o) rfl rfl rfl rfl ho hol; apply gw_d; exact w_load_elem rfl rfl rfl (by assumption) (by assumption) (by rfl); refine w_alloc rfl (fun _ => ?_); refine w_store_all rfl rfl rfl rfl rfl .here rfl ?_; refine gO ?_; refine gc_seq ?_; refine gc_seq ?_)
    refine gc_draw 9 (by kernel_rfl) (by kernel_rfl) ?_
    focus (apply gd_d; exact det_m rfl rfl (by conv => (lhs; whnf)); apply gd_d; exact w_field rfl rfl rfl; apply gd_d; exact w_load_box rfl rfl rfl (.there .here) rfl; apply gd_d; exact w_index (m := m) rfl rfl rfl rfl hmw hml; apply gd_d; exact w_load_elem rfl rfl rfl (by assumption) (by assumption) (by rfl); apply gd_d; exact w_field rfl rfl rfl; apply gd_d; exact w_load_box rfl rfl rfl .here rfl; apply gd_d; exact w_call rfl rfl (hCan _) rfl; apply gd_d; exact det_not_ rfl rfl rfl; refine gd_nil ?_; refine gO ?_)
    refine gc_if rfl (fun h => ?_) (fun h => ?_)
    · focus (refine gc_seq ?_; refine gc_region ?_; refine gM rfl rfl (by conv => (lhs; whnf)) ?_; refine gO ?_; refine gc_ret ?_; refine gx_then_ret ?_)
      refine gx_ret1 (v := .int _ _) rfl rfl (fun _ _ => ?_)
      rw [if_pos (by simpa using h)]
    rw [if_neg (by rw [show hasB ws[m].machines l[o].machine = true by simpa using h]; decide)]
    focus (refine gc_skip ?_; refine gx_next ?_; refine gc_seq ?_; refine gc_seq ?_)
    refine gc_draw 7 (by kernel_rfl) (by kernel_rfl) ?_
    focus (apply gd_d; exact det_m rfl rfl (by conv => (lhs; whnf)); apply gd_d; exact w_field rfl rfl rfl; apply gd_d; exact w_load_box rfl rfl rfl (.there .here) rfl; apply gd_d; exact w_nilcheck rfl rfl rfl; apply gd_d; exact w_field rfl rfl rfl; apply gd_d; exact w_index_arr (m := o) rfl rfl rfl rfl ho ho16; apply gd_d; exact w_load_fld rfl rfl rfl (by assumption) (by assumption); refine gd_nil ?_; refine gO ?_)
    refine gc_if rfl (fun h => ?_) (fun h => ?_)
    · focus (refine gc_seq ?_; refine gc_region ?_; refine gM rfl rfl (by conv => (lhs; whnf)) ?_; refine gO ?_; refine gc_ret ?_; refine gx_then_ret ?_)
      refine gx_ret1 (v := .int _ _) rfl rfl (fun _ _ => ?_)
      rw [if_pos h]
    rw [if_neg (by rw [h]; decide)]
    focus (refine gc_skip ?_; refine gx_next ?_; refine gc_seq ?_; refine gc_seq ?_; refine gc_region ?_; refine gF rfl rfl rfl ?_; apply gw_d; exact w_load_box rfl rfl rfl .here rfl; refine gL rfl rfl rfl ?_; refine gM rfl rfl (by conv => (lhs; whnf)) ?_; refine gO ?_; refine gc_block ?_)
    refine gc_loopK (σ := Nat) [73, 74, 75, 11, 76, 77, 78, 79, 80, 81, 82, 8, 83, 72] (fun k => [(72, .int .i64 k)]) (fun k => k ≤ l[o].after.length ∧ (l[o].after.take k).all (fun a => paidB ps x.tick a) = true) (fun k => l[o].after.length - k) 0 ⟨Nat.zero_le _, rfl⟩ ⟨rfl, trivial⟩ ?_
    rintro k base ⟨hk, hI⟩
    focus (refine gc_seq ?_; refine gc_region ?_; refine gC rfl rfl rfl rfl rfl ?_; refine gO ?_; refine gc_seq ?_)
    refine gc_if_dec rfl (fun h2 => ?_) (fun h2 => ?_)
    · have hkl : k < l[o].after.length := by omega
      obtain ⟨ad3, rfl, hb3, hce3, _⟩ := hacell k hkl
      have hpr := hSa l[o].after[k] (List.getElem_mem hkl)
      obtain ⟨p, hp⟩ : ∃ p : Nat, l[o].after[k] = (p : Int) := ⟨l[o].after[k].toNat, by omega⟩
      have hp16 : p < 16 := by have := hS.1; omega
      have hPp := hP p hp16
      rw [← hp] at hPp
      focus (refine gc_skip ?_; refine gx_next ?_; refine gc_seq ?_; refine gc_block ?_; refine gc_seq ?_; refine gc_region ?_; apply gw_d; exact w_index rfl rfl rfl rfl (by with_reducible exact rfl) (by omega); apply gw_d; exact w_load_at rfl rfl rfl (by assumption) (by assumption); refine gM rfl rfl (by conv => (lhs; whnf)) ?_; refine gN ?_; refine gM rfl rfl (by conv => (lhs; whnf)) ?_; refine gM rfl rfl (by conv => (lhs; whnf)) ?_; apply gw_d; exact w_nilcheck rfl rfl rfl; refine gF rfl rfl rfl ?_; apply gw_d; exact w_index_arr (m := p) rfl rfl rfl rfl hp hp16; apply gw_d; exact w_load_fld rfl rfl rfl (by assumption) (by assumption); apply gw_d; exact det_not_ rfl rfl rfl; refine gO ?_)
      refine gc_if rfl (fun h3 => ?_) (fun h3 => ?_)
      · focus (refine gc_seq ?_; refine gc_region ?_; refine gM rfl rfl (by conv => (lhs; whnf)) ?_; refine gO ?_; refine gc_ret ?_; refine gx_block_ret ?_; refine gx_then_ret ?_; refine gx_then_ret ?_; refine gx_block_ret ?_; refine gx_then_ret ?_)
        refine gx_ret1 (v := .int _ _) rfl rfl (fun _ _ => ?_)
        have h4 : l[o].after.all (fun a => paidB ps x.tick a) = false := by
          rw [List.all_eq_false]
          exact ⟨l[o].after[k], List.getElem_mem hkl, by simpa using h3⟩
        rw [if_pos h4]
      · focus (refine gc_skip ?_; refine gx_block ?_; refine gx_next ?_; refine gc_region ?_; apply gw_d; exact det_ar rfl rfl rfl rfl rfl (by omega); refine gM rfl rfl (by conv => (lhs; whnf)) ?_; refine gw_nil ?_)
        refine gx_round (k + 1) ⟨by omega, ?_⟩ (by omega) (by repeat (first | exact Keeps.refl | refine Keeps.upd rfl ?_ | refine Keeps.sets rfl ?_ | refine Keeps.havoc rfl ?_)) ⟨rfl, trivial⟩ (Sub.all _)
        rw [List.take_succ_eq_append_getElem hkl, List.all_append, hI]
        have : paidB ps x.tick l[o].after[k] = true := by simpa using h3
        simp [this]
    obtain rfl : k = l[o].after.length := by omega
    rw [List.take_length] at hI
    rw [if_neg (by rw [hI]; decide)]
    focus (refine gc_exit ?_; refine gx_then_exit ?_; refine gx_then_exit ?_; refine gx_block_exit ?_; refine gx_next ?_; refine gc_seq ?_; refine gc_seq ?_)
    refine gc_draw 7 (by kernel_rfl) (by kernel_rfl) ?_
    focus (apply gd_d; exact w_field rfl rfl rfl; apply gd_d; exact w_load_box rfl rfl rfl (.there .here) rfl; apply gd_d; exact det_m rfl rfl (by conv => (lhs; whnf)); apply gd_d; exact w_nilcheck rfl rfl rfl; apply gd_d; exact w_field rfl rfl rfl; apply gd_d; exact w_load_at rfl rfl rfl (by assumption) (by assumption); apply gd_d; exact det_cmp rfl rfl rfl rfl rfl; refine gd_nil ?_; refine gO ?_)
    refine gc_if_dec rfl (fun h3 => ?_) (fun h3 => ?_)
    · focus (refine gc_seq ?_; refine gc_region ?_; refine gM rfl rfl (by conv => (lhs; whnf)) ?_; refine gO ?_; refine gc_ret ?_; refine gx_then_ret ?_)
      refine gx_ret1 (v := .int _ _) rfl rfl (fun _ _ => ?_)
      rw [if_pos h3]
    · focus (refine gc_skip ?_; refine gx_next ?_; refine gc_seq ?_; refine gc_region ?_; refine gM rfl rfl (by conv => (lhs; whnf)) ?_; refine gO ?_; refine gc_ret ?_)
      refine gx_ret1 (v := .int _ _) rfl rfl (fun _ _ => ?_)
      rw [if_neg h3]
  · have hE : judgeE l ws ps x = 3 := by
      unfold judgeE knownB
      rw [if_pos (by rw [decide_eq_false hK])]
    rw [hE]
    refine ok_enter Tryz.func52 rfl Tryz.ntmps52 rfl ?_
    focus (refine gc_seq ?_; refine gc_region ?_; refine gw_boxd (v := .agg _) rfl rfl (fun _ => ?_); refine gM rfl rfl (by conv => (lhs; whnf)) ?_; refine gO ?_; refine gc_seq ?_; refine gc_seq ?_; refine gc_region ?_; refine gM rfl rfl (by conv => (lhs; whnf)) ?_; apply gw_d; exact w_peqnil (te := 132) (by kernel_rfl) rfl rfl rfl rfl; refine gM rfl rfl (by conv => (lhs; whnf)) ?_; refine gF rfl rfl rfl ?_; apply gw_d; exact w_load_box rfl rfl rfl .here rfl; refine gC rfl rfl rfl rfl rfl ?_; apply gw_d; exact det_pick_f (v := .bool _) rfl rfl rfl rfl; refine gM rfl rfl (by conv => (lhs; whnf)) ?_; refine gw_guard_dec rfl rfl (fun _ => ?_) (fun _ => ?_); refine gU rfl ?_; refine gU rfl ?_; refine gU rfl ?_; refine gU rfl ?_; refine gU rfl ?_; apply gw_d; exact det_pick_t (v := .bool _) rfl rfl rfl rfl; refine gM rfl rfl (by conv => (lhs; whnf)) ?_; refine gU rfl ?_; refine gU rfl ?_; refine gU rfl ?_; apply gw_d; exact det_pick_t (v := .bool _) rfl rfl rfl rfl; refine gM rfl rfl (by conv => (lhs; whnf)) ?_; refine gU rfl ?_; refine gU rfl ?_; refine gU rfl ?_; refine gU rfl ?_; refine gU rfl ?_; apply gw_d; exact det_pick_t (v := .bool _) rfl rfl rfl rfl; refine gM rfl rfl (by conv => (lhs; whnf)) ?_; refine gU rfl ?_; refine gU rfl ?_; refine gU rfl ?_; apply gw_d; exact det_pick_t (v := .bool _) rfl rfl rfl rfl; refine gM rfl rfl (by conv => (lhs; whnf)) ?_; refine gU rfl ?_; refine gU rfl ?_; refine gU rfl ?_; apply gw_d; exact det_pick_t (v := .bool _) rfl rfl rfl rfl; refine gO ?_; refine gc_if_true rfl ?_; refine gc_seq ?_; refine gc_region ?_; refine gM rfl rfl (by conv => (lhs; whnf)) ?_; refine gO ?_; refine gc_ret ?_; refine gx_then_ret ?_; rotate_left; refine gF rfl rfl rfl ?_; apply gw_d; exact w_load_box rfl rfl rfl .here rfl; refine gM rfl rfl (by conv => (lhs; whnf)) ?_; refine gL rfl rfl rfl ?_; refine gC rfl rfl rfl rfl rfl ?_; apply gw_d; exact det_pick_f (v := .bool _) rfl rfl rfl rfl; refine gM rfl rfl (by conv => (lhs; whnf)) ?_; refine gw_guard_dec rfl rfl (fun _ => ?_) (fun _ => ?_); refine gU rfl ?_; refine gU rfl ?_; refine gU rfl ?_; apply gw_d; exact det_pick_t (v := .bool _) rfl rfl rfl rfl; refine gM rfl rfl (by conv => (lhs; whnf)) ?_; refine gU rfl ?_; refine gU rfl ?_; refine gU rfl ?_; refine gU rfl ?_; refine gU rfl ?_; apply gw_d; exact det_pick_t (v := .bool _) rfl rfl rfl rfl; refine gM rfl rfl (by conv => (lhs; whnf)) ?_; refine gU rfl ?_; refine gU rfl ?_; refine gU rfl ?_; apply gw_d; exact det_pick_t (v := .bool _) rfl rfl rfl rfl; refine gM rfl rfl (by conv => (lhs; whnf)) ?_; refine gU rfl ?_; refine gU rfl ?_; refine gU rfl ?_; apply gw_d; exact det_pick_t (v := .bool _) rfl rfl rfl rfl; refine gO ?_; refine gc_if_true rfl ?_; refine gc_seq ?_; refine gc_region ?_; refine gM rfl rfl (by conv => (lhs; whnf)) ?_; refine gO ?_; refine gc_ret ?_; refine gx_then_ret ?_; rotate_left; refine gF rfl rfl rfl ?_; apply gw_d; exact w_load_box rfl rfl rfl .here rfl; refine gC rfl rfl rfl rfl rfl ?_; apply gw_d; exact det_pick_f (v := .bool _) rfl rfl rfl rfl; refine gM rfl rfl (by conv => (lhs; whnf)) ?_; refine gw_guard_dec rfl rfl (fun _ => ?_) (fun _ => ?_); refine gU rfl ?_; refine gU rfl ?_; refine gU rfl ?_; refine gU rfl ?_; refine gU rfl ?_; apply gw_d; exact det_pick_t (v := .bool _) rfl rfl rfl rfl; refine gM rfl rfl (by conv => (lhs; whnf)) ?_; refine gU rfl ?_; refine gU rfl ?_; refine gU rfl ?_; apply gw_d; exact det_pick_t (v := .bool _) rfl rfl rfl rfl; refine gM rfl rfl (by conv => (lhs; whnf)) ?_; refine gU rfl ?_; refine gU rfl ?_; refine gU rfl ?_; apply gw_d; exact det_pick_t (v := .bool _) rfl rfl rfl rfl; refine gO ?_; refine gc_if_true rfl ?_; refine gc_seq ?_; refine gc_region ?_; refine gM rfl rfl (by conv => (lhs; whnf)) ?_; refine gO ?_; refine gc_ret ?_; refine gx_then_ret ?_; rotate_left; refine gF rfl rfl rfl ?_; apply gw_d; exact w_load_box rfl rfl rfl .here rfl; refine gM rfl rfl (by conv => (lhs; whnf)) ?_; refine gL rfl rfl rfl ?_; refine gC rfl rfl rfl rfl rfl ?_; apply gw_d; exact det_pick_f (v := .bool _) rfl rfl rfl rfl; refine gM rfl rfl (by conv => (lhs; whnf)) ?_; refine gw_guard_dec rfl rfl (fun _ => ?_) (fun _ => ?_); refine gU rfl ?_; refine gU rfl ?_; refine gU rfl ?_; apply gw_d; exact det_pick_t (v := .bool _) rfl rfl rfl rfl; refine gM rfl rfl (by conv => (lhs; whnf)) ?_; refine gU rfl ?_; refine gU rfl ?_; refine gU rfl ?_; apply gw_d; exact det_pick_t (v := .bool _) rfl rfl rfl rfl; refine gO ?_; refine gc_if_true rfl ?_; refine gc_seq ?_; refine gc_region ?_; refine gM rfl rfl (by conv => (lhs; whnf)) ?_; refine gO ?_; refine gc_ret ?_; refine gx_then_ret ?_; rotate_left; refine gF rfl rfl rfl ?_; apply gw_d; exact w_load_box rfl rfl rfl .here rfl; refine gC rfl rfl rfl rfl rfl ?_; apply gw_d; exact det_pick_f (v := .bool _) rfl rfl rfl rfl; refine gM rfl rfl (by conv => (lhs; whnf)) ?_; refine gw_guard_dec rfl rfl (fun _ => ?_) (fun _ => ?_); refine gU rfl ?_; refine gU rfl ?_; refine gU rfl ?_; apply gw_d; exact det_pick_t (v := .bool _) rfl rfl rfl rfl; refine gO ?_; refine gc_if_true rfl ?_; refine gc_seq ?_; refine gc_region ?_; refine gM rfl rfl (by conv => (lhs; whnf)) ?_; refine gO ?_; refine gc_ret ?_; refine gx_then_ret ?_; rotate_left; refine gF rfl rfl rfl ?_; apply gw_d; exact w_load_box rfl rfl rfl .here rfl; refine gC rfl rfl rfl rfl rfl ?_; apply gw_d; exact det_pick_f (v := .bool _) rfl rfl rfl rfl; refine gO ?_; refine gc_if_dec rfl (fun _ => ?_) (fun _ => ?_); refine gc_seq ?_; refine gc_region ?_; refine gM rfl rfl (by conv => (lhs; whnf)) ?_; refine gO ?_; refine gc_ret ?_; refine gx_then_ret ?_; rotate_left; refine gc_skip ?_; refine gx_next ?_; refine gc_seq ?_; refine gc_region ?_; refine gM rfl rfl (by conv => (lhs; whnf)) ?_; refine gF rfl rfl rfl ?_; apply gw_d; exact w_load_box rfl rfl rfl .here rfl; rotate_left)
    all_goals first | (refine gx_ret1 (v := .int _ _) rfl rfl (fun _ _ => ?_); rfl) | skip
    exfalso
    omega
end Go.Proofs.YtljibjlkjelpbaaGreatDoor

/- Contracts: scans are judged, given what operation.Check answers. -/
namespace Go.Proofs.YtljibjlkjelpbaaGreatDoor
open Go.RowKit
set_option maxRecDepth 100000
set_option maxHeartbeats 4000000

def ticks (bs : List Bun) : List Int := bs.map (·.tick)
theorem ticks_at {bs : List Bun} {k : Nat} (hk : k < bs.length) : tkAt (ticks bs) k = bs[k].tick := by
  unfold tkAt ticks
  simp [hk]
structure ScanOk (e : Int) (bs : List Bun) (ws : List Wrk) : Prop where
  op : e = 0
  le : bs.length ≤ 60
  tix : Tix (ticks bs)
  plies : ∀ k (hk : k < bs.length), 1 ≤ bs[k].upto - bs[k].fr ∧ bs[k].upto - bs[k].fr ≤ 40
  skill : skillE ws = 0
theorem scan_good {e : Int} {bs : List Bun} {ws : List Wrk} (h : scanE e bs ws = 0) : ScanOk e bs ws := by
  unfold scanE at h
  split at h
  · rename_i h1; exact absurd h h1
  rename_i h1
  split at h
  · cases h
  rename_i h2
  split at h
  · rename_i h3; exact absurd h h3
  rename_i h3
  have h4 : firstE (bunE bs) bs.length = 0 := by simpa using h3
  have h5 : ∀ k (hk : k < bs.length), ¬ (bs[k].fr ≥ bs[k].upto ∨ bs[k].upto - bs[k].fr > 40) ∧ ((bs.take k).any fun y => decide (y.tick = bs[k].tick)) = false := fun k hk => by
    have h6 := firstE_at h4 k hk
    unfold bunE at h6
    rw [List.getElem?_eq_getElem hk] at h6
    dsimp only at h6
    split at h6
    · cases h6
    · rename_i h7
      split at h6
      · cases h6
      · rename_i h8; exact ⟨h7, by simpa using h8⟩
  refine ⟨by simpa using h1, by omega, fun i j hij hj => ?_, fun k hk => by have := (h5 k hk).1; omega, h⟩
  have hj' : j < bs.length := by simpa [ticks] using hj
  rw [ticks_at (by omega), ticks_at hj']
  intro hc
  have := List.any_eq_false.1 (h5 j hj').2 bs[i] (List.mem_take_iff_getElem.2 ⟨i, by omega, rfl⟩)
  simp [hc] at this
theorem Sl.scn {w : World} {B : Nat} {v : Value} {l : List Scn} (h : Sl rScn w B v l) : ∃ A c, v = .slice A l.length c ∧ l.length ≤ c ∧ l.length ≤ 9223372036854775807 ∧
    ∀ k (hk : k < l.length), ∃ ad, A = some ad ∧ ad.block < B ∧ (∀ j u, [Value.int .i64 l[k].tick, .int .i64 l[k].op, .int .i64 l[k].who, .int .i64 l[k].time][j]? = some u → w.cell? (ad.add (k * 4 + j)) = some u) ∧ inI64 l[k].tick ∧ inI64 l[k].op ∧ inI64 l[k].who ∧ inI64 l[k].time := by
  obtain ⟨A, c, hv, h1, h2, h3⟩ := h
  refine ⟨A, c, hv, h1, by unfold maxLen at h2; omega, fun k hk => ?_⟩
  obtain ⟨ad, cs, ha, hlt, hc, rfl, hr⟩ := h3 k hk
  exact ⟨ad, ha, hlt, hc, hr⟩
theorem judgeAll_bad (w : World) (v0 v1 v2 v3 v4 v5 v6 vb vw vx : Value) (e : Int) (bs : List Bun) (ws : List Wrk) (hO : ∀ (L : List Res) (w' : World), St w L w' → Ok Tryz.prog 53 [.agg #[v0, v1, v2, v3, v4, v5, v6]].toArray w' fun x _ => x = .int .i64 e)
    (hb : Sl rBun w w.heap.size vb bs) (hw : Sl rWrk w w.heap.size vw ws) (he : ¬ scanE e bs ws = 0) : Ok Tryz.prog 48 [.agg #[v0, v1, v2, v3, v4, v5, v6], vb, vw, vx].toArray w fun x _ => x = .tuple #[.slice none 0 0, .map none, .int .i64 (scanE e bs ws)] := by
  have hC : ∀ (L : List Res) (w' : World), St w L w' → Ok Tryz.prog 51 [.agg #[v0, v1, v2, v3, v4, v5, v6], vb, vw].toArray w' fun x _ => x = .int .i64 (scanE e bs ws) := fun L w' s => scanCheck_ok w' v0 v1 v2 v3 v4 v5 v6 vb vw e bs ws (fun L' w2 s2 => hO [] w2 ⟨s.below.trans (Below.mono s2.below s.below.size), trivial⟩) (hb.later s) (hw.later s)
  refine ok_enter Tryz.func48 rfl Tryz.ntmps48 rfl ?_
  focus (refine gc_seq ?_; refine gc_region ?_; refine gw_boxd (v := .agg _) rfl rfl (fun _ => ?_); refine gM rfl rfl (by conv => (lhs; whnf)) ?_; refine gM rfl rfl (by conv => (lhs; whnf)) ?_; refine gM rfl rfl (by conv => (lhs; whnf)) ?_; refine gO ?_; refine gc_seq ?_; refine gc_seq ?_; refine gc_region ?_; apply gw_d; exact w_load_boxN rfl rfl rfl .here rfl; refine gM rfl rfl (by conv => (lhs; whnf)) ?_; refine gM rfl rfl (by conv => (lhs; whnf)) ?_; apply gw_d; exact w_call rfl rfl (hC _) rfl; refine gM rfl rfl (by conv => (lhs; whnf)) ?_; refine gN ?_; refine gM rfl rfl (by conv => (lhs; whnf)) ?_; refine gC rfl rfl rfl rfl rfl ?_; refine gO ?_)
  refine gc_if_dec rfl (fun h => ?_) (fun h => absurd he h)
  focus (refine gc_seq ?_; refine gc_region ?_; refine gM rfl rfl (by conv => (lhs; whnf)) ?_; refine gM rfl rfl (by conv => (lhs; whnf)) ?_; refine gM rfl rfl (by conv => (lhs; whnf)) ?_; refine gM rfl rfl (by conv => (lhs; whnf)) ?_; refine gO ?_; refine gc_ret ?_; refine gx_then_ret ?_)
  refine gx_ret3 (u := .slice _ _ _) (v := .map _) (x := .int _ _) rfl rfl rfl rfl (fun _ _ => ?_)
  rfl
theorem judgeAll_long (w : World) (v0 v1 v2 v3 v4 v5 v6 vb vw vx : Value) (e : Int) (bs : List Bun) (ws : List Wrk) (xs : List Scn) (hO : ∀ (L : List Res) (w' : World), St w L w' → Ok Tryz.prog 53 [.agg #[v0, v1, v2, v3, v4, v5, v6]].toArray w' fun x _ => x = .int .i64 e)
    (hb : Sl rBun w w.heap.size vb bs) (hw : Sl rWrk w w.heap.size vw ws) (hx : Sl rScn w w.heap.size vx xs) (he : scanE e bs ws = 0) (h300 : xs.length > 300) : Ok Tryz.prog 48 [.agg #[v0, v1, v2, v3, v4, v5, v6], vb, vw, vx].toArray w fun x _ => x = .tuple #[.slice none 0 0, .map none, .int .i64 5] := by
  have hC : ∀ (L : List Res) (w' : World), St w L w' → Ok Tryz.prog 51 [.agg #[v0, v1, v2, v3, v4, v5, v6], vb, vw].toArray w' fun x _ => x = .int .i64 0 := fun L w' s => by
    have := scanCheck_ok w' v0 v1 v2 v3 v4 v5 v6 vb vw e bs ws (fun L' w2 s2 => hO [] w2 ⟨s.below.trans (Below.mono s2.below s.below.size), trivial⟩) (hb.later s) (hw.later s)
    rw [he] at this
    exact this
  obtain ⟨Ax, cx, rfl, hxc, hxm, hxcell⟩ := hx.scn
  refine ok_enter Tryz.func48 rfl Tryz.ntmps48 rfl ?_
  focus (refine gc_seq ?_; refine gc_region ?_; refine gw_boxd (v := .agg _) rfl rfl (fun _ => ?_); refine gM rfl rfl (by conv => (lhs; whnf)) ?_; refine gM rfl rfl (by conv => (lhs; whnf)) ?_; refine gM rfl rfl (by conv => (lhs; whnf)) ?_; refine gO ?_; refine gc_seq ?_; refine gc_seq ?_; refine gc_region ?_; apply gw_d; exact w_load_boxN rfl rfl rfl .here rfl; refine gM rfl rfl (by conv => (lhs; whnf)) ?_; refine gM rfl rfl (by conv => (lhs; whnf)) ?_; apply gw_d; exact w_call rfl rfl (hC _) rfl; refine gM rfl rfl (by conv => (lhs; whnf)) ?_; refine gN ?_; refine gM rfl rfl (by conv => (lhs; whnf)) ?_; refine gC rfl rfl rfl rfl rfl ?_; refine gO ?_)
  refine gc_if_dec rfl (fun h => absurd rfl h) (fun _ => ?_)
  focus (refine gc_skip ?_; refine gx_next ?_; refine gc_seq ?_; refine gc_seq ?_; refine gc_region ?_; refine gM rfl rfl (by conv => (lhs; whnf)) ?_; refine gL rfl rfl rfl ?_; refine gC rfl rfl rfl rfl rfl ?_; refine gO ?_)
  refine gc_if_dec rfl (fun h => ?_) (fun h => by omega)
  focus (refine gc_seq ?_; refine gc_region ?_; refine gM rfl rfl (by conv => (lhs; whnf)) ?_; refine gM rfl rfl (by conv => (lhs; whnf)) ?_; refine gM rfl rfl (by conv => (lhs; whnf)) ?_; refine gO ?_; refine gc_ret ?_; refine gx_then_ret ?_)
  refine gx_ret3 (u := .slice _ _ _) (v := .map _) (x := .int _ _) rfl rfl rfl rfl (fun _ _ => ?_)
  rfl
theorem judgeAll_ok (w : World) (v0 v1 v2 v3 v4 v5 v6 vb vw vx : Value) (e : Int) (l : List Opn) (bs : List Bun) (ws : List Wrk) (xs : List Scn) (hO : ∀ (L : List Res) (w' : World), St w L w' → Ok Tryz.prog 53 [.agg #[v0, v1, v2, v3, v4, v5, v6]].toArray w' fun x _ => x = .int .i64 e)
    (hl : Sl rOp w w.heap.size v6 l) (hb : Sl rBun w w.heap.size vb bs) (hw : Sl rWrk w w.heap.size vw ws) (hx : Sl rScn w w.heap.size vx xs) (hS : Small l) (he : scanE e bs ws = 0) (h300 : ¬ xs.length > 300) :
    OkM Tryz.prog 48 [.agg #[v0, v1, v2, v3, v4, v5, v6], vb, vw, vx].toArray w (fun x : Nat × Nat => .tuple #[.slice (some ⟨x.1, 0, none⟩) xs.length xs.length, .map (some x.2), .int .i64 0]) (fun x => [Box x.1 3 ((outs l ws (ticks bs) [] xs).map (Value.int .i64)).toArray]) := by
  have hC : ∀ (L : List Res) (w' : World), St w L w' → Ok Tryz.prog 51 [.agg #[v0, v1, v2, v3, v4, v5, v6], vb, vw].toArray w' fun x _ => x = .int .i64 0 := fun L w' s => by
    have := scanCheck_ok w' v0 v1 v2 v3 v4 v5 v6 vb vw e bs ws (fun L' w2 s2 => hO [] w2 ⟨s.below.trans (Below.mono s2.below s.below.size), trivial⟩) (hb.later s) (hw.later s)
    rw [he] at this
    exact this
  have hOk := scan_good he
  have htl : (ticks bs).length = bs.length := by simp [ticks]
  obtain ⟨Al, cl, rfl, hlc, hlm⟩ := len_small hl
  obtain ⟨Ab, cb, rfl, hbc, hbm, hbcell⟩ := hb.bun
  obtain ⟨Aw, cw, rfl, hwc, hwm, _⟩ := hw.wrk
  obtain ⟨Ax, cx, rfl, hxc, hxm, hxcell⟩ := hx.scn
  unfold OkM
  refine ok_enter Tryz.func48 rfl Tryz.ntmps48 rfl ?_
  focus (refine gc_seq ?_; refine gc_region ?_; refine gw_boxd (v := .agg _) rfl rfl (fun _ => ?_); refine gM rfl rfl (by conv => (lhs; whnf)) ?_; refine gM rfl rfl (by conv => (lhs; whnf)) ?_; refine gM rfl rfl (by conv => (lhs; whnf)) ?_; refine gO ?_; refine gc_seq ?_; refine gc_seq ?_; refine gc_region ?_; apply gw_d; exact w_load_boxN rfl rfl rfl .here rfl; refine gM rfl rfl (by conv => (lhs; whnf)) ?_; refine gM rfl rfl (by conv => (lhs; whnf)) ?_; apply gw_d; exact w_call rfl rfl (hC _) rfl; refine gM rfl rfl (by conv => (lhs; whnf)) ?_; refine gN ?_; refine gM rfl rfl (by conv => (lhs; whnf)) ?_; refine gC rfl rfl rfl rfl rfl ?_; refine gO ?_)
  rename_i bv
  refine gc_if_dec rfl (fun h => absurd rfl h) (fun _ => ?_)
  focus (refine gc_skip ?_; refine gx_next ?_; refine gc_seq ?_; refine gc_seq ?_; refine gc_region ?_; refine gM rfl rfl (by conv => (lhs; whnf)) ?_; refine gL rfl rfl rfl ?_; refine gC rfl rfl rfl rfl rfl ?_; refine gO ?_)
  refine gc_if_dec rfl (fun h => by omega) (fun _ => ?_)
  focus (refine gc_skip ?_; refine gx_next ?_; refine gc_seq ?_; refine gc_region ?_)
  refine gw_makeMap kInt rfl (fun bm => ?_)
  focus (refine gM rfl rfl (by conv => (lhs; whnf)) ?_; refine gO ?_; refine gc_seq ?_; refine gc_seq ?_; refine gc_region ?_; refine gM rfl rfl (by conv => (lhs; whnf)) ?_; refine gL rfl rfl rfl ?_; refine gM rfl rfl (by conv => (lhs; whnf)) ?_; refine gO ?_; refine gc_block ?_)
  refine gc_ent (coll_nil (F := recF (ticks bs) (fun _ => 0) 132 [])) ?_
  refine gc_loop (σ := Nat × (Nat → Nat)) [33, 34, 35, 14, 36, 37, 38, 39, 40, 41, 32] (fun s => [(32, .int .i64 s.1)]) (fun s => [Coll s.1 (recF (ticks bs) s.2 132 []), MapR bm kInt (mapK (ticks bs) s.2 s.1), Box bv 29 #[v0, v1, v2, v3, v4, v5, .slice Al l.length cl]]) (fun s => s.1 ≤ bs.length) (fun s => bs.length - s.1) (0, fun _ => 0) (Nat.zero_le _) ⟨rfl, trivial⟩ (.cons .here (.cons .here (.cons .here .nil))) ?_
  rintro ⟨k, β⟩ base hk
  dsimp only at hk ⊢
  focus (refine gc_seq ?_; refine gc_region ?_; refine gC rfl rfl rfl rfl rfl ?_; refine gO ?_; refine gc_seq ?_)
  refine gc_if_dec rfl (fun h => ?_) (fun h => ?_)
  · have hlt : k < bs.length := by omega
    obtain ⟨ad, rfl, hbk, hce, h1, h2, h3⟩ := hbcell k hlt
    focus (refine gc_skip ?_; refine gx_next ?_; refine gc_seq ?_; refine gc_block ?_; refine gc_seq ?_; refine gc_region ?_; apply gw_d; exact w_index rfl rfl rfl rfl (by with_reducible exact rfl) (by omega); apply gw_d; exact w_load_elem rfl rfl rfl (by assumption) (by assumption) (by rfl); refine w_alloc rfl (fun _ => ?_); refine w_store_all rfl rfl rfl rfl rfl .here rfl ?_; refine gO ?_; refine gc_region ?_; refine gM rfl rfl (by conv => (lhs; whnf)) ?_; refine gF rfl rfl rfl ?_; apply gw_d; exact w_load_box rfl rfl rfl .here rfl; apply gw_d; exact w_buildP [] (cells := recC [] 0) (by rfl) rfl rfl rfl; refine gw_boxd (v := .agg _) rfl rfl (fun _ => ?_))
    rename_i b1 b2
    refine gw_mapSet (k := bs[k].tick) (v := .pointer (some ⟨b2, 0, none⟩)) intLawC rfl rfl rfl rfl (.there (.there (.there .here))) ?_
    have hmap : aset (mapK (ticks bs) β k) bs[k].tick (.pointer (some ⟨b2, 0, none⟩)) = mapK (ticks bs) (fun i => if i = k then b2 else β i) (k + 1) := by
      show _ = aset (mapK (ticks bs) (fun i => if i = k then b2 else β i) k) (tkAt (ticks bs) k) (ptrAt (fun i => if i = k then b2 else β i) k)
      rw [mapK_congr (β := β) (β' := fun i => if i = k then b2 else β i) k (fun i hi => by rw [if_neg (by omega)]), ticks_at hlt]
      simp [ptrAt]
    rw [hmap]
    focus (refine gw_nil ?_; refine gx_block ?_; refine gx_next ?_; refine gc_region ?_; apply gw_d; exact det_ar rfl rfl rfl rfl rfl (by omega); refine gM rfl rfl (by conv => (lhs; whnf)) ?_; refine gw_nil ?_)
    refine gx_roundE (k + 1, fun i => if i = k then b2 else β i) hlt (by dsimp only; omega) (by repeat (first | exact Keeps.refl | refine Keeps.upd rfl ?_ | refine Keeps.sets rfl ?_ | refine Keeps.havoc rfl ?_)) ⟨rfl, trivial⟩ ?_
    refine Ent.trans (Sub.ent (K := [Box b2 132 (recC [] (tkAt (ticks bs) k)), Coll k (recF (ticks bs) β 132 []), MapR bm kInt (mapK (ticks bs) (fun i => if i = k then b2 else β i) (k + 1)), Box bv 29 #[v0, v1, v2, v3, v4, v5, .slice Al l.length cl]]) (.cons (.there .here) (.cons (.there (.there .here)) (.cons .here (.cons (.there .here) .nil))))) rec_push
  obtain rfl : k = bs.length := by omega
  focus (refine gc_exit ?_; refine gx_then_exit ?_; refine gx_then_exit ?_; refine gx_block_exit ?_; refine gx_next ?_; refine gc_seq ?_; refine gc_region ?_; refine gM rfl rfl (by conv => (lhs; whnf)) ?_; refine gL rfl rfl rfl ?_)
  refine gw_make1 (n := xs.length) rfl rfl rfl rfl rfl (by omega) (by omega) rfl (fun g => ?_)
  rw [show Array.replicate xs.length ((Value.int .i64 0).cells.getD 0 undef) = ((outRow (outs l ws (ticks bs) [] (xs.take 0)) xs.length).map (Value.int .i64)).toArray from by rw [List.take_zero]; show _ = ((outRow [] xs.length).map (Value.int .i64)).toArray; rw [outRow_nil]; exact row_make (Value.int .i64) xs.length 0]
  focus (refine gM rfl rfl (by conv => (lhs; whnf)) ?_; refine gO ?_; refine gc_seq ?_; refine gc_seq ?_; refine gc_region ?_; refine gM rfl rfl (by conv => (lhs; whnf)) ?_; refine gL rfl rfl rfl ?_; refine gM rfl rfl (by conv => (lhs; whnf)) ?_; refine gO ?_; refine gc_block ?_)
  refine gc_loop (σ := Nat) [48, 49, 50, 51, 17, 16, 52, 53, 54, 55, 18, 56, 57, 58, 59, 60, 61, 62, 63, 64, 65, 66, 67, 68, 69, 70, 71, 72, 73, 74, 75, 76, 77, 78, 79, 80, 81, 47] (fun i => [(47, .int .i64 i)]) (fun i => [Box g 3 ((outRow (outs l ws (ticks bs) [] (xs.take i)) xs.length).map (Value.int .i64)).toArray, Coll (ticks bs).length (recF (ticks bs) β 132 (paidL l ws (ticks bs) (xs.take i))), MapR bm kInt (mapK (ticks bs) β (ticks bs).length), Box bv 29 #[v0, v1, v2, v3, v4, v5, .slice Al l.length cl]]) (fun i => i ≤ xs.length) (fun i => xs.length - i) 0 (Nat.zero_le _) ⟨rfl, trivial⟩ (by rw [htl]; exact (.cons .here (.cons .here (.cons .here (.cons .here .nil))))) ?_
  rintro i base2 hi
  focus (refine gc_seq ?_; refine gc_region ?_; refine gC rfl rfl rfl rfl rfl ?_; refine gO ?_; refine gc_seq ?_)
  refine gc_if_dec rfl (fun h2 => ?_) (fun h2 => ?_)
  · have hil : i < xs.length := by omega
    obtain ⟨ad2, rfl, hxk, hcx, x1, x2, x3, x4⟩ := hxcell i hil
    have hol := outs_len l ws (ticks bs) (xs.take i) []
    rw [List.length_take, Nat.min_eq_left (by omega)] at hol
    have hosn := outs_snoc l ws (ticks bs) xs[i] (xs.take i) []
    have hpsn := paidL_snoc l ws (ticks bs) (xs.take i) xs[i]
    rw [← List.take_succ_eq_append_getElem hil] at hosn hpsn
    change _ = _ ++ [outE l ws (ticks bs) (paidL l ws (ticks bs) (xs.take i)) xs[i]] at hosn
    generalize paidL l ws (ticks bs) (xs.take i) = ps at *
    generalize outs l ws (ticks bs) [] (xs.take i) = os at *
    have hrl := outRow_len (l := os) (n := xs.length) (by omega)
    generalize xs[i] = x at *
    focus (refine gc_skip ?_; refine gx_next ?_; refine gc_seq ?_; refine gc_block ?_; refine gc_seq ?_; refine gc_region ?_; refine gM rfl rfl (by conv => (lhs; whnf)) ?_; apply gw_d; exact w_index rfl rfl rfl rfl (by with_reducible exact rfl) (by omega); apply gw_d; exact w_load_elem rfl rfl rfl (by assumption) (by assumption) (by rfl); refine w_alloc rfl (fun _ => ?_); refine gM rfl rfl (by conv => (lhs; whnf)) ?_; refine w_store_all rfl rfl rfl rfl rfl .here rfl ?_; refine gN ?_; refine gM rfl rfl (by conv => (lhs; whnf)) ?_; refine gF rfl rfl rfl ?_; apply gw_d; exact w_load_box rfl rfl rfl .here rfl)
    rename_i bx
    have hset : ∀ v : Int, (outRow os xs.length).set i v = outRow (os ++ [v]) xs.length := fun v => by
      have := outRow_set (l := os) (n := xs.length) (by omega) v
      rw [hol] at this
      exact this
    have hgot : ∀ v : Int, (((outRow (os ++ [v]) xs.length).map (Value.int .i64)).toArray)[i * 1]? = some (.int .i64 v) := fun v => by
      rw [← hset v, row_get (Value.int .i64) 0 (by rw [List.length_set]; omega)]
      simp [hrl, hil]
    cases hT : hasB (ticks bs) x.tick with
    | false =>
      have hget := mapK_none (β := β) (ticks bs).length (tk_not hT)
      have hE : outE l ws (ticks bs) ps x = 3 := by unfold outE; rw [if_pos hT]
      have hN : nextP l ws (ticks bs) ps x = ps := by unfold nextP; rw [hE]; rfl
      rw [hE] at hosn
      rw [hN] at hpsn
      focus (apply gw_d; exact det_eq (c' := .pointer none) (w_lookup (k := x.tick) intLawC rfl rfl rfl rfl (.there (.there (.there .here)))) (by rw [hget]; rfl); refine gM rfl rfl (by conv => (lhs; whnf)) ?_; refine gN ?_; refine gM rfl rfl (by conv => (lhs; whnf)) ?_; refine gM rfl rfl (by conv => (lhs; whnf)) ?_; refine gF rfl rfl rfl ?_; apply gw_d; exact w_load_box rfl rfl rfl (.there (.there (.there (.there .here)))) rfl; refine gM rfl rfl (by conv => (lhs; whnf)) ?_; refine gM rfl rfl (by conv => (lhs; whnf)) ?_; apply gw_d; exact w_load_boxN rfl rfl rfl .here rfl; apply gw_d; exact w_call rfl rfl (fun w' _ => judge_nil w' _ _ x) rfl; apply gw_d; exact w_index rfl rfl rfl rfl (by with_reducible exact rfl) (by omega))
      refine w_store_row (n := 1) (v := .int .i64 3) rfl rfl rfl rfl rfl (.there .here) (by simp; omega) (row_set (Value.int .i64) (by omega) _) ?_
      rw [hset 3]
      focus (refine gN ?_; refine gM rfl rfl (by conv => (lhs; whnf)) ?_; refine gM rfl rfl (by conv => (lhs; whnf)) ?_; apply gw_d; exact w_index rfl rfl rfl rfl (by with_reducible exact rfl) (by omega); apply gw_d; exact w_load_row rfl rfl rfl .here (hgot 3); refine gC rfl rfl rfl rfl rfl ?_; refine gO ?_)
      refine gc_if_dec rfl (fun h => absurd h (by decide)) (fun _ => ?_)
      focus (refine gc_skip ?_; refine gx_block ?_; refine gx_next ?_; refine gc_region ?_; apply gw_d; exact det_ar rfl rfl rfl rfl rfl (by omega); refine gM rfl rfl (by conv => (lhs; whnf)) ?_; refine gw_nil ?_)
      refine gx_round (i + 1) hil (by omega) (by repeat (first | exact Keeps.refl | refine Keeps.upd rfl ?_ | refine Keeps.sets rfl ?_ | refine Keeps.havoc rfl ?_)) ⟨rfl, trivial⟩ ?_
      rw [hosn, hpsn]
      exact .cons .here (.cons (.there .here) (.cons (.there .here) (.cons (.there .here) .nil)))
    | true =>
      obtain ⟨j, hj, hjt⟩ := tk_has hT
      have hget := mapK_old (β := β) hOk.tix (ticks bs).length (Nat.le_refl _) j hj
      rw [hjt] at hget
      have hE : outE l ws (ticks bs) ps x = judgeE l ws ps x := by unfold outE; rw [if_neg (by rw [hT]; decide)]
      focus (apply gw_d; exact det_eq (c' := .pointer (some ⟨β j, 0, none⟩)) (w_lookup (k := x.tick) intLawC rfl rfl rfl rfl (.there (.there (.there .here)))) (by rw [hget]; rfl); refine gM rfl rfl (by conv => (lhs; whnf)) ?_; refine gN ?_; refine gM rfl rfl (by conv => (lhs; whnf)) ?_; refine gM rfl rfl (by conv => (lhs; whnf)) ?_; refine gF rfl rfl rfl ?_; apply gw_d; exact w_load_box rfl rfl rfl (.there (.there (.there (.there .here)))) rfl; refine gM rfl rfl (by conv => (lhs; whnf)) ?_; refine gM rfl rfl (by conv => (lhs; whnf)) ?_; apply gw_d; exact w_load_boxN rfl rfl rfl .here rfl; apply gw_d; exact w_call rfl rfl (fun w' s => judge_ok w' (.slice Al l.length cl) (.slice Aw ws.length cw) (β j) 132 l ws ps x (hl.later s) (hw.later s) hS (by have h9 := (s.pick (.there (.there .here))).head.1 j hj; unfold recF at h9; rw [hjt] at h9; exact h9)) rfl; apply gw_d; exact w_index rfl rfl rfl rfl (by with_reducible exact rfl) (by omega))
      refine w_store_row (n := 1) (v := .int .i64 (judgeE l ws ps x)) rfl rfl rfl rfl rfl (.there .here) (by simp; omega) (row_set (Value.int .i64) (by omega) _) ?_
      rw [hset]
      rw [hE] at hosn
      focus (refine gN ?_; refine gM rfl rfl (by conv => (lhs; whnf)) ?_; refine gM rfl rfl (by conv => (lhs; whnf)) ?_; apply gw_d; exact w_index rfl rfl rfl rfl (by with_reducible exact rfl) (by omega); apply gw_d; exact w_load_row rfl rfl rfl .here (hgot _); refine gC rfl rfl rfl rfl rfl ?_; refine gO ?_)
      refine gc_if_dec rfl (fun h1 => ?_) (fun h1 => ?_)
      · have hN : nextP l ws (ticks bs) ps x = ps ++ [x] := by unfold nextP; rw [hE, if_pos h1]
        rw [hN] at hpsn
        have hkn : 0 ≤ x.op ∧ x.op < l.length := by
          unfold judgeE at h1
          split at h1
          · cases h1
          · rename_i h9
            have : knownB l ws x = true := by simpa using h9
            unfold knownB at this
            have := of_decide_eq_true this
            exact ⟨this.1, this.2.1⟩
        obtain ⟨o, ho⟩ : ∃ o : Nat, x.op = (o : Int) := ⟨x.op.toNat, by omega⟩
        have ho16 : o < 16 := by have := hS.1; omega
        have hrs := recC_size ps x.tick
        refine gc_ent (Ent.trans (Sub.ent (K := [Coll (ticks bs).length (recF (ticks bs) β 132 ps), Box g 3 ((outRow (os ++ [judgeE l ws ps x]) xs.length).map (Value.int .i64)).toArray, Box bx 51 #[.int .i64 x.tick, .int .i64 x.op, .int .i64 x.who, .int .i64 x.time], MapR bm kInt (mapK (ticks bs) β (ticks bs).length), Box bv 29 #[v0, v1, v2, v3, v4, v5, .slice Al l.length cl]]) (.cons (.there (.there .here)) (.cons .here (.cons .here (.cons .here (.cons .here .nil)))))) (rec_take hj)) ?_
        rw [hjt]
        refine gc_seq ?_
        refine gc_block_draw Nat 5 (fun i => ([[], [], [1], [0], [0, 3]] : List (List Nat)).getD i []) rfl (by kernel_rfl) ?_
        focus (apply gb_d; (intro γ; exact det_m rfl rfl (by conv => (lhs; whnf))); (intros; rfl); (intros; rfl); apply gb_d; (intro γ; exact w_field rfl rfl rfl); (intros; rfl); (intros; rfl); apply gb_d; (intro γ; exact w_load_box rfl rfl rfl (.there (.there (.there .here))) rfl); (intros; rfl); (intros; rfl); apply gb_d; (intro γ; exact w_nilcheck rfl rfl rfl); (intros; rfl); (intros; rfl); apply gb_d; (intro γ; exact w_field rfl rfl rfl); (intros; rfl); (intros; rfl))
        refine GB.nil (fun _ => ?_)
        focus (apply gw_d; exact w_index_arr (m := o) rfl rfl rfl rfl ho ho16)
        refine w_store_row (b := β j) (bt := 132) (cs := recC ps x.tick) (n := 1) (v := .bool true) (i := 0 + o * 1) (cs' := ((recC ps x.tick).toList.set o (.bool true)).toArray) rfl (congrArg (fun x => Value.pointer (some x)) (add_add ⟨β j, 0, none⟩ 0 (o * 1))) rfl rfl rfl .here (by omega) (by rw [Nat.zero_add, Nat.mul_one]; exact set_row (by omega) rfl) ?_
        focus (refine gO ?_; refine gc_region ?_; refine gM rfl rfl (by conv => (lhs; whnf)) ?_; refine gF rfl rfl rfl ?_; apply gw_d; exact w_load_box rfl rfl rfl (.there (.there (.there .here))) rfl; apply gw_d; exact w_nilcheck rfl rfl rfl; refine gF rfl rfl rfl ?_)
        refine w_store_row (b := β j) (bt := 132) (cs := ((recC ps x.tick).toList.set o (.bool true)).toArray) (n := 1) (v := .int .i64 x.time) (i := 16) (cs' := recC (ps ++ [x]) x.tick) rfl rfl rfl rfl rfl .here (by simp; omega) (by rw [set_row (by simp; omega) rfl]; show (((recC ps x.tick).toList.set o (.bool true)).set 16 (.int .i64 x.time)).toArray = _; rw [recC_pay ps x ho ho16]) ?_
        focus (refine gw_nil ?_; refine gx_block ?_; refine gx_next ?_; refine gc_region ?_; apply gw_d; exact det_ar rfl rfl rfl rfl rfl (by omega); refine gM rfl rfl (by conv => (lhs; whnf)) ?_; refine gw_nil ?_)
        refine gx_roundE (i + 1) hil (by omega) (by repeat (first | exact Keeps.refl | refine Keeps.upd rfl ?_ | refine Keeps.sets rfl ?_ | refine Keeps.havoc rfl ?_)) ⟨rfl, trivial⟩ ?_
        rw [hosn, hpsn]
        exact Ent.trans (rec_put hOk.tix hj hjt) (Sub.ent (.cons (.there .here) (.cons .here (.cons (.there .here) (.cons (.there .here) .nil)))))
      · have hN : nextP l ws (ticks bs) ps x = ps := by unfold nextP; rw [hE, if_neg h1]
        rw [hN] at hpsn
        focus (refine gc_skip ?_; refine gx_block ?_; refine gx_next ?_; refine gc_region ?_; apply gw_d; exact det_ar rfl rfl rfl rfl rfl (by omega); refine gM rfl rfl (by conv => (lhs; whnf)) ?_; refine gw_nil ?_)
        refine gx_round (i + 1) hil (by omega) (by repeat (first | exact Keeps.refl | refine Keeps.upd rfl ?_ | refine Keeps.sets rfl ?_ | refine Keeps.havoc rfl ?_)) ⟨rfl, trivial⟩ ?_
        rw [hosn, hpsn]
        exact .cons .here (.cons (.there .here) (.cons (.there .here) (.cons (.there .here) .nil)))
  · obtain rfl : i = xs.length := by omega
    rw [List.take_length]
    have hol := outs_len l ws (ticks bs) xs []
    have hrow : outRow (outs l ws (ticks bs) [] xs) xs.length = outs l ws (ticks bs) [] xs := by
      have := outRow_full (l := outs l ws (ticks bs) [] xs)
      rw [hol] at this
      exact this
    rw [hrow]
    focus (refine gc_exit ?_; refine gx_then_exit ?_; refine gx_then_exit ?_; refine gx_block_exit ?_; refine gx_next ?_; refine gc_seq ?_; refine gc_region ?_; refine gM rfl rfl (by conv => (lhs; whnf)) ?_; refine gM rfl rfl (by conv => (lhs; whnf)) ?_; refine gM rfl rfl (by conv => (lhs; whnf)) ?_; refine gM rfl rfl (by conv => (lhs; whnf)) ?_; refine gM rfl rfl (by conv => (lhs; whnf)) ?_; refine gO ?_; refine gc_ret ?_)
    exact gx_ret3 (u := .slice _ _ _) (v := .map _) (x := .int _ _) rfl rfl rfl rfl (fun w' s => ⟨(g, bm), rfl, (St.sub (K := [Box g 3 ((outs l ws (ticks bs) [] xs).map (Value.int .i64)).toArray]) (.cons .here .nil) s).sep⟩)
end Go.Proofs.YtljibjlkjelpbaaGreatDoor

/- Contracts: sums of amounts; Judge. What wages come to. -/
namespace Go.Proofs.YtljibjlkjelpbaaGreatDoor
open Go.RowKit
set_option maxRecDepth 100000
set_option maxHeartbeats 4000000

def sumI (l : List Int) : Int := l.foldl (· + ·) 0
theorem sumI_snoc (l : List Int) (x : Int) : sumI (l ++ [x]) = sumI l + x := by
  unfold sumI
  rw [List.foldl_append]
  rfl
section
variable {w : World} {v0 v1 v2 v3 v4 v5 v6 vb vw vx : Value} {e : Int} {l : List Opn} {bs : List Bun} {ws : List Wrk} {xs : List Scn} (hO : ∀ (L : List Res) (w' : World), St w L w' → Ok Tryz.prog 53 [.agg #[v0, v1, v2, v3, v4, v5, v6]].toArray w' fun x _ => x = .int .i64 e)
include hO
def judgeAllE (e : Int) (bs : List Bun) (ws : List Wrk) (n : Nat) : Int := if ¬ scanE e bs ws = 0 then scanE e bs ws else if n > 300 then 5 else 0
theorem hO_later {L : List Res} {w' : World} (s : St w L w') : ∀ (L : List Res) (w2 : World), St w' L w2 → Ok Tryz.prog 53 [.agg #[v0, v1, v2, v3, v4, v5, v6]].toArray w2 fun x _ => x = .int .i64 e := fun _ w2 s2 => hO [] w2 ⟨s.below.trans (Below.mono s2.below s.below.size), trivial⟩
theorem Judge_bad (hb : Sl rBun w w.heap.size vb bs) (hw : Sl rWrk w w.heap.size vw ws) (hx : Sl rScn w w.heap.size vx xs) (he : ¬ judgeAllE e bs ws xs.length = 0) : Ok Tryz.prog 37 [.agg #[v0, v1, v2, v3, v4, v5, v6], vb, vw, vx].toArray w fun x _ => x = .tuple #[.slice none 0 0, .int .i64 (judgeAllE e bs ws xs.length)] := by
  have hJ : ∀ (L : List Res) (w' : World), St w L w' → Ok Tryz.prog 48 [.agg #[v0, v1, v2, v3, v4, v5, v6], vb, vw, vx].toArray w' fun x _ => x = .tuple #[.slice none 0 0, .map none, .int .i64 (judgeAllE e bs ws xs.length)] := fun L w' s => by
    by_cases h1 : scanE e bs ws = 0
    · by_cases h2 : xs.length > 300
      · have := judgeAll_long w' v0 v1 v2 v3 v4 v5 v6 vb vw vx e bs ws xs (hO_later hO s) (hb.later s) (hw.later s) (hx.later s) h1 h2
        have hE : judgeAllE e bs ws xs.length = 5 := by unfold judgeAllE; rw [if_neg (by rw [h1]; decide), if_pos h2]
        rw [hE]
        exact this
      · exact absurd (by unfold judgeAllE; rw [if_neg (by rw [h1]; decide), if_neg h2]) he
    · have := judgeAll_bad w' v0 v1 v2 v3 v4 v5 v6 vb vw vx e bs ws (hO_later hO s) (hb.later s) (hw.later s) h1
      have hE : judgeAllE e bs ws xs.length = scanE e bs ws := by unfold judgeAllE; rw [if_pos h1]
      rw [hE]
      exact this
  refine ok_enter Tryz.func37 rfl Tryz.ntmps37 rfl ?_
  focus (refine gc_seq ?_; refine gc_region ?_; refine gw_boxd (v := .agg _) rfl rfl (fun _ => ?_); refine gM rfl rfl (by conv => (lhs; whnf)) ?_; refine gM rfl rfl (by conv => (lhs; whnf)) ?_; refine gN ?_; apply gw_d; exact w_load_boxN rfl rfl rfl .here rfl; refine gM rfl rfl (by conv => (lhs; whnf)) ?_; refine gM rfl rfl (by conv => (lhs; whnf)) ?_; refine gM rfl rfl (by conv => (lhs; whnf)) ?_; apply gw_d; exact w_call rfl rfl (hJ _) rfl; refine gM rfl rfl (by conv => (lhs; whnf)) ?_; apply gw_d; exact det_extract rfl rfl rfl (by conv => (lhs; whnf)); apply gw_d; exact det_extract rfl rfl rfl (by conv => (lhs; whnf)); apply gw_d; exact det_extract rfl rfl rfl (by conv => (lhs; whnf)); refine gM rfl rfl (by conv => (lhs; whnf)) ?_; refine gM rfl rfl (by conv => (lhs; whnf)) ?_; refine gM rfl rfl (by conv => (lhs; whnf)) ?_; refine gN ?_; refine gM rfl rfl (by conv => (lhs; whnf)) ?_; refine gM rfl rfl (by conv => (lhs; whnf)) ?_; refine gM rfl rfl (by conv => (lhs; whnf)) ?_; refine gM rfl rfl (by conv => (lhs; whnf)) ?_; refine gO ?_; refine gc_ret ?_)
  refine gx_ret2 (u := .slice _ _ _) (v := .int _ _) rfl rfl rfl (fun _ _ => ?_)
  rfl
theorem Judge_ok (hl : Sl rOp w w.heap.size v6 l) (hb : Sl rBun w w.heap.size vb bs) (hw : Sl rWrk w w.heap.size vw ws) (hx : Sl rScn w w.heap.size vx xs) (hS : Small l) (he : judgeAllE e bs ws xs.length = 0) :
    OkM Tryz.prog 37 [.agg #[v0, v1, v2, v3, v4, v5, v6], vb, vw, vx].toArray w (fun x : Nat => .tuple #[.slice (some ⟨x, 0, none⟩) xs.length xs.length, .int .i64 0]) (fun x => [Box x 3 ((outs l ws (ticks bs) [] xs).map (Value.int .i64)).toArray]) := by
  have h1 : scanE e bs ws = 0 := by
    unfold judgeAllE at he
    split at he
    · rename_i h; exact absurd he h
    · rename_i h; simpa using h
  have h2 : ¬ xs.length > 300 := fun h => by
    unfold judgeAllE at he
    rw [if_neg (by rw [h1]; decide), if_pos h] at he
    cases he
  unfold OkM
  refine ok_enter Tryz.func37 rfl Tryz.ntmps37 rfl ?_
  focus (refine gc_seq ?_; refine gc_region ?_; refine gw_boxd (v := .agg _) rfl rfl (fun _ => ?_); refine gM rfl rfl (by conv => (lhs; whnf)) ?_; refine gM rfl rfl (by conv => (lhs; whnf)) ?_; refine gN ?_; apply gw_d; exact w_load_boxN rfl rfl rfl .here rfl; refine gM rfl rfl (by conv => (lhs; whnf)) ?_; refine gM rfl rfl (by conv => (lhs; whnf)) ?_; refine gM rfl rfl (by conv => (lhs; whnf)) ?_)
  refine gw_callm rfl (fun w' s => judgeAll_ok w' v0 v1 v2 v3 v4 v5 v6 vb vw vx e l bs ws xs (hO_later hO s) (hl.later s) (hb.later s) (hw.later s) (hx.later s) hS h1 h2) rfl (fun x => ?_)
  focus (refine gM rfl rfl (by conv => (lhs; whnf)) ?_; apply gw_d; exact det_extract rfl rfl rfl (by conv => (lhs; whnf)); apply gw_d; exact det_extract rfl rfl rfl (by conv => (lhs; whnf)); apply gw_d; exact det_extract rfl rfl rfl (by conv => (lhs; whnf)); refine gM rfl rfl (by conv => (lhs; whnf)) ?_; refine gM rfl rfl (by conv => (lhs; whnf)) ?_; refine gM rfl rfl (by conv => (lhs; whnf)) ?_; refine gN ?_; refine gM rfl rfl (by conv => (lhs; whnf)) ?_; refine gM rfl rfl (by conv => (lhs; whnf)) ?_; refine gM rfl rfl (by conv => (lhs; whnf)) ?_; refine gM rfl rfl (by conv => (lhs; whnf)) ?_; refine gO ?_; refine gc_ret ?_)
  exact gx_ret2 (u := .slice _ _ _) (v := .int _ _) rfl rfl rfl (fun w' s => ⟨x.1, rfl, (St.sub (K := [Box x.1 3 ((outs l ws (ticks bs) [] xs).map (Value.int .i64)).toArray]) (.cons .here .nil) s).sep⟩)
end
end Go.Proofs.YtljibjlkjelpbaaGreatDoor

/- What wages come to: amounts by worker, rows of rows. No program in sight. -/
namespace Go.Proofs.YtljibjlkjelpbaaGreatDoor
open Go.RowKit

def minAt (l : List Opn) (o : Int) : Int := ((l[o.toNat]?).map (·.minutes)).getD 0
def cntAt (bs : List Bun) (t : Int) : Int := ((bs.find? fun b => decide (b.tick = t)).map fun b => b.upto - b.fr).getD 0
theorem outs_at' {l : List Opn} {ws : List Wrk} {tk : List Int} : ∀ {xs ps : List Scn} {i : Nat} (hi : i < xs.length), (outs l ws tk ps xs).getD i 0 = outE l ws tk ((xs.take i).foldl (nextP l ws tk) ps) xs[i]
  | x :: xs, ps, 0, _ => rfl
  | x :: xs, ps, i + 1, hi => by
    show (outs l ws tk (nextP l ws tk ps x) xs).getD i 0 = _
    rw [outs_at' (by simpa using hi)]
    rfl
theorem outs_at {l : List Opn} {ws : List Wrk} {tk : List Int} {xs : List Scn} {i : Nat} (hi : i < xs.length) : (outs l ws tk [] xs).getD i 0 = outE l ws tk (paidL l ws tk (xs.take i)) xs[i] := outs_at' hi
theorem next_len (l : List Opn) (ws : List Wrk) (tk : List Int) (ps : List Scn) (x : Scn) : (nextP l ws tk ps x).length ≤ ps.length + 1 := by
  unfold nextP
  split <;> simp
theorem paid_len' (l : List Opn) (ws : List Wrk) (tk : List Int) : ∀ (xs ps : List Scn), (xs.foldl (nextP l ws tk) ps).length ≤ ps.length + xs.length
  | [], ps => by simp
  | x :: xs, ps => by
    have h1 := paid_len' l ws tk xs (nextP l ws tk ps x)
    have h2 := next_len l ws tk ps x
    simp only [List.foldl_cons, List.length_cons]
    omega
theorem paidL_len (l : List Opn) (ws : List Wrk) (tk : List Int) (xs : List Scn) : (paidL l ws tk xs).length ≤ xs.length := by
  have := paid_len' l ws tk xs []
  unfold paidL
  simpa using this
theorem amtV_range (r l m c : Int) : 0 ≤ amtV r l m c ∧ amtV r l m c ≤ 1000000000 := by
  unfold amtV
  split
  · rename_i h
    have := (amt_range h).2
    omega
  · omega
/-! ### Rows of rows -/
/-! ### Pays -/
end Go.Proofs.YtljibjlkjelpbaaGreatDoor

/- Plain facts of the chapter 57: paid scans, repeated; sums of pays. No program in sight. -/
namespace Go.Proofs.YtljibjlkjelpbaaGreatDoor
open Go.RowKit
section
variable {l : List Opn} {ws : List Wrk} {tk : List Int}
theorem paid_idem' : ∀ (xs ps : List Scn), paidL l ws tk ps = ps → paidL l ws tk (xs.foldl (nextP l ws tk) ps) = xs.foldl (nextP l ws tk) ps
  | [], _, h => h
  | x :: xs, ps, h => paid_idem' xs (nextP l ws tk ps x) (by
      unfold nextP
      split
      · rename_i h1
        rw [paidL_snoc, h]
        unfold nextP
        rw [if_pos h1]
      · exact h)
/-- The paid ones alone are all paid. -/
theorem paid_idem (xs : List Scn) : paidL l ws tk (paidL l ws tk xs) = paidL l ws tk xs := paid_idem' xs [] rfl
theorem paid_mem {xs : List Scn} {y : Scn} (h : y ∈ paidL l ws tk xs) : y ∈ xs := by
  have : ∀ (xs ps : List Scn), y ∈ xs.foldl (nextP l ws tk) ps → y ∈ ps ∨ y ∈ xs := by
    intro xs
    induction xs with
    | nil => intro ps h; exact .inl h
    | cons x xs ih =>
      intro ps h
      rcases ih _ h with h | h
      · unfold nextP at h
        split at h
        · rcases List.mem_append.1 h with h | h
          · exact .inl h
          · rw [List.mem_singleton] at h; exact .inr (by rw [h]; exact List.mem_cons_self)
        · exact .inl h
      · exact .inr (List.mem_cons_of_mem _ h)
  rcases this xs [] h with h | h
  · cases h
  · exact h
end

/-! ### Sums -/
theorem sumI_from (l : List Int) : ∀ a : Int, l.foldl (· + ·) a = a + sumI l := by
  unfold sumI
  induction l with
  | nil => intro a; simp
  | cons x l ih =>
    intro a
    rw [List.foldl_cons, List.foldl_cons, ih (a + x), ih (0 + x)]
    omega
theorem sumI_cons (x : Int) (l : List Int) : sumI (x :: l) = x + sumI l := by
  show (x :: l).foldl (· + ·) 0 = _
  rw [List.foldl_cons, sumI_from]
  omega
theorem sumI_append (a b : List Int) : sumI (a ++ b) = sumI a + sumI b := by
  show (a ++ b).foldl (· + ·) 0 = _
  rw [List.foldl_append, sumI_from]
  rfl
theorem sumI_nonneg : ∀ {l : List Int}, (∀ x ∈ l, 0 ≤ x) → 0 ≤ sumI l
  | [], _ => Int.le_refl _
  | x :: l, h => by
    rw [sumI_cons]
    have h1 := h x List.mem_cons_self
    have h2 := sumI_nonneg fun y hy => h y (List.mem_cons_of_mem _ hy)
    omega
end Go.Proofs.YtljibjlkjelpbaaGreatDoor

/- Plain facts of the laws WageOnce and WageBounds. No program in sight. -/
namespace Go.Proofs.YtljibjlkjelpbaaGreatDoor
open Go.RowKit

/-! ### What each worker recorded -/
/-! ### All operations on all bundles -/
def amtF (r le : Int) (l : List Opn) (bs : List Bun) (p : Int × Int) : Int := amtV r le (minAt l p.2) (cntAt bs p.1)
theorem sumI_perm {a b : List Int} (h : a.Perm b) : sumI a = sumI b := by
  induction h with
  | nil => rfl
  | cons x _ ih => rw [sumI_cons, sumI_cons, ih]
  | swap x y l => rw [sumI_cons, sumI_cons, sumI_cons, sumI_cons]; omega
  | trans _ _ ih1 ih2 => rw [ih1, ih2]
theorem sum_sub {α : Type} [DecidableEq α] {f : α → Int} (hf : ∀ p, 0 ≤ f p) : ∀ (a g : List α), a.Nodup → (∀ x ∈ a, x ∈ g) → sumI (a.map f) ≤ sumI (g.map f)
  | [], g, _, _ => sumI_nonneg fun x hx => by obtain ⟨y, _, rfl⟩ := List.mem_map.1 hx; exact hf y
  | x :: a, g, hn, hs => by
    obtain ⟨h1, h2⟩ := List.nodup_cons.1 hn
    have hp := List.perm_cons_erase (hs x List.mem_cons_self)
    rw [sumI_perm (hp.map f), List.map_cons, List.map_cons, sumI_cons, sumI_cons]
    have := sum_sub hf a (g.erase x) h2 fun y hy => (List.mem_erase_of_ne fun he => h1 (by rw [← he]; exact hy)).2 (hs y (List.mem_cons_of_mem _ hy))
    omega
theorem amtF_range (r le : Int) (l : List Opn) (bs : List Bun) (p : Int × Int) : 0 ≤ amtF r le l bs p ∧ amtF r le l bs p ≤ 1000000000 := amtV_range _ _ _ _
/-! ### A greater rate -/
/-! ### The pays of the paid scans -/
end Go.Proofs.YtljibjlkjelpbaaGreatDoor
