/- Contracts: styles as a whole. -/
import Derived.Test.YteiboodeepjanaaGreatC14
namespace Go.Proofs.YteiboodeepjanaaGreat
open Go.RowKit
set_option maxRecDepth 100000
set_option maxHeartbeats 4000000

structure Opn where
  name : ByteArray
  machine : Int
  minutes : Int
  after : List Int
  uses : List Int
abbrev Use := Int × Int × Bool
abbrev Seam := Int × Int × Int × Int × Bool × Int
structure Sty where
  name : ByteArray
  sizes : List ByteArray
  multiples : List Int
  pieces : List Pc
  uses : List Use
  seams : List Seam
  ops : List Opn

def rUse : Rp Use where
  size := 3
  rep _ _ u cs := cs = [.int .i64 u.1, .int .i64 u.2.1, .bool u.2.2] ∧ inI64 u.1 ∧ inI64 u.2.1
  len h := by rw [h.1]; rfl
  mono _ h := h
  grow _ h := h
def rSeam : Rp Seam where
  size := 6
  rep _ _ u cs := cs = [.int .i64 u.1, .int .i64 u.2.1, .int .i64 u.2.2.1, .int .i64 u.2.2.2.1, .bool u.2.2.2.2.1, .int .i64 u.2.2.2.2.2]
  len h := by rw [h]; rfl
  mono _ h := h
  grow _ h := h
def rOp : Rp Opn where
  size := 5
  rep w S o cs := ∃ Aa ca Au cu, cs = [.string o.name, .int .i64 o.machine, .int .i64 o.minutes, .slice Aa o.after.length ca, .slice Au o.uses.length cu] ∧ (o.name.size ≤ maxLen ∧ inI64 o.machine ∧ inI64 o.minutes) ∧
    SlS rInt w S (.slice Aa o.after.length ca) o.after ∧ SlS rInt w S (.slice Au o.uses.length cu) o.uses
  len h := by obtain ⟨_, _, _, _, rfl, _⟩ := h; rfl
  mono hb h := by obtain ⟨Aa, ca, Au, cu, h0, h1, h2, h3⟩ := h; exact ⟨Aa, ca, Au, cu, h0, h1, h2.mono hb, h3.mono hb⟩
  grow hb h := by obtain ⟨Aa, ca, Au, cu, h0, h1, h2, h3⟩ := h; exact ⟨Aa, ca, Au, cu, h0, h1, h2.grow hb, h3.grow hb⟩

def StyV (w : World) (B : Nat) (v : Value) (s : Sty) : Prop := ∃ As cs Am cm Ap cp Au cu Ae ce Ao co, v = .agg #[.string s.name, .slice As s.sizes.length cs, .slice Am s.multiples.length cm, .slice Ap s.pieces.length cp, .slice Au s.uses.length cu, .slice Ae s.seams.length ce, .slice Ao s.ops.length co] ∧
  s.name.size ≤ maxLen ∧ Sl rStr w B (.slice As s.sizes.length cs) s.sizes ∧ Sl rInt w B (.slice Am s.multiples.length cm) s.multiples ∧ Sl rPiece w B (.slice Ap s.pieces.length cp) s.pieces ∧ Sl rUse w B (.slice Au s.uses.length cu) s.uses ∧
  Sl rSeam w B (.slice Ae s.seams.length ce) s.seams ∧ Sl rOp w B (.slice Ao s.ops.length co) s.ops
theorem StyV.later {w0 w : World} {L : List Res} {v : Value} {x : Sty} (s : St w0 L w) (h : StyV w0 w0.heap.size v x) : StyV w w.heap.size v x := by
  obtain ⟨As, cs, Am, cm, Ap, cp, Au, cu, Ae, ce, Ao, co, h0, h1, h2, h3, h4, h5, h6, h7⟩ := h
  exact ⟨As, cs, Am, cm, Ap, cp, Au, cu, Ae, ce, Ao, co, h0, h1, h2.later s, h3.later s, h4.later s, h5.later s, h6.later s, h7.later s⟩

section
variable {P : Program} {Q : Exit → Act → World → Prop} {N : Nat} {w0 : World} {L : List Res} {e : Env} {r : Res}
/-- A loop that turns the first of what is owned. -/
theorem gc_loop1 {σ : Type} {c : Code} (wr : List Nat) (S : σ → List (Nat × Value)) (R : σ → Res) (I : σ → Prop) (μ : σ → Nat) (s0 : σ) (hI : I s0) (hA : Ats (S s0) e) (hr : r = R s0)
    (round : ∀ s base, I s → GC P (Exit.then (Rnd N w0 wr e S (fun s => R s :: L) I μ (μ s)) Q) N w0 (R s :: L) c (sets (S s) (havoc wr e base))) : GC P Q N w0 (r :: L) (.loop c) e := by
  subst hr
  exact gc_loop wr S (fun s => R s :: L) I μ s0 hI hA (Sub.all _) round
theorem strLawC {kt : Nat} [CIsStr P kt] : KeyLaw P kt kStr := strLaw (by
  have h := CIsStr.h (P := P) (t := kt)
  unfold isStringT at h
  split at h
  · assumption
  · cases h)
theorem intLawC {kt : Nat} [CInt P kt .i64] : KeyLaw P kt kInt := intLaw (by
  have h := CInt.h (P := P) (t := kt) (k := .i64)
  unfold intKindB at h
  split at h
  · injection h with h; subst h; assumption
  · cases h)
end

/-! ### Sets: maps whose values are all true -/
section
variable {κ : Type} [DecidableEq κ]
def setM (l : List κ) : List (κ × Value) := l.foldl (fun m k => aset m k (.bool true)) []
theorem setM_snoc (l : List κ) (k : κ) : setM (l ++ [k]) = aset (setM l) k (.bool true) := by
  unfold setM
  rw [List.foldl_append]
  rfl
theorem setM_get (l : List κ) (k : κ) : aget (setM l) k = if k ∈ l then some (.bool true) else none := by
  suffices h : ∀ (r : List κ), aget (setM r.reverse) k = if k ∈ r.reverse then some (.bool true) else none by
    have := h l.reverse
    rwa [List.reverse_reverse] at this
  intro r
  induction r with
  | nil => rfl
  | cons x r ih =>
    rw [List.reverse_cons, setM_snoc, aget_aset, ih]
    by_cases hx : x = k
    · subst hx; simp
    · have : ¬ k = x := fun h => hx h.symm
      simp [hx, this]
def hasB (l : List κ) (k : κ) : Bool := l.any fun x => decide (x = k)
theorem hasB_iff {l : List κ} {k : κ} : hasB l k = true ↔ k ∈ l := by
  unfold hasB
  rw [List.any_eq_true]
  constructor
  · rintro ⟨x, hx, h⟩
    rw [decide_eq_true_eq] at h
    exact h ▸ hx
  · intro h
    exact ⟨k, h, by simp⟩
theorem setM_has (l : List κ) (k : κ) : ((aget (setM l) k).getD (.bool false)) = .bool (hasB l k) := by
  rw [setM_get]
  by_cases h : k ∈ l
  · rw [if_pos h, hasB_iff.2 h]; rfl
  · have : hasB l k = false := by rw [← Bool.not_eq_true, hasB_iff]; exact h
    rw [if_neg h, this]; rfl
end
def dupL {κ : Type} [DecidableEq κ] (l : List κ) (n : Nat) : Bool := (List.range n).any fun i => match l[i]? with | some x => hasB (l.take i) x | none => false
theorem dupL_snoc {κ : Type} [DecidableEq κ] {l : List κ} {k : Nat} (hk : k < l.length) (h : dupL l k = false) (hx : hasB (l.take k) l[k] = false) : dupL l (k + 1) = false := by
  unfold dupL at *
  exact range_any_snoc h (by rw [List.getElem?_eq_getElem hk]; exact hx)
theorem dupL_yes {κ : Type} [DecidableEq κ] {l : List κ} {k : Nat} (hk : k < l.length) (hx : hasB (l.take k) l[k] = true) : dupL l l.length = true := by
  unfold dupL
  exact range_any_no hk (by rw [List.getElem?_eq_getElem hk]; exact hx)

def farM (n : Int) : Bool := decide (n < -100) || decide (n > 100)
def wholeE (s : Sty) : Int := if ¬ nameB s.name = true ∨ s.sizes.length = 0 then 1 else if (s.sizes.any fun x => !sizeB' x) = true then 1 else if ¬ s.multiples.length = s.sizes.length ∨ s.multiples.any (isI 0) = false then 1 else if dupL s.sizes s.sizes.length = true then 7 else
  if s.sizes.length > 12 ∨ s.pieces.length > 12 ∨ s.uses.length > 12 then 5 else if s.seams.length > 24 ∨ s.ops.length > 16 then 5 else if s.multiples.any farM = true then 3 else 0

theorem Sl.str' {w : World} {B : Nat} {v : Value} {l : List ByteArray} (h : Sl rStr w B v l) : ∃ A c, v = .slice A l.length c ∧ l.length ≤ c ∧ l.length ≤ 9223372036854775807 ∧
    ∀ k (hk : k < l.length), ∃ ad, A = some ad ∧ ad.block < B ∧ w.cell? (ad.add (k * 1)) = some (.string l[k]) ∧ l[k].size ≤ 9223372036854775807 := by
  obtain ⟨A, c, hv, h1, h2, h3⟩ := h
  refine ⟨A, c, hv, h1, by unfold maxLen at h2; omega, fun k hk => ?_⟩
  obtain ⟨ad, cs, ha, hlt, hc, hr⟩ := h3 k hk
  obtain ⟨rfl, hr⟩ := hr
  exact ⟨ad, ha, hlt, hc 0 _ rfl, by unfold maxLen at hr; omega⟩

theorem whole_ok (w : World) (v : Value) (s : Sty) (hs : StyV w w.heap.size v s) : Ok Tryz.prog 40 [v].toArray w fun r _ => r = .int .i64 (wholeE s) := by
  obtain ⟨As, cs, Am, cm, Ap, cp, Au, cu, Ae, ce, Ao, co, rfl, hnm, h1, h2, h3, h4, h5, h6⟩ := hs
  unfold maxLen at hnm
  obtain ⟨_, _, hv, hsc, hsm, hscell⟩ := h1.str'
  injection hv with e1 e2 e3
  subst e1 e3
  obtain ⟨_, _, hv, hmc, hmm, hmcell⟩ := h2.int
  injection hv with e1 e2 e3
  subst e1 e3
  refine ok_enter Tryz.func40 rfl Tryz.ntmps40 rfl ?_
  focus (refine gc_seq ?_; refine gc_region ?_; refine gw_boxd (v := .agg _) rfl rfl (fun _ => ?_); apply gw_d; exact det_m rfl rfl (by conv => (lhs; whnf)); refine gw_nil ?_; refine gx_next ?_; refine gc_seq ?_; refine gc_seq ?_; refine gc_region ?_; apply gw_d; exact w_field rfl rfl rfl; apply gw_d; exact w_load_box rfl rfl rfl .here rfl; apply gw_d; exact w_call rfl rfl (fun w s => styleName_ok w _ (by omega)) rfl; apply gw_d; exact det_not_ rfl rfl rfl; apply gw_d; exact det_m rfl rfl (by conv => (lhs; whnf)); refine gw_guard rfl rfl (fun _ => ?_) (fun _ => ?_); apply gw_d; exact det_not rfl; apply gw_d; exact det_not rfl; apply gw_d; exact det_not rfl; apply gw_d; exact det_not rfl; apply gw_d; exact det_pick_t (v := .bool _) rfl rfl rfl rfl; refine gw_nil ?_; refine gx_next ?_; refine gc_if_true rfl ?_; refine gc_seq ?_; refine gc_region ?_; apply gw_d; exact det_m rfl rfl (by conv => (lhs; whnf)); refine gw_nil ?_; refine gx_next ?_; refine gc_ret ?_; refine gx_then_ret ?_; rotate_left; apply gw_d; exact w_field rfl rfl rfl; apply gw_d; exact w_load_box rfl rfl rfl .here rfl; apply gw_d; exact w_len rfl rfl rfl; apply gw_d; exact det_cmp rfl rfl rfl rfl rfl; apply gw_d; exact det_pick_f (v := .bool _) rfl rfl rfl rfl; refine gw_nil ?_; refine gx_next ?_; refine gc_if_dec rfl (fun _ => ?_) (fun _ => ?_); refine gc_seq ?_; refine gc_region ?_; apply gw_d; exact det_m rfl rfl (by conv => (lhs; whnf)); refine gw_nil ?_; refine gx_next ?_; refine gc_ret ?_; refine gx_then_ret ?_; rotate_left; refine gc_skip ?_; refine gx_next ?_; refine gc_seq ?_; refine gc_seq ?_; refine gc_region ?_; apply gw_d; exact w_field rfl rfl rfl; apply gw_d; exact w_load_box rfl rfl rfl .here rfl; apply gw_d; exact w_len rfl rfl rfl; apply gw_d; exact det_m rfl rfl (by conv => (lhs; whnf)); refine gw_nil ?_; refine gx_next ?_; refine gc_block ?_; rotate_left)
  · refine gx_ret1 (v := .int _ _) rfl rfl (fun _ _ => ?_)
    unfold wholeE
    rename_i h _ _
    rw [if_pos (.inl (by simpa using h))]
  · refine gx_ret1 (v := .int _ _) rfl rfl (fun _ _ => ?_)
    unfold wholeE
    rw [if_pos (.inr (by omega))]
  have hN : ¬ (¬ nameB s.name = true ∨ s.sizes.length = 0) := fun h => by
    rcases h with h | h
    · simp_all
    · omega
  refine gc_loopK (σ := Nat) [24, 25, 26, 4, 27, 28, 29, 2, 30, 23] (fun k => [(23, .int .i64 k)]) (fun k => k ≤ s.sizes.length ∧ ((s.sizes.take k).any fun x => !sizeB' x) = false) (fun k => s.sizes.length - k) 0 ⟨Nat.zero_le _, rfl⟩ ⟨rfl, trivial⟩ ?_
  rintro k base ⟨hk, hI⟩
  focus (refine gc_seq ?_; refine gc_region ?_; apply gw_d; exact det_cmp rfl rfl rfl rfl rfl; refine gw_nil ?_; refine gx_next ?_; refine gc_seq ?_)
  refine gc_if_dec rfl (fun h => ?_) (fun h => ?_)
  · have hlt : k < s.sizes.length := by omega
    obtain ⟨ad, rfl, hb, hce, hsz⟩ := hscell k hlt
    focus (refine gc_skip ?_; refine gx_next ?_; refine gc_seq ?_; refine gc_block ?_; refine gc_seq ?_; refine gc_region ?_; apply gw_d; exact w_index rfl rfl rfl rfl (by with_reducible exact rfl) (by omega); apply gw_d; exact w_load_at rfl rfl rfl (by assumption) (by assumption); apply gw_d; exact det_m rfl rfl (by conv => (lhs; whnf)); refine gw_nil ?_; refine gx_next ?_; refine gc_seq ?_; refine gc_region ?_; apply gw_d; exact det_m rfl rfl (by conv => (lhs; whnf)); apply gw_d; exact w_call rfl rfl (fun w s => styleSize_ok w _ hsz) rfl; apply gw_d; exact det_not_ rfl rfl rfl; refine gw_nil ?_; refine gx_next ?_)
    refine gc_if rfl (fun h => ?_) (fun h => ?_)
    · focus (refine gc_seq ?_; refine gc_region ?_; apply gw_d; exact det_m rfl rfl (by conv => (lhs; whnf)); refine gw_nil ?_; refine gx_next ?_; refine gc_ret ?_; refine gx_block_ret ?_; refine gx_then_ret ?_; refine gx_then_ret ?_; refine gx_block_ret ?_; refine gx_then_ret ?_)
      refine gx_ret1 (v := .int _ _) rfl rfl (fun _ _ => ?_)
      unfold wholeE
      rw [if_neg hN, if_pos (any_at hlt h)]
    · focus (refine gc_skip ?_; refine gx_block ?_; refine gx_next ?_; refine gc_region ?_; apply gw_d; exact det_ar rfl rfl rfl rfl rfl (by omega); apply gw_d; exact det_m rfl rfl (by conv => (lhs; whnf)); refine gw_nil ?_)
      exact gx_round (k + 1) ⟨by omega, take_any_snoc hlt hI h⟩ (by omega) (by repeat (first | exact Keeps.refl | refine Keeps.upd rfl ?_ | refine Keeps.sets rfl ?_ | refine Keeps.havoc rfl ?_)) ⟨rfl, trivial⟩ (Sub.all _)
  obtain rfl : k = s.sizes.length := by omega
  rw [List.take_length] at hI
  focus (refine gc_exit ?_; refine gx_then_exit ?_; refine gx_then_exit ?_; refine gx_block_exit ?_; refine gx_next ?_; refine gc_seq ?_; refine gc_seq ?_; refine gc_region ?_; apply gw_d; exact w_field rfl rfl rfl; apply gw_d; exact w_load_box rfl rfl rfl .here rfl; apply gw_d; exact w_len rfl rfl rfl; apply gw_d; exact w_field rfl rfl rfl; apply gw_d; exact w_load_box rfl rfl rfl .here rfl; apply gw_d; exact w_len rfl rfl rfl; apply gw_d; exact det_cmp rfl rfl rfl rfl rfl; apply gw_d; exact det_m rfl rfl (by conv => (lhs; whnf)); refine gw_guard_dec rfl rfl (fun _ => ?_) (fun _ => ?_); apply gw_d; exact det_not rfl; apply gw_d; exact det_not rfl; apply gw_d; exact det_not rfl; apply gw_d; exact det_not rfl; apply gw_d; exact det_pick_t (v := .bool _) rfl rfl rfl rfl; refine gw_nil ?_; refine gx_next ?_; refine gc_if_true rfl ?_; refine gc_seq ?_; refine gc_region ?_; apply gw_d; exact det_m rfl rfl (by conv => (lhs; whnf)); refine gw_nil ?_; refine gx_next ?_; refine gc_ret ?_; refine gx_then_ret ?_; rotate_left; apply gw_d; exact w_field rfl rfl rfl; apply gw_d; exact w_load_box rfl rfl rfl .here rfl; apply gw_d; exact w_call rfl rfl (fun w s' => containsInt_ok w _ s.multiples _ (h2.later s')) rfl; apply gw_d; exact det_not_ rfl rfl rfl; apply gw_d; exact det_pick_f (v := .bool _) rfl rfl rfl rfl; refine gw_nil ?_; refine gx_next ?_; refine gc_if rfl (fun _ => ?_) (fun _ => ?_); refine gc_seq ?_; refine gc_region ?_; apply gw_d; exact det_m rfl rfl (by conv => (lhs; whnf)); refine gw_nil ?_; refine gx_next ?_; refine gc_ret ?_; refine gx_then_ret ?_; rotate_left; refine gc_skip ?_; refine gx_next ?_; refine gc_seq ?_; refine gc_region ?_; rotate_left)
  · refine gx_ret1 (v := .int _ _) rfl rfl (fun _ _ => ?_)
    unfold wholeE
    rw [if_neg hN, if_neg (by rw [hI]; decide), if_pos (.inl (by omega))]
  · refine gx_ret1 (v := .int _ _) rfl rfl (fun _ _ => ?_)
    unfold wholeE
    rename_i h _ _
    rw [if_neg hN, if_neg (by rw [hI]; decide), if_pos (.inr (by simpa using h))]
  have hM : ¬ (¬ s.multiples.length = s.sizes.length ∨ s.multiples.any (isI 0) = false) := fun h => by
    rcases h with h | h
    · omega
    · simp_all
  refine gw_makeMap (kStr) rfl (fun bm => ?_)
  focus (apply gw_d; exact det_m rfl rfl (by conv => (lhs; whnf)); refine gw_nil ?_; refine gx_next ?_; refine gc_seq ?_; refine gc_seq ?_; refine gc_region ?_; apply gw_d; exact w_field rfl rfl rfl; apply gw_d; exact w_load_box rfl rfl rfl (.there .here) rfl; apply gw_d; exact w_len rfl rfl rfl; apply gw_d; exact det_m rfl rfl (by conv => (lhs; whnf)); refine gw_nil ?_; refine gx_next ?_; refine gc_block ?_)
  refine gc_loop1 (σ := Nat) [49, 50, 51, 7, 52, 53, 54, 2, 55, 56, 57, 48] (fun k => [(48, .int .i64 k)]) (fun k => MapR bm kStr (setM (s.sizes.take k))) (fun k => k ≤ s.sizes.length ∧ dupL s.sizes k = false) (fun k => s.sizes.length - k) 0 ⟨Nat.zero_le _, rfl⟩ ⟨rfl, trivial⟩ rfl ?_
  rintro k base2 ⟨hk, hJ⟩
  focus (refine gc_seq ?_; refine gc_region ?_; apply gw_d; exact det_cmp rfl rfl rfl rfl rfl; refine gw_nil ?_; refine gx_next ?_; refine gc_seq ?_)
  refine gc_if_dec rfl (fun h => ?_) (fun h => ?_)
  · have hlt : k < s.sizes.length := by omega
    obtain ⟨ad, rfl, hb, hce, hsz⟩ := hscell k hlt
    focus (refine gc_skip ?_; refine gx_next ?_; refine gc_seq ?_; refine gc_block ?_; refine gc_seq ?_; refine gc_region ?_; apply gw_d; exact w_index rfl rfl rfl rfl (by with_reducible exact rfl) (by omega); apply gw_d; exact w_load_at rfl rfl rfl (by assumption) (by assumption); apply gw_d; exact det_m rfl rfl (by conv => (lhs; whnf)); refine gw_nil ?_; refine gx_next ?_; refine gc_seq ?_; refine gc_seq ?_; refine gc_region ?_; apply gw_d; exact det_m rfl rfl (by conv => (lhs; whnf)); apply gw_d; exact det_m rfl rfl (by conv => (lhs; whnf)); apply gw_d; exact det_eq (w_lookup strLawC rfl rfl rfl rfl .here) (setM_has _ _); refine gw_nil ?_; refine gx_next ?_)
    refine gc_if rfl (fun h => ?_) (fun h => ?_)
    · focus (refine gc_seq ?_; refine gc_region ?_; apply gw_d; exact det_m rfl rfl (by conv => (lhs; whnf)); refine gw_nil ?_; refine gx_next ?_; refine gc_ret ?_; refine gx_then_ret ?_; refine gx_block_ret ?_; refine gx_then_ret ?_; refine gx_then_ret ?_; refine gx_block_ret ?_; refine gx_then_ret ?_)
      refine gx_ret1 (v := .int _ _) rfl rfl (fun _ _ => ?_)
      unfold wholeE
      rw [if_neg hN, if_neg (by rw [hI]; decide), if_neg hM, if_pos (dupL_yes hlt h)]
    · focus (refine gc_skip ?_; refine gx_next ?_; refine gc_region ?_; apply gw_d; exact det_m rfl rfl (by conv => (lhs; whnf)); apply gw_d; exact det_m rfl rfl (by conv => (lhs; whnf)))
      refine gw_mapSet (k := s.sizes[k]) (v := .bool true) strLawC rfl rfl rfl rfl .here ?_
      rw [← setM_snoc, ← List.take_succ_eq_append_getElem hlt]
      focus (refine gw_nil ?_; refine gx_block ?_; refine gx_next ?_; refine gc_region ?_; apply gw_d; exact det_ar rfl rfl rfl rfl rfl (by omega); apply gw_d; exact det_m rfl rfl (by conv => (lhs; whnf)); refine gw_nil ?_)
      exact gx_round (k + 1) ⟨by omega, dupL_snoc hlt hJ h⟩ (by omega) (by repeat (first | exact Keeps.refl | refine Keeps.upd rfl ?_ | refine Keeps.sets rfl ?_ | refine Keeps.havoc rfl ?_)) ⟨rfl, trivial⟩ (Sub.all _)
  obtain rfl : k = s.sizes.length := by omega
  obtain ⟨_, _, hv, hpc, hpm⟩ := len_small h3
  injection hv with e1 e2 e3
  subst e1 e3
  obtain ⟨_, _, hv, huc, hum⟩ := len_small h4
  injection hv with e1 e2 e3
  subst e1 e3
  obtain ⟨_, _, hv, hec, hem⟩ := len_small h5
  injection hv with e1 e2 e3
  subst e1 e3
  obtain ⟨_, _, hv, hoc, hom⟩ := len_small h6
  injection hv with e1 e2 e3
  subst e1 e3
  have hD : ¬ dupL s.sizes s.sizes.length = true := by rw [hJ]; decide
  have hS : ¬ (s.sizes.any fun x => !sizeB' x) = true := by rw [hI]; decide
  have h5e : (s.sizes.length > 12 ∨ s.pieces.length > 12 ∨ s.uses.length > 12) ∨ (s.seams.length > 24 ∨ s.ops.length > 16) → wholeE s = 5 := fun h => by
    unfold wholeE
    rw [if_neg hN, if_neg hS, if_neg hM, if_neg hD]
    rcases h with h | h
    · exact if_pos h
    · split
      all_goals first | rfl | exact if_pos h
  focus (refine gc_exit ?_; refine gx_then_exit ?_; refine gx_then_exit ?_; refine gx_block_exit ?_; refine gx_next ?_; refine gc_seq ?_; refine gc_seq ?_; refine gc_region ?_; apply gw_d; exact w_field rfl rfl rfl; apply gw_d; exact w_load_box rfl rfl rfl (.there .here) rfl; apply gw_d; exact w_len rfl rfl rfl; apply gw_d; exact det_cmp rfl rfl rfl rfl rfl; apply gw_d; exact det_m rfl rfl (by conv => (lhs; whnf)); refine gw_guard_dec rfl rfl (fun _ => ?_) (fun _ => ?_); apply gw_d; exact det_not rfl; apply gw_d; exact det_not rfl; apply gw_d; exact det_not rfl; apply gw_d; exact det_not rfl; apply gw_d; exact det_pick_t (v := .bool _) rfl rfl rfl rfl; apply gw_d; exact det_m rfl rfl (by conv => (lhs; whnf)); apply gw_d; exact det_not rfl; apply gw_d; exact det_not rfl; apply gw_d; exact det_not rfl; apply gw_d; exact det_not rfl; apply gw_d; exact det_pick_t (v := .bool _) rfl rfl rfl rfl; refine gw_nil ?_; refine gx_next ?_; refine gc_if_true rfl ?_; refine gc_seq ?_; refine gc_region ?_; apply gw_d; exact det_m rfl rfl (by conv => (lhs; whnf)); refine gw_nil ?_; refine gx_next ?_; refine gc_ret ?_; refine gx_then_ret ?_; rotate_left; apply gw_d; exact w_field rfl rfl rfl; apply gw_d; exact w_load_box rfl rfl rfl (.there .here) rfl; apply gw_d; exact w_len rfl rfl rfl; apply gw_d; exact det_cmp rfl rfl rfl rfl rfl; apply gw_d; exact det_pick_f (v := .bool _) rfl rfl rfl rfl; apply gw_d; exact det_m rfl rfl (by conv => (lhs; whnf)); refine gw_guard_dec rfl rfl (fun _ => ?_) (fun _ => ?_); apply gw_d; exact det_not rfl; apply gw_d; exact det_not rfl; apply gw_d; exact det_not rfl; apply gw_d; exact det_not rfl; apply gw_d; exact det_pick_t (v := .bool _) rfl rfl rfl rfl; refine gw_nil ?_; refine gx_next ?_; refine gc_if_true rfl ?_; refine gc_seq ?_; refine gc_region ?_; apply gw_d; exact det_m rfl rfl (by conv => (lhs; whnf)); refine gw_nil ?_; refine gx_next ?_; refine gc_ret ?_; refine gx_then_ret ?_; rotate_left; apply gw_d; exact w_field rfl rfl rfl; apply gw_d; exact w_load_box rfl rfl rfl (.there .here) rfl; apply gw_d; exact w_len rfl rfl rfl; apply gw_d; exact det_cmp rfl rfl rfl rfl rfl; apply gw_d; exact det_pick_f (v := .bool _) rfl rfl rfl rfl; refine gw_nil ?_; refine gx_next ?_; refine gc_if_dec rfl (fun _ => ?_) (fun _ => ?_); refine gc_seq ?_; refine gc_region ?_; apply gw_d; exact det_m rfl rfl (by conv => (lhs; whnf)); refine gw_nil ?_; refine gx_next ?_; refine gc_ret ?_; refine gx_then_ret ?_; rotate_left; refine gc_skip ?_; refine gx_next ?_; refine gc_seq ?_; refine gc_seq ?_; refine gc_region ?_; apply gw_d; exact w_field rfl rfl rfl; apply gw_d; exact w_load_box rfl rfl rfl (.there .here) rfl; apply gw_d; exact w_len rfl rfl rfl; apply gw_d; exact det_cmp rfl rfl rfl rfl rfl; apply gw_d; exact det_m rfl rfl (by conv => (lhs; whnf)); refine gw_guard_dec rfl rfl (fun _ => ?_) (fun _ => ?_); apply gw_d; exact det_not rfl; apply gw_d; exact det_not rfl; apply gw_d; exact det_not rfl; apply gw_d; exact det_not rfl; apply gw_d; exact det_pick_t (v := .bool _) rfl rfl rfl rfl; refine gw_nil ?_; refine gx_next ?_; refine gc_if_true rfl ?_; refine gc_seq ?_; refine gc_region ?_; apply gw_d; exact det_m rfl rfl (by conv => (lhs; whnf)); refine gw_nil ?_; refine gx_next ?_; refine gc_ret ?_; refine gx_then_ret ?_; rotate_left; apply gw_d; exact w_field rfl rfl rfl; apply gw_d; exact w_load_box rfl rfl rfl (.there .here) rfl; apply gw_d; exact w_len rfl rfl rfl; apply gw_d; exact det_cmp rfl rfl rfl rfl rfl; apply gw_d; exact det_pick_f (v := .bool _) rfl rfl rfl rfl; refine gw_nil ?_; refine gx_next ?_; refine gc_if_dec rfl (fun _ => ?_) (fun _ => ?_); refine gc_seq ?_; refine gc_region ?_; apply gw_d; exact det_m rfl rfl (by conv => (lhs; whnf)); refine gw_nil ?_; refine gx_next ?_; refine gc_ret ?_; refine gx_then_ret ?_; rotate_left; refine gc_skip ?_; refine gx_next ?_; refine gc_seq ?_; refine gc_seq ?_; refine gc_region ?_; apply gw_d; exact w_field rfl rfl rfl; apply gw_d; exact w_load_box rfl rfl rfl (.there .here) rfl; apply gw_d; exact w_len rfl rfl rfl; apply gw_d; exact det_m rfl rfl (by conv => (lhs; whnf)); refine gw_nil ?_; refine gx_next ?_; refine gc_block ?_; rotate_left)
  · refine gx_ret1 (v := .int _ _) rfl rfl (fun _ _ => ?_)
    rw [h5e (by omega)]
  · refine gx_ret1 (v := .int _ _) rfl rfl (fun _ _ => ?_)
    rw [h5e (by omega)]
  · refine gx_ret1 (v := .int _ _) rfl rfl (fun _ _ => ?_)
    rw [h5e (by omega)]
  · refine gx_ret1 (v := .int _ _) rfl rfl (fun _ _ => ?_)
    rw [h5e (by omega)]
  · refine gx_ret1 (v := .int _ _) rfl rfl (fun _ _ => ?_)
    rw [h5e (by omega)]
  refine gc_loopK (σ := Nat) [88, 89, 90, 9, 91, 92, 93, 94, 95, 96, 2, 97, 87] (fun k => [(87, .int .i64 k)]) (fun k => k ≤ s.multiples.length ∧ (s.multiples.take k).any farM = false) (fun k => s.multiples.length - k) 0 ⟨Nat.zero_le _, rfl⟩ ⟨rfl, trivial⟩ ?_
  rintro k base3 ⟨hk3, hF⟩
  focus (refine gc_seq ?_; refine gc_region ?_; apply gw_d; exact det_cmp rfl rfl rfl rfl rfl; refine gw_nil ?_; refine gx_next ?_; refine gc_seq ?_)
  refine gc_if_dec rfl (fun h => ?_) (fun h => ?_)
  · have hlt : k < s.multiples.length := by omega
    obtain ⟨ad, rfl, hb, hce, _⟩ := hmcell k hlt
    focus (refine gc_skip ?_; refine gx_next ?_; refine gc_seq ?_; refine gc_block ?_; refine gc_seq ?_; refine gc_region ?_; apply gw_d; exact w_index rfl rfl rfl rfl (by with_reducible exact rfl) (by omega); apply gw_d; exact w_load_at rfl rfl rfl (by assumption) (by assumption); apply gw_d; exact det_m rfl rfl (by conv => (lhs; whnf)); refine gw_nil ?_; refine gx_next ?_; refine gc_seq ?_; refine gc_region ?_; apply gw_d; exact det_m rfl rfl (by conv => (lhs; whnf)); apply gw_d; exact det_cmp rfl rfl rfl rfl rfl; apply gw_d; exact det_m rfl rfl (by conv => (lhs; whnf)); refine gw_guard_dec rfl rfl (fun _ => ?_) (fun _ => ?_); apply gw_d; exact det_not rfl; apply gw_d; exact det_not rfl; apply gw_d; exact det_pick_t (v := .bool _) rfl rfl rfl rfl; refine gw_nil ?_; refine gx_next ?_; refine gc_if_true rfl ?_; refine gc_seq ?_; refine gc_region ?_; apply gw_d; exact det_m rfl rfl (by conv => (lhs; whnf)); refine gw_nil ?_; refine gx_next ?_; refine gc_ret ?_; refine gx_block_ret ?_; refine gx_then_ret ?_; refine gx_then_ret ?_; refine gx_block_ret ?_; refine gx_then_ret ?_; rotate_left; apply gw_d; exact det_m rfl rfl (by conv => (lhs; whnf)); apply gw_d; exact det_cmp rfl rfl rfl rfl rfl; apply gw_d; exact det_pick_f (v := .bool _) rfl rfl rfl rfl; refine gw_nil ?_; refine gx_next ?_; refine gc_if_dec rfl (fun _ => ?_) (fun _ => ?_); refine gc_seq ?_; refine gc_region ?_; apply gw_d; exact det_m rfl rfl (by conv => (lhs; whnf)); refine gw_nil ?_; refine gx_next ?_; refine gc_ret ?_; refine gx_block_ret ?_; refine gx_then_ret ?_; refine gx_then_ret ?_; refine gx_block_ret ?_; refine gx_then_ret ?_; rotate_left; refine gc_skip ?_; refine gx_block ?_; refine gx_next ?_; refine gc_region ?_; apply gw_d; exact det_ar rfl rfl rfl rfl rfl (by omega); apply gw_d; exact det_m rfl rfl (by conv => (lhs; whnf)); refine gw_nil ?_; rotate_left)
    · refine gx_ret1 (v := .int _ _) rfl rfl (fun _ _ => ?_)
      unfold wholeE
      rw [if_neg hN, if_neg hS, if_neg hM, if_neg hD, if_neg (by omega), if_neg (by omega), if_pos (any_at hlt (by unfold farM; simp only [Bool.or_eq_true, decide_eq_true_eq]; left; assumption))]
    · refine gx_ret1 (v := .int _ _) rfl rfl (fun _ _ => ?_)
      unfold wholeE
      rw [if_neg hN, if_neg hS, if_neg hM, if_neg hD, if_neg (by omega), if_neg (by omega), if_pos (any_at hlt (by unfold farM; simp only [Bool.or_eq_true, decide_eq_true_eq]; right; assumption))]
    · exact gx_round (k + 1) ⟨by omega, take_any_snoc hlt hF (by unfold farM; simp only [Bool.or_eq_false_iff, decide_eq_false_iff_not]; constructor <;> assumption)⟩ (by omega) (by repeat (first | exact Keeps.refl | refine Keeps.upd rfl ?_ | refine Keeps.sets rfl ?_ | refine Keeps.havoc rfl ?_)) ⟨rfl, trivial⟩ (Sub.all _)
  obtain rfl : k = s.multiples.length := by omega
  rw [List.take_length] at hF
  focus (refine gc_exit ?_; refine gx_then_exit ?_; refine gx_then_exit ?_; refine gx_block_exit ?_; refine gx_next ?_; refine gc_seq ?_; refine gc_region ?_; apply gw_d; exact det_m rfl rfl (by conv => (lhs; whnf)); refine gw_nil ?_; refine gx_next ?_; refine gc_ret ?_)
  refine gx_ret1 (v := .int _ _) rfl rfl (fun _ _ => ?_)
  unfold wholeE
  rw [if_neg hN, if_neg hS, if_neg hM, if_neg hD, if_neg (by omega), if_neg (by omega), if_neg (by rw [hF]; decide)]

/-! ### Edges by their indices -/
def isEdgeB (s : Sty) (p e : Int) : Bool := decide (0 ≤ p) && decide (p < s.pieces.length) && decide (0 ≤ e) && decide (e < (((s.pieces[p.toNat]?).map (·.edges.length)).getD 0 : Nat))
theorem isEdge_ok (w : World) (v : Value) (s : Sty) (p e : Int) (hs : StyV w w.heap.size v s) : Ok Tryz.prog 42 [v, .int .i64 p, .int .i64 e].toArray w fun r _ => r = .bool (isEdgeB s p e) := by
  obtain ⟨As, cs, Am, cm, Ap, cp, Au, cu, Ae, ce, Ao, co, rfl, hnm, h1, h2, h3, h4, h5, h6⟩ := hs
  obtain ⟨_, _, hv, hpc, hpm⟩ := len_small h3
  injection hv with e1 e2 e3
  subst e1 e3
  by_cases hp : 0 ≤ p ∧ p < (s.pieces.length : Int)
  · obtain ⟨k, rfl⟩ : ∃ k : Nat, p = k := ⟨p.toNat, by omega⟩
    have hk : k < s.pieces.length := by omega
    obtain ⟨ad, _, hv, _, _, hb, hcell⟩ := h3.at' 7 rfl (by omega)
    injection hv with e1 e2 e3
    subst e1 e3
    obtain ⟨cs, hce, Ae', ce', _, _, _, _, _, _, rfl, _, hed, _⟩ := hcell k hk
    have hce1 := hce 1 _ rfl
    have hg : isEdgeB s k e = (decide (0 ≤ e) && decide (e < s.pieces[k].edges.length)) := by
      unfold isEdgeB
      rw [Int.toNat_natCast, List.getElem?_eq_getElem hk]
      have h1 : (0 : Int) ≤ (k : Int) := by omega
      simp [h1, hp.2]
    rw [hg]
    refine ok_enter Tryz.func42 rfl Tryz.ntmps42 rfl ?_
    focus (refine gc_seq ?_; refine gc_region ?_; refine gw_boxd (v := .agg _) rfl rfl (fun _ => ?_); apply gw_d; exact det_m rfl rfl (by conv => (lhs; whnf)); refine gw_nil ?_; refine gx_next ?_; refine gc_seq ?_; refine gc_region ?_; apply gw_d; exact det_m rfl rfl (by conv => (lhs; whnf)); apply gw_d; exact det_cmp rfl rfl rfl rfl rfl; apply gw_d; exact det_m rfl rfl (by conv => (lhs; whnf)); apply gw_d; exact det_m rfl rfl (by conv => (lhs; whnf)); apply gw_d; exact w_field rfl rfl rfl; apply gw_d; exact w_load_box rfl rfl rfl .here rfl; apply gw_d; exact w_len rfl rfl rfl; apply gw_d; exact det_cmp rfl rfl rfl rfl rfl; apply gw_d; exact det_pick_t (v := .bool _) rfl rfl rfl rfl; apply gw_d; exact det_m rfl rfl (by conv => (lhs; whnf)); refine gw_guard_dec rfl rfl (fun _ => ?_) (fun _ => ?_); apply gw_d; exact det_m rfl rfl (by conv => (lhs; whnf)); apply gw_d; exact det_cmp rfl rfl rfl rfl rfl; apply gw_d; exact det_pick_t (v := .bool _) rfl rfl rfl rfl; apply gw_d; exact det_m rfl rfl (by conv => (lhs; whnf)); refine gw_guard_dec rfl rfl (fun _ => ?_) (fun _ => ?_); apply gw_d; exact det_m rfl rfl (by conv => (lhs; whnf)); apply gw_d; exact w_field rfl rfl rfl; apply gw_d; exact w_load_box rfl rfl rfl .here rfl; apply gw_d; exact det_m rfl rfl (by conv => (lhs; whnf)); apply gw_d; exact w_index rfl rfl rfl rfl (by with_reducible exact rfl) (by omega); apply gw_d; exact w_field rfl rfl rfl; apply gw_d; exact w_load_fld rfl rfl rfl (by assumption) (by assumption); apply gw_d; exact w_len rfl rfl rfl; apply gw_d; exact det_cmp rfl rfl rfl rfl rfl; apply gw_d; exact det_pick_t (v := .bool _) rfl rfl rfl rfl; apply gw_d; exact det_m rfl rfl (by conv => (lhs; whnf)); refine gw_nil ?_; refine gx_next ?_; refine gc_ret ?_; rotate_left; apply gw_d; exact det_not rfl; apply gw_d; exact det_not rfl; apply gw_d; exact det_not rfl; apply gw_d; exact det_not rfl; apply gw_d; exact det_not rfl; apply gw_d; exact det_not rfl; apply gw_d; exact det_not rfl; apply gw_d; exact det_not rfl; apply gw_d; exact det_not rfl; apply gw_d; exact det_pick_f (v := .bool _) rfl rfl rfl rfl; apply gw_d; exact det_m rfl rfl (by conv => (lhs; whnf)); refine gw_nil ?_; refine gx_next ?_; refine gc_ret ?_; rotate_left; apply gw_d; exact det_not rfl; apply gw_d; exact det_not rfl; apply gw_d; exact det_pick_f (v := .bool _) rfl rfl rfl rfl; apply gw_d; exact det_m rfl rfl (by conv => (lhs; whnf)); apply gw_d; exact det_not rfl; apply gw_d; exact det_not rfl; apply gw_d; exact det_not rfl; apply gw_d; exact det_not rfl; apply gw_d; exact det_not rfl; apply gw_d; exact det_not rfl; apply gw_d; exact det_not rfl; apply gw_d; exact det_not rfl; apply gw_d; exact det_not rfl; apply gw_d; exact det_pick_f (v := .bool _) rfl rfl rfl rfl; apply gw_d; exact det_m rfl rfl (by conv => (lhs; whnf)); refine gw_nil ?_; refine gx_next ?_; refine gc_ret ?_; rotate_left)
    all_goals first | (exfalso; omega) | (refine gx_ret1 (v := .bool _) rfl rfl (fun _ _ => ?_); simp [*])
  · have hg : isEdgeB s p e = false := by
      unfold isEdgeB
      by_cases h1 : 0 ≤ p
      · have h2 : ¬ p < (s.pieces.length : Int) := fun h => hp ⟨h1, h⟩
        simp [h2]
      · simp [h1]
    rw [hg]
    refine ok_enter Tryz.func42 rfl Tryz.ntmps42 rfl ?_
    focus (refine gc_seq ?_; refine gc_region ?_; refine gw_boxd (v := .agg _) rfl rfl (fun _ => ?_); apply gw_d; exact det_m rfl rfl (by conv => (lhs; whnf)); refine gw_nil ?_; refine gx_next ?_; refine gc_seq ?_; refine gc_region ?_; apply gw_d; exact det_m rfl rfl (by conv => (lhs; whnf)); apply gw_d; exact det_cmp rfl rfl rfl rfl rfl; apply gw_d; exact det_m rfl rfl (by conv => (lhs; whnf)); refine gw_guard_dec rfl rfl (fun _ => ?_) (fun _ => ?_); apply gw_d; exact det_m rfl rfl (by conv => (lhs; whnf)); apply gw_d; exact w_field rfl rfl rfl; apply gw_d; exact w_load_box rfl rfl rfl .here rfl; apply gw_d; exact w_len rfl rfl rfl; apply gw_d; exact det_cmp rfl rfl rfl rfl rfl; apply gw_d; exact det_pick_t (v := .bool _) rfl rfl rfl rfl; apply gw_d; exact det_m rfl rfl (by conv => (lhs; whnf)); refine gw_guard_dec rfl rfl (fun _ => ?_) (fun _ => ?_); apply gw_d; exact det_m rfl rfl (by conv => (lhs; whnf)); apply gw_d; exact det_cmp rfl rfl rfl rfl rfl; apply gw_d; exact det_pick_t (v := .bool _) rfl rfl rfl rfl; apply gw_d; exact det_m rfl rfl (by conv => (lhs; whnf)); refine gw_guard_dec rfl rfl (fun _ => ?_) (fun _ => ?_); apply gw_d; exact det_m rfl rfl (by conv => (lhs; whnf)); apply gw_d; exact w_field rfl rfl rfl; apply gw_d; exact w_load_box rfl rfl rfl .here rfl; apply gw_d; exact det_m rfl rfl (by conv => (lhs; whnf)); rotate_left; apply gw_d; exact det_not rfl; apply gw_d; exact det_not rfl; apply gw_d; exact det_not rfl; apply gw_d; exact det_not rfl; apply gw_d; exact det_not rfl; apply gw_d; exact det_not rfl; apply gw_d; exact det_not rfl; apply gw_d; exact det_not rfl; apply gw_d; exact det_not rfl; apply gw_d; exact det_pick_f (v := .bool _) rfl rfl rfl rfl; apply gw_d; exact det_m rfl rfl (by conv => (lhs; whnf)); refine gw_nil ?_; refine gx_next ?_; refine gc_ret ?_; rotate_left; apply gw_d; exact det_not rfl; apply gw_d; exact det_not rfl; apply gw_d; exact det_pick_f (v := .bool _) rfl rfl rfl rfl; apply gw_d; exact det_m rfl rfl (by conv => (lhs; whnf)); apply gw_d; exact det_not rfl; apply gw_d; exact det_not rfl; apply gw_d; exact det_not rfl; apply gw_d; exact det_not rfl; apply gw_d; exact det_not rfl; apply gw_d; exact det_not rfl; apply gw_d; exact det_not rfl; apply gw_d; exact det_not rfl; apply gw_d; exact det_not rfl; apply gw_d; exact det_pick_f (v := .bool _) rfl rfl rfl rfl; apply gw_d; exact det_m rfl rfl (by conv => (lhs; whnf)); refine gw_nil ?_; refine gx_next ?_; refine gc_ret ?_; rotate_left; apply gw_d; exact det_not rfl; apply gw_d; exact det_not rfl; apply gw_d; exact det_not rfl; apply gw_d; exact det_not rfl; apply gw_d; exact det_not rfl; apply gw_d; exact det_pick_f (v := .bool _) rfl rfl rfl rfl; apply gw_d; exact det_m rfl rfl (by conv => (lhs; whnf)); apply gw_d; exact det_not rfl; apply gw_d; exact det_not rfl; apply gw_d; exact det_pick_f (v := .bool _) rfl rfl rfl rfl; apply gw_d; exact det_m rfl rfl (by conv => (lhs; whnf)); apply gw_d; exact det_not rfl; apply gw_d; exact det_not rfl; apply gw_d; exact det_not rfl; apply gw_d; exact det_not rfl; apply gw_d; exact det_not rfl; apply gw_d; exact det_not rfl; apply gw_d; exact det_not rfl; apply gw_d; exact det_not rfl; apply gw_d; exact det_not rfl; apply gw_d; exact det_pick_f (v := .bool _) rfl rfl rfl rfl; apply gw_d; exact det_m rfl rfl (by conv => (lhs; whnf)); refine gw_nil ?_; refine gx_next ?_; refine gc_ret ?_; rotate_left)
    all_goals first | (exfalso; omega) | (refine gx_ret1 (v := .bool _) rfl rfl (fun _ _ => ?_); rfl)
end Go.Proofs.YteiboodeepjanaaGreat
