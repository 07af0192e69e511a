/- Texts in one file: C9 C10 C11 C12 C13 N1 N2 N3 N4 N5 N6 N7 N8 N9 N10. -/
import Derived.Test.YtljibjlkjelpbaaGreatDoorJC
import Derived.Test.YtljibjlkjelpbaaGreatDoorJB
import Derived.Test.YtljibjlkjelpbaaGreatDoorJA
import Derived.Test.YtljibjlkjelpbaaGreatDoorJT
/- Contracts: outlines. -/
namespace Go.Proofs.YtljibjlkjelpbaaGreatDoor
open Go.RowKit
set_option maxRecDepth 100000
set_option maxHeartbeats 2000000


/-- The first error of f 0, f 1, .. -/
def firstE (f : Nat → Int) : Nat → Int
  | 0 => 0
  | n + 1 => if firstE f n = 0 then f n else firstE f n
theorem firstE_snoc {f : Nat → Int} {k : Nat} (h : firstE f k = 0) (hf : f k = 0) : firstE f (k + 1) = 0 := by
  show (if firstE f k = 0 then f k else firstE f k) = 0
  rw [if_pos h, hf]
theorem firstE_stop {f : Nat → Int} {k : Nat} (h : firstE f k = 0) (hf : ¬ f k = 0) : ∀ {n}, k < n → firstE f n = f k
  | 0, hn => by omega
  | n + 1, hn => by
    show (if firstE f n = 0 then f n else firstE f n) = f k
    by_cases he : n = k
    · subst he; rw [if_pos h]
    · have := firstE_stop h hf (n := n) (by omega)
      rw [this, if_neg hf]
theorem firstE_at {f : Nat → Int} : ∀ {n}, firstE f n = 0 → ∀ k, k < n → f k = 0
  | 0, _, k, hk => by omega
  | n + 1, h, k, hk => by
    have h' : (if firstE f n = 0 then f n else firstE f n) = 0 := h
    split at h'
    · rename_i h0
      by_cases he : k = n
      · rw [he]; exact h'
      · exact firstE_at h0 k (by omega)
    · rename_i h0; exact absurd h' h0

/-! ### Edges -/
abbrev Edg := ByteArray × List (Int × Int)
def rEdge : Rp Edg where
  size := 2
  rep w S p cs := ∃ v, cs = [.string p.1, v] ∧ p.1.size ≤ maxLen ∧ SlS rSpot w S v p.2
  len h := by obtain ⟨v, rfl, _⟩ := h; rfl
  mono hb h := by obtain ⟨v, h0, h1, h2⟩ := h; exact ⟨v, h0, h1, h2.mono hb⟩
  grow hB h := by obtain ⟨v, h0, h1, h2⟩ := h; exact ⟨v, h0, h1, h2.grow hB⟩
def gE (l : List Edg) (k : Nat) : Edg := l.getD k (ByteArray.empty, [])
theorem gE_get {l : List Edg} {k : Nat} (hk : k < l.length) : gE l k = l[k] := by
  unfold gE
  simp [hk]
theorem Sl.edge' {w : World} {B : Nat} {v : Value} {l : List Edg} (h : Sl rEdge w B v l) (hl : 0 < l.length) : ∃ ad c, v = .slice (some ad) l.length c ∧ l.length ≤ c ∧ l.length ≤ 9223372036854775807 ∧ ad.block < B ∧
    ∀ k (_ : k < l.length), ∃ A' c', (∀ j u, [Value.string (gE l k).1, Value.slice A' (gE l k).2.length c'][j]? = some u → w.cell? (ad.add (k * 2 + j)) = some u) ∧ (gE l k).1.size ≤ 9223372036854775807 ∧
      (gE l k).2.length ≤ c' ∧ (gE l k).2.length ≤ 9223372036854775807 ∧ Sl rSpot w B (.slice A' (gE l k).2.length c') (gE l k).2 := by
  obtain ⟨A, c, hv, h1, h2, h3⟩ := h
  obtain ⟨ad, _, ha, hlt, _⟩ := h3 0 hl
  subst ha
  refine ⟨ad, c, hv, h1, by unfold maxLen at h2; omega, hlt, fun k hk => ?_⟩
  obtain ⟨ad', cs, ha, _, hc, u, rfl, hs, hsl⟩ := h3 k hk
  injection ha with ha
  subst ha
  rw [gE_get hk]
  obtain ⟨A', c', rfl, h4, h5⟩ := len_small hsl
  exact ⟨A', c', hc, by unfold maxLen at hs; omega, h4, h5, hsl⟩
theorem Sl.spots_in {w : World} {B : Nat} {v : Value} {l : List (Int × Int)} (h : Sl rSpot w B v l) : ∀ p ∈ l, inI64 p.1 ∧ inI64 p.2 := fun p hp => by
  obtain ⟨A, c, _, _, _, h3⟩ := h
  obtain ⟨k, hk, rfl⟩ := List.getElem_of_mem hp
  obtain ⟨_, _, _, _, _, hr⟩ := h3 k hk
  exact hr.2
theorem Sl.edges_in {w : World} {B : Nat} {v : Value} {l : List Edg} (h : Sl rEdge w B v l) : ∀ x ∈ l, ∃ u, Sl rSpot w B u x.2 := fun p hp => by
  obtain ⟨A, c, _, _, _, h3⟩ := h
  obtain ⟨k, hk, rfl⟩ := List.getElem_of_mem hp
  obtain ⟨_, _, _, _, _, u, _, _, hr⟩ := h3 k hk
  exact ⟨u, hr⟩

/-! ### Slices of spots as one row of cells -/
def encS (p : Int × Int) : List Value := [.int .i64 p.1, .int .i64 p.2]
theorem encS_len (l : List (Int × Int)) : (l.flatMap encS).length = l.length * 2 := by
  induction l with
  | nil => rfl
  | cons p l ih => rw [List.flatMap_cons, List.length_append, ih]; simp [encS]; omega
theorem encS_one (l : List (Int × Int)) : ∀ u ∈ l.flatMap encS, u.oneCell' = true := fun u hu => by
  rw [List.mem_flatMap] at hu
  obtain ⟨p, _, hu⟩ := hu
  simp only [encS, List.mem_cons, List.not_mem_nil, or_false] at hu
  rcases hu with rfl | rfl <;> rfl
theorem Sl.row {w : World} {B : Nat} {A : Option Addr} {n c : Nat} {l : List (Int × Int)} (h : Sl rSpot w B (.slice A n c) l) (hl : 0 < l.length) : ∃ ad, A = some ad ∧ ∀ j u, (l.flatMap encS)[j]? = some u → w.cell? (ad.add j) = some u := by
  obtain ⟨ad, c', hv, _, _, _, hcell⟩ := h.spot' hl
  injection hv with e1 e2 e3
  subst e1
  refine ⟨ad, rfl, fun j u hu => ?_⟩
  have hj : j < (l.flatMap encS).length := (List.getElem?_eq_some_iff.1 hu).1
  rw [encS_len] at hj
  have hk : j / 2 < l.length := by omega
  have h2 := flat_get (enc := encS) (sz := 2) l (fun _ _ => rfl) (j / 2) hk (j % 2) (by omega)
  rw [show j / 2 * 2 + j % 2 = j by omega, hu] at h2
  have h3 := hcell (j / 2) hk (j % 2) u (by rw [gS_get hk]; exact h2.symm)
  rwa [show j / 2 * 2 + j % 2 = j by omega] at h3

/-! ### Vertices -/
def vertsOf (l : List Edg) : List (Int × Int) := l.flatMap fun x => x.2.dropLast
theorem verts_snoc {l : List Edg} {k : Nat} (hk : k < l.length) : vertsOf (l.take (k + 1)) = vertsOf (l.take k) ++ (gE l k).2.dropLast := by
  unfold vertsOf
  rw [List.take_succ_eq_append_getElem hk, List.flatMap_append, gE_get hk]
  simp
theorem verts_le {l : List Edg} (h : ∀ x ∈ l, x.2.length ≤ 40) : (vertsOf l).length ≤ l.length * 40 := by
  induction l with
  | nil => simp [vertsOf]
  | cons x l ih =>
    have h1 := h x List.mem_cons_self
    have h2 := ih fun y hy => h y (List.mem_cons_of_mem _ hy)
    unfold vertsOf at *
    rw [List.flatMap_cons, List.length_append, List.length_dropLast, List.length_cons]
    omega
theorem verts_in {w : World} {B : Nat} {v : Value} {l : List Edg} (h : Sl rEdge w B v l) : ∀ p ∈ vertsOf l, inI64 p.1 ∧ inI64 p.2 := fun p hp => by
  unfold vertsOf at hp
  rw [List.mem_flatMap] at hp
  obtain ⟨x, hx, hp⟩ := hp
  obtain ⟨u, hu⟩ := h.edges_in x hx
  exact hu.spots_in p (List.dropLast_subset _ hp)

theorem vertices_ok (w : World) (v : Value) (l : List Edg) (hl : Sl rEdge w w.heap.size v l) (h0 : 0 < l.length) (h16 : l.length ≤ 16) (hlen : ∀ x ∈ l, 1 ≤ x.2.length ∧ x.2.length ≤ 40) :
    OkM Tryz.prog 94 [v].toArray w (fun x : Option Addr × Nat => .slice x.1 (vertsOf l).length x.2) (fun x => [Own x.1 (vertsOf l).length x.2 121 2 ((vertsOf l).flatMap encS)]) := by
  obtain ⟨ad, c, rfl, hc, hm, hb, hcell⟩ := hl.edge' h0
  unfold OkM
  refine ok_enter Tryz.func94 rfl Tryz.ntmps94 rfl ?_
  refine gc_own0 121 2 ?_
  focus (refine gc_seq ?_; refine gc_region ?_; refine gM rfl rfl (by conv => (lhs; whnf)) ?_; refine gN ?_; refine gM rfl rfl (by conv => (lhs; whnf)) ?_; refine gO ?_; refine gc_seq ?_; refine gc_seq ?_; refine gc_region ?_; refine gM rfl rfl (by conv => (lhs; whnf)) ?_; refine gL rfl rfl rfl ?_; refine gM rfl rfl (by conv => (lhs; whnf)) ?_; refine gO ?_; refine gc_block ?_)
  refine gc_loop (σ := Nat × Option Addr × Nat) [9, 10, 11, 5, 12, 13, 14, 15, 16, 17, 18, 19, 20, 3, 21, 8] (fun s => [(3, .slice s.2.1 (vertsOf (l.take s.1)).length s.2.2), (8, .int .i64 s.1)]) (fun s => [Own s.2.1 (vertsOf (l.take s.1)).length s.2.2 121 2 ((vertsOf (l.take s.1)).flatMap encS)])
    (fun s => s.1 ≤ l.length) (fun s => l.length - s.1) (0, none, 0) (Nat.zero_le _) ⟨rfl, rfl, trivial⟩ (.cons .here .nil) ?_
  rintro ⟨k, A, c2⟩ base hk
  dsimp only at hk ⊢
  focus (refine gc_seq ?_; refine gc_region ?_; refine gC rfl rfl rfl rfl rfl ?_; refine gO ?_; refine gc_seq ?_)
  refine gc_if_dec rfl (fun h => ?_) (fun h => ?_)
  · have hlt : k < l.length := by omega
    obtain ⟨A1, c1, hce, hsz, hc1, hm1, hsl⟩ := hcell k hlt
    obtain ⟨h1, h2⟩ := hlen _ (by rw [gE_get hlt]; exact List.getElem_mem hlt : gE l k ∈ l)
    have hv := verts_snoc hlt
    have hn : (vertsOf (l.take (k + 1))).length = (vertsOf (l.take k)).length + ((gE l k).2.length - 1) := by rw [hv, List.length_append, List.length_dropLast]
    have hle := verts_le (l := l.take k) (fun x hx => (hlen x (List.mem_of_mem_take hx)).2)
    rw [List.length_take] at hle
    have hlast : (gE l k).2.dropLast = (gE l k).2.take ((gE l k).2.length - 1) := List.dropLast_eq_take
    have hsl2 := hsl.take (m := (gE l k).2.length - 1) (by omega)
    focus (refine gc_skip ?_; refine gx_next ?_; refine gc_seq ?_; refine gc_block ?_; refine gc_seq ?_; refine gc_region ?_; apply gw_d; exact w_index rfl rfl rfl rfl (by with_reducible exact rfl) (by omega); apply gw_d; exact w_load_elem rfl rfl rfl (by assumption) (by assumption) (by rfl); refine w_alloc rfl (fun _ => ?_); refine w_store_all rfl rfl rfl rfl rfl .here rfl ?_; refine gO ?_; refine gc_region ?_; refine gM rfl rfl (by conv => (lhs; whnf)) ?_; refine gF rfl rfl rfl ?_; apply gw_d; exact w_load_box rfl rfl rfl .here rfl; refine gF rfl rfl rfl ?_; apply gw_d; exact w_load_box rfl rfl rfl .here rfl; refine gL rfl rfl rfl ?_; apply gw_d; exact det_ar rfl rfl rfl rfl rfl (by omega); apply gw_d; exact w_cut_hi rfl rfl rfl rfl (by with_reducible exact castS (by omega)) (by omega))
    refine gw_append (news := ((gE l k).2.dropLast).flatMap encS) rfl rfl rfl (.there .here) (by rw [encS_len, List.length_dropLast]) (fun w' s hpos => ?_) (encS_one _) (by unfold maxLen; omega) (by omega) (by decide) rfl (fun A2 c3 => ?_)
    · rw [hlast]
      exact (hsl2.later s).row (by rw [List.length_take]; omega)
    · focus (refine gM rfl rfl (by conv => (lhs; whnf)) ?_; refine gw_nil ?_; refine gx_block ?_; refine gx_next ?_; refine gc_region ?_; apply gw_d; exact det_ar rfl rfl rfl rfl rfl (by omega); refine gM rfl rfl (by conv => (lhs; whnf)) ?_; refine gw_nil ?_)
      exact gx_round (k + 1, A2, c3) (by dsimp only; omega) (by dsimp only; omega) (by repeat (first | exact Keeps.refl | refine Keeps.upd rfl ?_ | refine Keeps.sets rfl ?_ | refine Keeps.havoc rfl ?_)) ⟨by rw [hn]; rfl, rfl, trivial⟩ (by rw [hn, hv, List.flatMap_append]; exact .cons .here .nil)
  · obtain rfl : k = l.length := by omega
    rw [List.take_length]
    focus (refine gc_exit ?_; refine gx_then_exit ?_; refine gx_then_exit ?_; refine gx_block_exit ?_; refine gx_next ?_; refine gc_seq ?_; refine gc_region ?_; refine gM rfl rfl (by conv => (lhs; whnf)) ?_; refine gM rfl rfl (by conv => (lhs; whnf)) ?_; refine gO ?_; refine gc_ret ?_)
    exact gx_ret1 rfl rfl fun w s => ⟨(A, c2), rfl, s.sep⟩
end Go.Proofs.YtljibjlkjelpbaaGreatDoor

/- Contracts: outlines are checked. -/
namespace Go.Proofs.YtljibjlkjelpbaaGreatDoor
open Go.RowKit
set_option maxRecDepth 100000
set_option maxHeartbeats 4000000

def eqS (p q : ByteArray) : Bool := p.toList == q.toList
def oldName (l : List Edg) (k n : Nat) : Bool := (l.take n).any fun x => eqS x.1 (gE l k).1
def edgeE (l : List Edg) (k : Nat) : Int := if nameB (gE l k).1 = true then if oldName l k k = true then 7 else plineE (gE l k).2 else 1
def gapAt (l : List Edg) (i : Nat) : Bool := decide (¬ gS (gE l i).2 ((gE l i).2.length - 1) = gS (gE l ((i + 1) % l.length)).2 0)
def gapB (l : List Edg) (n : Nat) : Bool := (List.range n).any (gapAt l)
def outlineE (l : List Edg) : Int := if 16 < l.length then 5 else if l.length < 2 then 11 else if firstE (edgeE l) l.length = 0 then if gapB l l.length = true then 11 else polyE (vertsOf l) else firstE (edgeE l) l.length

theorem old_snoc {l : List Edg} {k n : Nat} (hn : n < l.length) (h : oldName l k n = false) (hp : eqS (gE l n).1 (gE l k).1 = false) : oldName l k (n + 1) = false := by
  unfold oldName at *
  rw [List.take_succ_eq_append_getElem hn, List.any_append, h]
  rw [gE_get hn] at hp
  simp [hp]
theorem old_yes {l : List Edg} {k n m : Nat} (hn : n < l.length) (hm : n < m) (hp : eqS (gE l n).1 (gE l k).1 = true) : oldName l k m = true := by
  unfold oldName
  rw [List.any_eq_true]
  refine ⟨gE l n, ?_, hp⟩
  rw [gE_get hn, List.mem_take_iff_getElem]
  exact ⟨n, by omega, rfl⟩
theorem pline_len {l : List (Int × Int)} (h : plineE l = 0) : 2 ≤ l.length ∧ l.length ≤ 40 := by
  unfold plineE at h
  split at h
  · cases h
  · split at h
    · cases h
    · omega
theorem edge_pline {l : List Edg} {k : Nat} (h : edgeE l k = 0) : plineE (gE l k).2 = 0 := by
  unfold edgeE at h
  split at h
  · split at h
    · cases h
    · exact h
  · cases h

theorem outline_ok (w : World) (v : Value) (l : List Edg) (hl : Sl rEdge w w.heap.size v l) : Ok Tryz.prog 78 [v].toArray w fun r _ => r = .int .i64 (outlineE l) := by
  by_cases hlen : 2 ≤ l.length
  · obtain ⟨ad, c, rfl, hc, hm, hb, hcell⟩ := hl.edge' (by omega)
    have h2 : ¬ l.length < 2 := by omega
    refine ok_enter Tryz.func78 rfl Tryz.ntmps78 rfl ?_
    focus (refine gc_seq ?_; refine gc_region ?_; refine gM rfl rfl (by conv => (lhs; whnf)) ?_; refine gO ?_; refine gc_seq ?_; refine gc_seq ?_; refine gc_region ?_; refine gM rfl rfl (by conv => (lhs; whnf)) ?_; refine gL rfl rfl rfl ?_; refine gC rfl rfl rfl rfl rfl ?_; refine gO ?_)
    refine gc_if_dec rfl (fun h => ?_) (fun h => ?_)
    · focus (refine gc_seq ?_; refine gc_region ?_; refine gM rfl rfl (by conv => (lhs; whnf)) ?_; refine gO ?_; refine gc_ret ?_; refine gx_then_ret ?_)
      refine gx_ret1 (v := .int _ _) rfl rfl (fun _ _ => ?_)
      have : 16 < l.length := by omega
      simp [outlineE, this]
    have h16 : ¬ 16 < l.length := by omega
    focus (refine gc_skip ?_; refine gx_next ?_; refine gc_seq ?_; refine gc_seq ?_; refine gc_region ?_; refine gM rfl rfl (by conv => (lhs; whnf)) ?_; refine gL rfl rfl rfl ?_; refine gC rfl rfl rfl rfl rfl ?_; refine gO ?_)
    refine gc_if_dec rfl (fun h => by omega) (fun _ => ?_)
    focus (refine gc_skip ?_; refine gx_next ?_; refine gc_seq ?_; refine gc_seq ?_; refine gc_region ?_; refine gM rfl rfl (by conv => (lhs; whnf)) ?_; refine gL rfl rfl rfl ?_; refine gM rfl rfl (by conv => (lhs; whnf)) ?_; refine gO ?_; refine gc_block ?_)
    refine gc_loop (σ := Nat) [20, 21, 22, 23, 4, 3, 24, 25, 26, 27, 2, 28, 29, 30, 31, 32, 33, 34, 35, 6, 36, 37, 38, 39, 40, 41, 42, 43, 44, 7, 45, 46, 47, 48, 19] (fun k => [(19, .int .i64 k)]) (fun _ => []) (fun k => k ≤ l.length ∧ firstE (edgeE l) k = 0) (fun k => l.length - k) 0 ⟨Nat.zero_le _, rfl⟩ ⟨rfl, trivial⟩ .nil ?_
    rintro k base ⟨hk, hI⟩
    focus (refine gc_seq ?_; refine gc_region ?_; refine gC rfl rfl rfl rfl rfl ?_; refine gO ?_; refine gc_seq ?_)
    refine gc_if_dec rfl (fun h => ?_) (fun h => ?_)
    · have hlt : k < l.length := by omega
      obtain ⟨A1, c1, hce, hsz, hc1, hm1, hsl⟩ := hcell k hlt
      have hstop : ¬ edgeE l k = 0 → outlineE l = edgeE l k := fun hne => by
        have h3 := firstE_stop hI hne hlt
        unfold outlineE
        rw [if_neg h16, if_neg h2, h3, if_neg hne]
      focus (refine gc_skip ?_; refine gx_next ?_; refine gc_seq ?_; refine gc_block ?_; refine gc_seq ?_; refine gc_region ?_; refine gM rfl rfl (by conv => (lhs; whnf)) ?_; apply gw_d; exact w_index rfl rfl rfl rfl (by with_reducible exact rfl) (by omega); apply gw_d; exact w_load_elem rfl rfl rfl (by assumption) (by assumption) (by rfl); refine w_alloc rfl (fun _ => ?_); refine gM rfl rfl (by conv => (lhs; whnf)) ?_; refine w_store_all rfl rfl rfl rfl rfl .here rfl ?_; refine gO ?_; refine gc_seq ?_; refine gc_seq ?_; refine gc_region ?_; refine gF rfl rfl rfl ?_; apply gw_d; exact w_load_box rfl rfl rfl .here rfl; apply gw_d; exact w_call rfl rfl (fun w s => outlineName_ok w _ hsz) rfl; apply gw_d; exact det_not_ rfl rfl rfl; refine gO ?_)
      refine gc_if rfl (fun h3 => ?_) (fun h3 => ?_)
      · focus (refine gc_seq ?_; refine gc_region ?_; refine gM rfl rfl (by conv => (lhs; whnf)) ?_; refine gO ?_; refine gc_ret ?_; refine gx_then_ret ?_; refine gx_block_ret ?_; refine gx_then_ret ?_; refine gx_then_ret ?_; refine gx_block_ret ?_; refine gx_then_ret ?_)
        refine gx_ret1 (v := .int _ _) rfl rfl (fun _ _ => ?_)
        have : edgeE l k = 1 := by unfold edgeE; rw [if_neg (by simpa using h3)]
        rw [hstop (by rw [this]; decide), this]
      have hname : nameB (gE l k).1 = true := by simpa using h3
      focus (refine gc_skip ?_; refine gx_next ?_; refine gc_seq ?_; refine gc_seq ?_; refine gc_region ?_; refine gM rfl rfl (by conv => (lhs; whnf)) ?_; refine gM rfl rfl (by conv => (lhs; whnf)) ?_; apply gw_d; exact w_cut_hi rfl rfl rfl rfl (by with_reducible exact rfl) (by omega); refine gL rfl rfl rfl ?_; refine gM rfl rfl (by conv => (lhs; whnf)) ?_; refine gO ?_; refine gc_block ?_)
      refine gc_loopK (σ := Nat) [33, 34, 35, 6, 36, 37, 38, 39, 40, 2, 41, 32] (fun j => [(32, .int .i64 j)]) (fun j => j ≤ k ∧ oldName l k j = false) (fun j => k - j) 0 ⟨Nat.zero_le _, rfl⟩ ⟨rfl, trivial⟩ ?_
      rintro j base2 ⟨hj, hJ⟩
      focus (refine gc_seq ?_; refine gc_region ?_; refine gC rfl rfl rfl rfl rfl ?_; refine gO ?_; refine gc_seq ?_)
      refine gc_if_dec rfl (fun h4 => ?_) (fun h4 => ?_)
      · have hjl : j < l.length := by omega
        obtain ⟨A2, c2, hce2, _, _, _, _⟩ := hcell j hjl
        focus (refine gc_skip ?_; refine gx_next ?_; refine gc_seq ?_; refine gc_block ?_; refine gc_seq ?_; refine gc_region ?_; apply gw_d; exact w_index rfl rfl rfl rfl (by with_reducible exact rfl) (by omega); apply gw_d; exact w_load_elem rfl rfl rfl (by assumption) (by assumption) (by rfl); refine w_alloc rfl (fun _ => ?_); refine w_store_all rfl rfl rfl rfl rfl .here rfl ?_; refine gN ?_; refine gF rfl rfl rfl ?_; apply gw_d; exact w_load_box rfl rfl rfl .here rfl; refine gF rfl rfl rfl ?_; apply gw_d; exact w_load_box rfl rfl rfl (.there .here) rfl; apply gw_d; exact det_seq rfl rfl rfl rfl; refine gO ?_)
        refine gc_if rfl (fun h5 => ?_) (fun h5 => ?_)
        · focus (refine gc_seq ?_; refine gc_region ?_; refine gM rfl rfl (by conv => (lhs; whnf)) ?_; refine gO ?_; refine gc_ret ?_; refine gx_block_ret ?_; refine gx_then_ret ?_; refine gx_then_ret ?_; refine gx_block_ret ?_; refine gx_then_ret ?_; refine gx_block_ret ?_; refine gx_then_ret ?_; refine gx_then_ret ?_; refine gx_block_ret ?_; refine gx_then_ret ?_)
          refine gx_ret1 (v := .int _ _) rfl rfl (fun _ _ => ?_)
          have hold : oldName l k k = true := old_yes hjl (by omega) h5
          have : edgeE l k = 7 := by unfold edgeE; rw [if_pos hname, if_pos hold]
          rw [hstop (by rw [this]; decide), this]
        · focus (refine gc_skip ?_; refine gx_block ?_; refine gx_next ?_; refine gc_region ?_; apply gw_d; exact det_ar rfl rfl rfl rfl rfl (by omega); refine gM rfl rfl (by conv => (lhs; whnf)) ?_; refine gw_nil ?_)
          exact gx_round (j + 1) ⟨by omega, old_snoc hjl hJ h5⟩ (by omega) (by repeat (first | exact Keeps.refl | refine Keeps.upd rfl ?_ | refine Keeps.sets rfl ?_ | refine Keeps.havoc rfl ?_)) ⟨rfl, trivial⟩ Sub.tail
      · obtain rfl : j = k := by omega
        have he : edgeE l j = plineE (gE l j).2 := by unfold edgeE; rw [if_pos hname, if_neg (by simpa using hJ)]
        focus (refine gc_exit ?_; refine gx_then_exit ?_; refine gx_then_exit ?_; refine gx_block_exit ?_; refine gx_next ?_; refine gc_seq ?_; refine gc_region ?_; refine gF rfl rfl rfl ?_; apply gw_d; exact w_load_box rfl rfl rfl .here rfl; apply gw_d; exact w_call rfl rfl (fun w s => polyline_ok w _ _ (hsl.later s)) rfl; refine gM rfl rfl (by conv => (lhs; whnf)) ?_; refine gN ?_; refine gM rfl rfl (by conv => (lhs; whnf)) ?_; refine gC rfl rfl rfl rfl rfl ?_; refine gO ?_)
        refine gc_if_dec rfl (fun h5 => ?_) (fun h5 => ?_)
        · focus (refine gc_seq ?_; refine gc_region ?_; refine gM rfl rfl (by conv => (lhs; whnf)) ?_; refine gM rfl rfl (by conv => (lhs; whnf)) ?_; refine gO ?_; refine gc_ret ?_; refine gx_block_ret ?_; refine gx_then_ret ?_; refine gx_then_ret ?_; refine gx_block_ret ?_; refine gx_then_ret ?_)
          refine gx_ret1 (v := .int _ _) rfl rfl (fun _ _ => ?_)
          rw [hstop (by rw [he]; exact h5), he]
        · focus (refine gc_skip ?_; refine gx_block ?_; refine gx_next ?_; refine gc_region ?_; apply gw_d; exact det_ar rfl rfl rfl rfl rfl (by omega); refine gM rfl rfl (by conv => (lhs; whnf)) ?_; refine gw_nil ?_)
          exact gx_round (j + 1) ⟨by omega, firstE_snoc hI (by rw [he]; simpa using h5)⟩ (by omega) (by repeat (first | exact Keeps.refl | refine Keeps.upd rfl ?_ | refine Keeps.sets rfl ?_ | refine Keeps.havoc rfl ?_)) ⟨rfl, trivial⟩ .nil
    · obtain rfl : k = l.length := by omega
      have hall : ∀ i, i < l.length → 2 ≤ (gE l i).2.length ∧ (gE l i).2.length ≤ 40 := fun i hi => pline_len (edge_pline (firstE_at hI i hi))
      focus (refine gc_exit ?_; refine gx_then_exit ?_; refine gx_then_exit ?_; refine gx_block_exit ?_; refine gx_next ?_; refine gc_seq ?_; refine gc_seq ?_; refine gc_region ?_; refine gM rfl rfl (by conv => (lhs; whnf)) ?_; refine gL rfl rfl rfl ?_; refine gM rfl rfl (by conv => (lhs; whnf)) ?_; refine gO ?_; refine gc_block ?_)
      refine gc_loop (σ := Nat) [52, 53, 54, 55, 9, 8, 56, 57, 58, 59, 60, 61, 62, 63, 10, 64, 65, 66, 67, 68, 69, 70, 71, 72, 73, 74, 75, 76, 2, 77, 51] (fun k => [(51, .int .i64 k)]) (fun _ => []) (fun k => k ≤ l.length ∧ gapB l k = false) (fun k => l.length - k) 0 ⟨Nat.zero_le _, rfl⟩ ⟨rfl, trivial⟩ .nil ?_
      rintro i base2 ⟨hi, hJ⟩
      focus (refine gc_seq ?_; refine gc_region ?_; refine gC rfl rfl rfl rfl rfl ?_; refine gO ?_; refine gc_seq ?_)
      refine gc_if_dec rfl (fun h => ?_) (fun h => ?_)
      · have hlt : i < l.length := by omega
        have hp1 : (i + 1) % l.length < l.length := Nat.mod_lt _ (by omega)
        obtain ⟨A1, c1, hce1, _, hc1, hm1, hsl1⟩ := hcell i hlt
        obtain ⟨A2, c2, hce2, _, hc2, hm2, hsl2⟩ := hcell _ hp1
        have hn1 := hall i hlt
        have hn2 := hall _ hp1
        obtain ⟨a1, c1', hv1, _, _, hb1, hs1⟩ := hsl1.spot' (by omega)
        obtain ⟨a2, c2', hv2, _, _, hb2, hs2⟩ := hsl2.spot' (by omega)
        injection hv1 with e1 e2 e3
        injection hv2 with e4 e5 e6
        subst e1 e3 e4 e6
        have hcs1 := hs1 ((gE l i).2.length - 1) (by omega)
        have hcs2 := hs2 0 (by omega)
        focus (refine gc_skip ?_; refine gx_next ?_; refine gc_seq ?_; refine gc_block ?_; refine gc_seq ?_; refine gc_region ?_; refine gM rfl rfl (by conv => (lhs; whnf)) ?_; apply gw_d; exact w_index rfl rfl rfl rfl (by with_reducible exact rfl) (by omega); apply gw_d; exact w_load_elem rfl rfl rfl (by assumption) (by assumption) (by rfl); refine w_alloc rfl (fun _ => ?_); refine gM rfl rfl (by conv => (lhs; whnf)) ?_; refine w_store_all rfl rfl rfl rfl rfl .here rfl ?_; refine gN ?_; refine gM rfl rfl (by conv => (lhs; whnf)) ?_; refine gM rfl rfl (by conv => (lhs; whnf)) ?_; apply gw_d; exact det_ar rfl rfl rfl rfl rfl (by omega); refine gM rfl rfl (by conv => (lhs; whnf)) ?_; refine gL rfl rfl rfl ?_; apply gw_d; exact det_rem rfl rfl rfl rfl (by omega) (by omega); apply gw_d; exact w_index rfl rfl rfl rfl (by with_reducible exact castM _ _) (by omega); apply gw_d; exact w_load_elem rfl rfl rfl (by assumption) (by assumption) (by rfl); refine w_alloc rfl (fun _ => ?_); refine w_store_all rfl rfl rfl rfl rfl .here rfl ?_; refine gO ?_; refine gc_seq ?_)
        refine gc_draw 13 (by kernel_rfl) (by kernel_rfl) ?_
        focus (apply gd_d; exact w_field rfl rfl rfl; apply gd_d; exact w_load_box rfl rfl rfl (.there .here) rfl; apply gd_d; exact w_field rfl rfl rfl; apply gd_d; exact w_load_box rfl rfl rfl (.there .here) rfl; apply gd_d; exact w_len rfl rfl rfl; apply gd_d; exact det_ar rfl rfl rfl rfl rfl (by omega); apply gd_d; exact w_index rfl rfl rfl rfl (by with_reducible exact castS (by omega)) (by omega); apply gd_d; exact w_load_elem rfl rfl rfl (by assumption) (by assumption) (by rfl); apply gd_d; exact w_field rfl rfl rfl; apply gd_d; exact w_load_box rfl rfl rfl .here rfl; apply gd_d; exact w_index rfl rfl rfl rfl (by with_reducible exact cast0) (by omega); apply gd_d; exact w_load_elem rfl rfl rfl (by assumption) (by assumption) (by rfl); apply gd_d; exact w_ne2 rfl rfl rfl rfl; refine gd_nil ?_; refine gO ?_)
        refine gc_if_dec rfl (fun h5 => ?_) (fun h5 => ?_)
        · focus (refine gc_seq ?_; refine gc_region ?_; refine gM rfl rfl (by conv => (lhs; whnf)) ?_; refine gO ?_; refine gc_ret ?_; refine gx_block_ret ?_; refine gx_then_ret ?_; refine gx_then_ret ?_; refine gx_block_ret ?_; refine gx_then_ret ?_)
          refine gx_ret1 (v := .int _ _) rfl rfl (fun _ _ => ?_)
          have : gapB l l.length = true := range_any_no hlt (by unfold gapAt; exact decide_eq_true h5)
          unfold outlineE
          rw [if_neg h16, if_neg h2, if_pos hI, if_pos this]
        · focus (refine gc_skip ?_; refine gx_block ?_; refine gx_next ?_; refine gc_region ?_; apply gw_d; exact det_ar rfl rfl rfl rfl rfl (by omega); refine gM rfl rfl (by conv => (lhs; whnf)) ?_; refine gw_nil ?_)
          exact gx_round (i + 1) ⟨by omega, range_any_snoc hJ (by unfold gapAt; exact decide_eq_false h5)⟩ (by omega) (by repeat (first | exact Keeps.refl | refine Keeps.upd rfl ?_ | refine Keeps.sets rfl ?_ | refine Keeps.havoc rfl ?_)) ⟨rfl, trivial⟩ .nil
      · obtain rfl : i = l.length := by omega
        have hpoly : outlineE l = polyE (vertsOf l) := by
          unfold outlineE
          rw [if_neg h16, if_neg h2, if_pos hI, if_neg (by rw [hJ]; decide)]
        focus (refine gc_exit ?_; refine gx_then_exit ?_; refine gx_then_exit ?_; refine gx_block_exit ?_; refine gx_next ?_; refine gc_seq ?_; refine gc_region ?_; refine gM rfl rfl (by conv => (lhs; whnf)) ?_)
        refine gw_callm rfl (fun w s => vertices_ok w _ l (hl.later s) (by omega) (by omega) (fun x hx => ?_)) rfl (fun x => ?_)
        · obtain ⟨i, hi, rfl⟩ := List.getElem_of_mem hx
          have := hall i hi
          rw [gE_get hi] at this
          omega
        · focus (apply gw_d; exact w_call rfl rfl (fun w s => polygon_ok w _ (vertsOf l) (Sl.own (enc := encS) s .here rfl (fun p hp => ⟨rfl, verts_in hl p hp⟩))) rfl; refine gM rfl rfl (by conv => (lhs; whnf)) ?_; refine gO ?_; refine gc_ret ?_)
          refine gx_ret1 (v := .int _ _) rfl rfl (fun _ _ => ?_)
          rw [hpoly]
  · obtain ⟨A, c, rfl, hc, hm⟩ := len_small hl
    refine ok_enter Tryz.func78 rfl Tryz.ntmps78 rfl ?_
    focus (refine gc_seq ?_; refine gc_region ?_; refine gM rfl rfl (by conv => (lhs; whnf)) ?_; refine gO ?_; refine gc_seq ?_; refine gc_seq ?_; refine gc_region ?_; refine gM rfl rfl (by conv => (lhs; whnf)) ?_; refine gL rfl rfl rfl ?_; refine gC rfl rfl rfl rfl rfl ?_; refine gO ?_)
    refine gc_if_dec rfl (fun h => by omega) (fun h => ?_)
    focus (refine gc_skip ?_; refine gx_next ?_; refine gc_seq ?_; refine gc_seq ?_; refine gc_region ?_; refine gM rfl rfl (by conv => (lhs; whnf)) ?_; refine gL rfl rfl rfl ?_; refine gC rfl rfl rfl rfl rfl ?_; refine gO ?_)
    refine gc_if_dec rfl (fun h => ?_) (fun h => by omega)
    focus (refine gc_seq ?_; refine gc_region ?_; refine gM rfl rfl (by conv => (lhs; whnf)) ?_; refine gO ?_; refine gc_ret ?_; refine gx_then_ret ?_)
    refine gx_ret1 (v := .int _ _) rfl rfl (fun _ _ => ?_)
    have h1 : ¬ 16 < l.length := by omega
    have h2 : l.length < 2 := by omega
    simp [outlineE, h1, h2]
end Go.Proofs.YtljibjlkjelpbaaGreatDoor

/- Contracts: grading by a multiple of 0. -/
namespace Go.Proofs.YtljibjlkjelpbaaGreatDoor
open Go.RowKit
set_option maxRecDepth 100000
set_option maxHeartbeats 4000000

theorem within_ok (w : World) (n b : Int) (hb : 0 ≤ b ∧ b ≤ 100000) : Ok Tryz.prog 77 [.int .i64 n, .int .i64 b].toArray w fun r _ => r = .bool (decide (-b ≤ n ∧ n ≤ b)) := by
  refine ok_enter Tryz.func77 rfl Tryz.ntmps77 rfl ?_
  focus (refine gc_seq ?_; refine gc_region ?_; refine gM rfl rfl (by conv => (lhs; whnf)) ?_; refine gN ?_; refine gM rfl rfl (by conv => (lhs; whnf)) ?_; apply gw_d; exact det_neg rfl rfl rfl (wrap_in (by omega)); refine gM rfl rfl (by conv => (lhs; whnf)) ?_; refine gC rfl rfl rfl rfl rfl ?_; refine gM rfl rfl (by conv => (lhs; whnf)) ?_; refine gw_guard_dec rfl rfl (fun _ => ?_) (fun _ => ?_); refine gM rfl rfl (by conv => (lhs; whnf)) ?_; refine gM rfl rfl (by conv => (lhs; whnf)) ?_; refine gC rfl rfl rfl rfl rfl ?_; apply gw_d; exact det_pick_t (v := .bool _) rfl rfl rfl rfl; refine gM rfl rfl (by conv => (lhs; whnf)) ?_; refine gO ?_; refine gc_ret ?_; rotate_left; refine gU rfl ?_; refine gU rfl ?_; refine gU rfl ?_; apply gw_d; exact det_pick_f (v := .bool _) rfl rfl rfl rfl; refine gM rfl rfl (by conv => (lhs; whnf)) ?_; refine gO ?_; refine gc_ret ?_; rotate_left)
  all_goals (refine gx_ret1 (v := .bool _) rfl rfl (fun _ _ => ?_); congr 1; symm; first | (apply decide_eq_true; omega) | (apply decide_eq_false; omega) | (congr 1; apply propext; constructor <;> omega))
theorem rounded0_ok (w : World) (a b : Int) (ha : a = 0) (hb : 1 ≤ b ∧ b ≤ 1000) : Ok Tryz.prog 95 [.int .i64 a, .int .i64 b].toArray w fun r _ => r = .int .i64 0 := by
  subst ha
  refine ok_enter Tryz.func95 rfl Tryz.ntmps95 rfl ?_
  focus (refine gc_seq ?_; refine gc_region ?_; refine gM rfl rfl (by conv => (lhs; whnf)) ?_; refine gO ?_; refine gc_seq ?_; refine gc_seq ?_; refine gc_region ?_; refine gM rfl rfl (by conv => (lhs; whnf)) ?_; refine gC rfl rfl rfl rfl rfl ?_; refine gO ?_)
  refine gc_if_dec rfl (fun h => absurd h (by decide)) (fun _ => ?_)
  focus (refine gc_skip ?_; refine gx_next ?_; refine gc_seq ?_; refine gc_region ?_; refine gM rfl rfl (by conv => (lhs; whnf)) ?_; apply gw_d; exact det_ar rfl rfl rfl rfl rfl (by omega); refine gM rfl rfl (by conv => (lhs; whnf)) ?_; apply gw_d; exact det_ar rfl rfl rfl rfl rfl (by omega); refine gM rfl rfl (by conv => (lhs; whnf)) ?_; apply gw_d; exact det_ar rfl rfl rfl rfl rfl (by omega); apply gw_d; exact det_quo rfl rfl rfl rfl (by omega) (by omega) (by omega); refine gM rfl rfl (by conv => (lhs; whnf)) ?_; refine gO ?_; refine gc_ret ?_)
  refine gx_ret1 (v := .int _ _) rfl rfl (fun _ _ => ?_)
  rw [Int.ediv_eq_zero_of_lt (by omega) (by omega)]
theorem corner0_ok (w : World) (A : Option Addr) (c : Nat) (l : List (Int × Int)) (i : Int) (hl : Sl rSpot w w.heap.size (.slice A l.length c) l) (h0 : 0 < l.length) (hi : 0 ≤ i ∧ i ≤ 1000) :
    Ok Tryz.prog 79 [.agg #[.slice A l.length c, .int .i64 0], .int .i64 i].toArray w fun r _ => r = .agg #[.int .i64 0, .int .i64 0] := by
  obtain ⟨ad, c', hv, hc, hm, hb, hcell⟩ := hl.spot' h0
  injection hv with e1 e2 e3
  subst e1 e3
  obtain ⟨i, rfl⟩ : ∃ j : Nat, i = j := ⟨i.toNat, by omega⟩
  have hp : i % l.length < l.length := Nat.mod_lt _ h0
  have hce := hcell _ hp
  refine ok_enter Tryz.func79 rfl Tryz.ntmps79 rfl ?_
  focus (refine gc_seq ?_; refine gc_region ?_; refine gw_boxd (v := .agg _) rfl rfl (fun _ => ?_); refine w_alloc rfl (fun _ => ?_); refine gO ?_; refine gc_seq ?_)
  refine gc_block_draw Nat 10 (fun i => ([[], [0], [], [], [3], [3, 4], [2, 3, 4, 5], [0, 1, 2, 3, 4, 5, 6], [0, 1, 2, 3, 4, 5, 6, 7], []] : List (List Nat)).getD i []) rfl (by kernel_rfl) ?_
  focus (apply gb_d; (intro γ; exact w_field rfl rfl rfl); (intros; rfl); (intros; rfl); apply gb_d; (intro γ; exact w_load_box rfl rfl rfl (.there .here) rfl); (intros; rfl); (intros; rfl); apply gb_d; (intro γ; exact det_m rfl rfl (by conv => (lhs; whnf))); (intros; rfl); (intros; rfl); apply gb_d; (intro γ; exact w_field rfl rfl rfl); (intros; rfl); (intros; rfl); apply gb_d; (intro γ; exact w_load_box rfl rfl rfl (.there .here) rfl); (intros; rfl); (intros; rfl); apply gb_d; (intro γ; exact w_len rfl rfl rfl); (intros; rfl); (intros; rfl); apply gb_d; (intro γ; exact det_rem rfl rfl rfl rfl (by omega) (by omega)); (intros; rfl); (intros; rfl); apply gb_d; (intro γ; exact w_index rfl rfl rfl rfl (by with_reducible exact castR _ _) (by omega)); (intros; rfl); (intros; rfl); apply gb_d; (intro γ; exact w_load_elem rfl rfl rfl (by assumption) (by assumption) (by rfl)); (intros; rfl); (intros; rfl))
  refine gb_alloc id id (fun _ => rfl) (fun _ => rfl) ?_
  refine GB.nil (fun β => ?_)
  focus (refine w_store_all rfl rfl rfl rfl rfl .here rfl ?_; refine gN ?_; refine gF rfl rfl rfl ?_; apply gw_d; exact w_load_box rfl rfl rfl (.there (.there .here)) rfl; refine gF rfl rfl rfl ?_; apply gw_d; exact w_load_box rfl rfl rfl .here rfl; apply gw_d; exact det_ar rfl rfl rfl rfl rfl (by omega); refine gF rfl rfl rfl ?_; apply gw_d; exact w_load_box rfl rfl rfl (.there (.there .here)) rfl; refine gF rfl rfl rfl ?_; apply gw_d; exact w_load_box rfl rfl rfl .here rfl; apply gw_d; exact det_ar rfl rfl rfl rfl rfl (by omega); apply gw_d; exact w_build (cells := #[.int .i64 (0 * (gS l (i % l.length)).1), .int .i64 (0 * (gS l (i % l.length)).2)]) rfl rfl (by rfl); refine w_store_all rfl rfl rfl rfl rfl (.there .here) rfl ?_; refine gO ?_; refine gc_ret ?_)
  refine gx_retc rfl rfl .here rfl fun w s => ?_
  simp

/-! ### A polyline that is moved by nothing -/
def rowS (l : List (Int × Int)) (k : Nat) : Array Value := ((l.take k).flatMap encS ++ List.replicate ((l.length - k) * 2) (Value.int .i64 0)).toArray
theorem rowS_zero (l : List (Int × Int)) : madeCells (Value.agg #[Value.int .i64 0, Value.int .i64 0]).cells (l.length * 2) = rowS l 0 := by
  unfold madeCells rowS
  apply Array.ext'
  simp only [List.take_zero, List.flatMap_nil, List.nil_append, Nat.sub_zero]
  apply List.ext_getElem
  · simp
  · intro i h1 h2
    simp only [Array.toList_map, Array.toList_range, List.getElem_map, List.getElem_range, List.getElem_replicate]
    show (#[Value.int .i64 0, Value.int .i64 0])[i % 2]! = _
    have : i % 2 = 0 ∨ i % 2 = 1 := by omega
    rcases this with h | h <;> rw [h] <;> rfl
theorem rowS_size (l : List (Int × Int)) {k : Nat} (hk : k ≤ l.length) : (rowS l k).size = l.length * 2 := by
  unfold rowS
  simp only [List.size_toArray, List.length_append, encS_len, List.length_take, List.length_replicate]
  omega
theorem rowS_set {l : List (Int × Int)} {k : Nat} (hk : k < l.length) {x y : Int} (hx : x = (gS l k).1) (hy : y = (gS l k).2) :
    ((rowS l k).toList.take (k * 2) ++ [Value.int .i64 x, Value.int .i64 y] ++ (rowS l k).toList.drop (k * 2 + 2)).toArray = rowS l (k + 1) := by
  subst hx hy
  have hF : ((l.take k).flatMap encS).length = k * 2 := by rw [encS_len, List.length_take]; omega
  unfold rowS
  simp only
  rw [List.take_left' hF, List.drop_append, hF, List.drop_eq_nil_of_le (by rw [hF]; omega), List.nil_append, List.drop_replicate, List.take_succ_eq_append_getElem hk, List.flatMap_append]
  congr 1
  rw [gS_get hk]
  have : (l.length - k) * 2 - (k * 2 + 2 - k * 2) = (l.length - (k + 1)) * 2 := by omega
  rw [this]
  simp [encS]
theorem rowS_all (l : List (Int × Int)) : rowS l l.length = (l.flatMap encS).toArray := by
  unfold rowS
  simp

theorem moved0_ok (w : World) (A : Option Addr) (c : Nat) (l : List (Int × Int)) (hl : Sl rSpot w w.heap.size (.slice A l.length c) l) (h2 : 2 ≤ l.length) (h40 : l.length ≤ 40) :
    OkM Tryz.prog 80 [.slice A l.length c, .agg #[.int .i64 0, .int .i64 0], .agg #[.int .i64 0, .int .i64 0]].toArray w (fun b => .slice (some ⟨b, 0, none⟩) l.length l.length) (fun b => [Box b 121 (l.flatMap encS).toArray]) := by
  obtain ⟨ad, c', hv, hc, hm, hb, hcell⟩ := hl.spot' (by omega)
  injection hv with e1 e2 e3
  subst e1 e3
  unfold OkM
  refine ok_enter Tryz.func80 rfl Tryz.ntmps80 rfl ?_
  focus (refine gc_seq ?_; refine gc_region ?_; refine gw_boxd (v := .agg _) rfl rfl (fun _ => ?_); refine gw_boxd (v := .agg _) rfl rfl (fun _ => ?_); refine gM rfl rfl (by conv => (lhs; whnf)) ?_; refine gN ?_; refine gM rfl rfl (by conv => (lhs; whnf)) ?_; refine gL rfl rfl rfl ?_; apply gw_d; exact det_ar rfl rfl rfl rfl rfl (by omega); refine gM rfl rfl (by conv => (lhs; whnf)) ?_; refine gN ?_; refine gM rfl rfl (by conv => (lhs; whnf)) ?_; refine gL rfl rfl rfl ?_)
  rename_i ba bb
  refine gw_makeN (n := l.length) rfl rfl rfl rfl rfl (by omega) (by omega) (fun b => ?_)
  rw [rowS_zero]
  focus (refine gM rfl rfl (by conv => (lhs; whnf)) ?_; refine gO ?_; refine gc_seq ?_; refine gc_seq ?_; refine gc_region ?_; refine gM rfl rfl (by conv => (lhs; whnf)) ?_; refine gL rfl rfl rfl ?_; refine gM rfl rfl (by conv => (lhs; whnf)) ?_; refine gO ?_; refine gc_block ?_)
  refine gc_loop (σ := Nat) [20, 21, 22, 23, 10, 9, 24, 25, 26, 27, 28, 29, 30, 31, 32, 33, 34, 35, 36, 37, 38, 39, 40, 41, 42, 43, 44, 45, 46, 47, 48, 49, 50, 51, 52, 53, 54, 55, 56, 57, 58, 59, 60, 19] (fun k => [(19, .int .i64 k)]) (fun k => [Box b 121 (rowS l k), Box bb 121 #[.int .i64 0, .int .i64 0], Box ba 121 #[.int .i64 0, .int .i64 0]]) (fun k => k ≤ l.length) (fun k => l.length - k) 0 (Nat.zero_le _) ⟨rfl, trivial⟩ (.cons .here (.cons .here (.cons .here .nil))) ?_
  rintro k base hk
  focus (refine gc_seq ?_; refine gc_region ?_; refine gC rfl rfl rfl rfl rfl ?_; refine gO ?_; refine gc_seq ?_)
  refine gc_if_dec rfl (fun h => ?_) (fun h => ?_)
  · have hlt : k < l.length := by omega
    have hce := hcell k hlt
    have hin := hl.spots_in (gS l k) (by rw [gS_get hlt]; exact List.getElem_mem hlt)
    unfold inI64 at hin
    focus (refine gc_skip ?_; refine gx_next ?_; refine gc_seq ?_; refine gc_block ?_; refine gc_seq ?_; refine gc_region ?_; refine gM rfl rfl (by conv => (lhs; whnf)) ?_; apply gw_d; exact w_index rfl rfl rfl rfl (by with_reducible exact rfl) (by omega); apply gw_d; exact w_load_elem rfl rfl rfl (by assumption) (by assumption) (by rfl); refine w_alloc rfl (fun _ => ?_); refine gM rfl rfl (by conv => (lhs; whnf)) ?_; refine w_store_all rfl rfl rfl rfl rfl .here rfl ?_; refine gO ?_)
    refine gc_draw 35 (by kernel_rfl) (by kernel_rfl) ?_
    focus (apply gd_d; exact det_m rfl rfl (by conv => (lhs; whnf)); apply gd_d; exact det_m rfl rfl (by conv => (lhs; whnf)); apply gd_d; exact w_field rfl rfl rfl; apply gd_d; exact w_load_box rfl rfl rfl .here rfl; apply gd_d; exact det_m rfl rfl (by conv => (lhs; whnf)); apply gd_d; exact det_m rfl rfl (by conv => (lhs; whnf)); apply gd_d; exact det_ar rfl rfl rfl rfl rfl (by omega); apply gd_d; exact w_field rfl rfl rfl; apply gd_d; exact w_load_box rfl rfl rfl (.there (.there (.there .here))) rfl; apply gd_d; exact det_ar rfl rfl rfl rfl rfl (by omega); apply gd_d; exact det_m rfl rfl (by conv => (lhs; whnf)); apply gd_d; exact w_field rfl rfl rfl; apply gd_d; exact w_load_box rfl rfl rfl (.there (.there .here)) rfl; apply gd_d; exact det_ar rfl rfl rfl rfl rfl (by omega); apply gd_d; exact det_ar rfl rfl rfl rfl rfl (by omega); apply gd_d; exact det_m rfl rfl (by conv => (lhs; whnf)); apply gd_d; exact w_call rfl rfl (fun w s => rounded0_ok w _ _ (by omega) (by omega)) rfl; apply gd_d; exact det_ar rfl rfl rfl rfl rfl (by omega); apply gd_d; exact w_field rfl rfl rfl; apply gd_d; exact w_load_box rfl rfl rfl .here rfl; apply gd_d; exact det_m rfl rfl (by conv => (lhs; whnf)); apply gd_d; exact det_m rfl rfl (by conv => (lhs; whnf)); apply gd_d; exact det_ar rfl rfl rfl rfl rfl (by omega); apply gd_d; exact w_field rfl rfl rfl; apply gd_d; exact w_load_box rfl rfl rfl (.there (.there (.there .here))) rfl; apply gd_d; exact det_ar rfl rfl rfl rfl rfl (by omega); apply gd_d; exact det_m rfl rfl (by conv => (lhs; whnf)); apply gd_d; exact w_field rfl rfl rfl; apply gd_d; exact w_load_box rfl rfl rfl (.there (.there .here)) rfl; apply gd_d; exact det_ar rfl rfl rfl rfl rfl (by omega); apply gd_d; exact det_ar rfl rfl rfl rfl rfl (by omega); apply gd_d; exact det_m rfl rfl (by conv => (lhs; whnf)); apply gd_d; exact w_call rfl rfl (fun w s => rounded0_ok w _ _ (by omega) (by omega)) rfl; apply gd_d; exact det_ar rfl rfl rfl rfl rfl (by omega); apply gd_d; exact w_build (cells := #[.int .i64 ((gS l k).1 + 0), .int .i64 ((gS l k).2 + 0)]) rfl rfl (by rfl); refine gd_nil ?_; apply gw_d; exact w_index rfl rfl rfl rfl (by with_reducible exact rfl) (by omega))
    refine w_store_row (n := 2) (v := .agg #[.int .i64 ((gS l k).1 + 0), .int .i64 ((gS l k).2 + 0)]) rfl rfl rfl rfl rfl (.there .here) (by rw [rowS_size l hk]; omega) (rowS_set hlt (by omega) (by omega)) ?_
    focus (refine gw_nil ?_; refine gx_block ?_; refine gx_next ?_; refine gc_region ?_; apply gw_d; exact det_ar rfl rfl rfl rfl rfl (by omega); refine gM rfl rfl (by conv => (lhs; whnf)) ?_; refine gw_nil ?_)
    exact gx_round (k + 1) hlt (by omega) (by repeat (first | exact Keeps.refl | refine Keeps.upd rfl ?_ | refine Keeps.sets rfl ?_ | refine Keeps.havoc rfl ?_)) ⟨rfl, trivial⟩ (.cons .here (.cons (.there .here) (.cons (.there .here) .nil)))
  · obtain rfl : k = l.length := by omega
    rw [rowS_all]
    focus (refine gc_exit ?_; refine gx_then_exit ?_; refine gx_then_exit ?_; refine gx_block_exit ?_; refine gx_next ?_; refine gc_seq ?_; refine gc_region ?_; refine gM rfl rfl (by conv => (lhs; whnf)) ?_; refine gM rfl rfl (by conv => (lhs; whnf)) ?_; refine gO ?_; refine gc_ret ?_)
    exact gx_ret1 rfl rfl fun w s => ⟨b, rfl, (s.sub (.cons .here .nil)).sep⟩
end Go.Proofs.YtljibjlkjelpbaaGreatDoor

/- Contracts: the outline of a piece, graded by a multiple of 0. -/
namespace Go.Proofs.YtljibjlkjelpbaaGreatDoor
open Go.RowKit
set_option maxRecDepth 100000
set_option maxHeartbeats 4000000

/-! ### Fresh lines, and edges made of them -/
def linesP (ls : List (List (Int × Int))) (bs : List Nat) (w : World) : Prop :=
  bs.length = ls.length ∧ ∀ (i b : Nat) (l : List (Int × Int)), bs[i]? = some b → ls[i]? = some l → w.heap[b]? = some (Obj.cells (l.flatMap encS).toArray 121 (0, 0))
def LinesR (ls : List (List (Int × Int))) (bs : List Nat) : Res :=
  ⟨fun x => x ∈ bs, linesP ls bs, fun _ _ h ⟨h1, h2⟩ => ⟨h1, fun i b l hb hl => (h b (List.mem_of_getElem? hb)).trans (h2 i b l hb hl)⟩⟩
theorem gc_lines0 {P : Program} {Q : Exit → Act → World → Prop} {N : Nat} {w0 : World} {L : List Res} {e : Env} {c : Code} (k : GC P Q N w0 (LinesR [] [] :: L) c e) : GC P Q N w0 L c e := ⟨fun w s =>
  k.h w (s.add (Ext.refl w) ⟨rfl, fun i b l hb => by simp at hb⟩ fun b hb => by cases hb)⟩
theorem LinesR.snoc {ls : List (List (Int × Int))} {bs : List Nat} {l : List (Int × Int)} {b : Nat} {L : List Res} : Ent (Box b 121 (l.flatMap encS).toArray :: LinesR ls bs :: L) (LinesR (ls ++ [l]) (bs ++ [b]) :: L) := fun w0 w s => by
  have h1 : w.heap[b]? = some (.cells (l.flatMap encS).toArray 121 (0, 0)) := s.head
  obtain ⟨h2, h3⟩ := s.drop.head
  refine s.merge (fun x hx => ?_) ⟨by simp [h2], fun i b' l' hb' hl' => ?_⟩
  · rcases List.mem_append.1 hx with h | h
    · exact .inr h
    · exact .inl (List.mem_singleton.1 h)
  · rcases Nat.lt_or_ge i bs.length with hi | hi
    · rw [List.getElem?_append_left hi] at hb'
      rw [List.getElem?_append_left (by omega)] at hl'
      exact h3 i b' l' hb' hl'
    · rw [List.getElem?_append_right hi] at hb'
      rw [List.getElem?_append_right (by omega), ← h2] at hl'
      cases hk : i - bs.length with
      | zero =>
        rw [hk] at hb' hl'
        simp at hb' hl'
        subst hb' hl'
        exact h1
      | succ m => rw [hk] at hb'; simp at hb'

def encE (p : Edg × Nat) : List Value := [.string p.1.1, .slice (some ⟨p.2, 0, none⟩) p.1.2.length p.1.2.length]
def rowE (l : List Edg) (bs : List Nat) : List Value := (l.zip bs).flatMap encE
theorem rowE_snoc {l : List Edg} {bs : List Nat} {x : Edg} {b : Nat} (h : l.length = bs.length) : rowE (l ++ [x]) (bs ++ [b]) = rowE l bs ++ encE (x, b) := by
  unfold rowE
  rw [List.zip_append h, List.flatMap_append]
  simp

theorem deep_edges {A : Option Addr} {n c : Nat} {l : List Edg} {bs : List Nat} {L : List Res} (hn : n = l.length) (hin : ∀ x ∈ l, x.1.size ≤ maxLen ∧ x.2.length ≤ 40 ∧ ∀ p ∈ x.2, inI64 p.1 ∧ inI64 p.2) :
    Ent (Own A n c 117 2 (rowE l bs) :: LinesR (l.map (·.2)) bs :: L) (Deep (fun x => (Value.slice A n c).ownBlock = some x ∨ x ∈ bs) rEdge (.slice A n c) l :: L) := fun w0 w s => by
  have hown : w.ownsRow 0 117 2 (.slice A n c) n (rowE l bs) := s.head
  obtain ⟨h2, h3⟩ := s.drop.head
  rw [List.length_map] at h2
  refine s.merge (fun x hx => hx) ?_
  subst hn
  change SlS rEdge w (fun x => (Value.slice A l.length c).ownBlock = some x ∨ x ∈ bs) (.slice A l.length c) l
  rcases hown.2 with ⟨hv, h0⟩ | ⟨g, cap, cur, hv, _, hg, h1, h2', _⟩
  · injection hv with e1 e2 e3
    subst e1 e3
    exact ⟨none, 0, rfl, by omega, Nat.zero_le _, fun k hk => by omega⟩
  · injection hv with e1 e2 e3
    subst e1 e3
    refine ⟨_, _, rfl, h1, h2', fun k hk => ?_⟩
    have hkb : k < bs.length := by omega
    have hz : (l.zip bs)[k]? = some (l[k], bs[k]) := by rw [List.getElem?_zip_eq_some]; exact ⟨List.getElem?_eq_getElem hk, List.getElem?_eq_getElem hkb⟩
    have hkz : k < (l.zip bs).length := (List.getElem?_eq_some_iff.1 hz).1
    have hzz : (l.zip bs)[k] = (l[k], bs[k]) := (List.getElem?_eq_some_iff.1 hz).2
    have hline := h3 k bs[k] l[k].2 (List.getElem?_eq_getElem hkb) (by rw [List.getElem?_map, List.getElem?_eq_getElem hk]; rfl)
    obtain ⟨q1, q2, q3⟩ := hin l[k] (List.getElem_mem hk)
    refine ⟨⟨g, 0, none⟩, encE (l[k], bs[k]), rfl, .inl rfl, fun j u hu => ?_, _, rfl, q1, ?_⟩
    · refine hown.cells rfl _ u ?_
      have hj : j < 2 := (List.getElem?_eq_some_iff.1 hu).1
      have := flat_get (enc := encE) (sz := 2) (l.zip bs) (fun _ _ => rfl) k hkz j hj
      rw [hzz] at this
      exact this.trans hu
    · refine ⟨some ⟨bs[k], 0, none⟩, l[k].2.length, rfl, Nat.le_refl _, by unfold maxLen; omega, fun i hi => ⟨⟨bs[k], 0, none⟩, encS l[k].2[i], rfl, .inr (List.getElem_mem hkb), fun j u hu => ?_, rfl, q3 _ (List.getElem_mem hi)⟩⟩
      have hj : j < 2 := (List.getElem?_eq_some_iff.1 hu).1
      have := flat_get (enc := encS) (sz := 2) l[k].2 (fun _ _ => rfl) i hi j hj
      rw [show rSpot.size = 2 from rfl, add_zero]
      simp only [World.cell?, hline]
      simpa using this.trans hu

/-! ### Graded -/
def farB (p : Int × Int) : Bool := !decide (-1000 ≤ p.1 ∧ p.1 ≤ 1000) || !decide (-1000 ≤ p.2 ∧ p.2 ≤ 1000)
def gradedE (l : List Edg) (cs : List (Int × Int)) : Int := if ¬ cs.length = l.length then 1 else if cs.any farB = true then 3 else outlineE l
theorem outline_good {l : List Edg} (h : outlineE l = 0) : 2 ≤ l.length ∧ l.length ≤ 16 ∧ ∀ k, k < l.length → 2 ≤ (gE l k).2.length ∧ (gE l k).2.length ≤ 40 := by
  unfold outlineE at h
  split at h
  · cases h
  · split at h
    · cases h
    · split at h
      · rename_i h1
        exact ⟨by omega, by omega, fun k hk => pline_len (edge_pline (firstE_at h1 k hk))⟩
      · rename_i h1; exact absurd h h1

theorem graded_ok (w : World) (nm : ByteArray) (g : Int) (m : Bool) (Ae An Ac Aw : Option Addr) (ce nn cn cc nw cw : Nat) (l : List Edg) (cs : List (Int × Int))
    (hl : Sl rEdge w w.heap.size (.slice Ae l.length ce) l) (hcs : Sl rSpot w w.heap.size (.slice Ac cs.length cc) cs) :
    OkM Tryz.prog 70 [.agg #[.string nm, .slice Ae l.length ce, .int .i64 g, .slice An nn cn, .slice Ac cs.length cc, .slice Aw nw cw, .bool m], .int .i64 0].toArray w
      (fun x : Option Addr × Nat × (Nat → Prop) => .tuple #[.slice x.1 (if gradedE l cs = 0 then l.length else 0) x.2.1, .int .i64 (gradedE l cs)])
      (fun x => if gradedE l cs = 0 then [Deep x.2.2 rEdge (.slice x.1 l.length x.2.1) l] else []) := by
  obtain ⟨A', c', hv, hcc, hcm, hccell⟩ := hcs.spot
  injection hv with e1 e2 e3
  subst e1 e3
  have hll := len_small hl
  obtain ⟨A', c', hv, hlc, hlm⟩ := hll
  injection hv with e1 e2 e3
  subst e1 e3
  have bad : ∀ k : Int, ¬ k = 0 → gradedE l cs = k → ∀ w' : World, ∃ x : Option Addr × Nat × (Nat → Prop), Value.tuple #[.slice none 0 0, .int .i64 k] = .tuple #[.slice x.1 (if gradedE l cs = 0 then l.length else 0) x.2.1, .int .i64 (gradedE l cs)] ∧
      Made w (if gradedE l cs = 0 then [Deep x.2.2 rEdge (.slice x.1 l.length x.2.1) l] else []) w' := fun k hk he w' => ⟨(none, 0, fun _ => False), by rw [he, if_neg hk], by rw [he, if_neg hk]; exact Made.nil _ _⟩
  unfold OkM
  refine ok_enter Tryz.func70 rfl Tryz.ntmps70 rfl ?_
  focus (refine gc_seq ?_; refine gc_region ?_; refine gw_boxd (v := .agg _) rfl rfl (fun _ => ?_); refine gM rfl rfl (by conv => (lhs; whnf)) ?_; refine gM rfl rfl (by conv => (lhs; whnf)) ?_; refine gO ?_; refine gc_seq ?_; refine gc_seq ?_; refine gc_region ?_; refine gM rfl rfl (by conv => (lhs; whnf)) ?_; apply gw_d; exact w_call rfl rfl (fun w s => within_ok w _ _ (by decide)) rfl; apply gw_d; exact det_not_dec rfl rfl rfl; refine gO ?_)
  rename_i bp
  refine gc_if_dec rfl (fun h => absurd (by decide) h) (fun _ => ?_)
  focus (refine gc_skip ?_; refine gx_next ?_; refine gc_seq ?_; refine gc_seq ?_; refine gc_region ?_; refine gF rfl rfl rfl ?_; apply gw_d; exact w_load_box rfl rfl rfl .here rfl; refine gL rfl rfl rfl ?_; refine gF rfl rfl rfl ?_; apply gw_d; exact w_load_box rfl rfl rfl .here rfl; refine gL rfl rfl rfl ?_; refine gC rfl rfl rfl rfl rfl ?_; refine gO ?_)
  refine gc_if_dec rfl (fun h => ?_) (fun h => ?_)
  · focus (refine gc_seq ?_; refine gc_region ?_; refine gM rfl rfl (by conv => (lhs; whnf)) ?_; refine gM rfl rfl (by conv => (lhs; whnf)) ?_; refine gO ?_; refine gc_ret ?_; refine gx_then_ret ?_)
    refine gx_ret2 (u := .slice _ _ _) (v := .int _ _) rfl rfl rfl (fun _ _ => ?_)
    exact bad 1 (by decide) (by unfold gradedE; rw [if_pos (by omega)]) _
  have hlen : cs.length = l.length := by omega
  focus (refine gc_skip ?_; refine gx_next ?_; refine gc_seq ?_; refine gc_seq ?_; refine gc_region ?_; refine gF rfl rfl rfl ?_; apply gw_d; exact w_load_box rfl rfl rfl .here rfl; refine gL rfl rfl rfl ?_; refine gM rfl rfl (by conv => (lhs; whnf)) ?_; refine gO ?_; refine gc_block ?_)
  refine gc_loopK (σ := Nat) [28, 29, 30, 7, 31, 32, 33, 34, 35, 36, 37, 38, 39, 40, 4, 5, 41, 27] (fun k => [(27, .int .i64 k)]) (fun k => k ≤ cs.length ∧ (cs.take k).any farB = false) (fun k => cs.length - k) 0 ⟨Nat.zero_le _, rfl⟩ ⟨rfl, trivial⟩ ?_
  rintro k base ⟨hk, hI⟩
  focus (refine gc_seq ?_; refine gc_region ?_; refine gC rfl rfl rfl rfl rfl ?_; refine gO ?_; refine gc_seq ?_)
  refine gc_if_dec rfl (fun h => ?_) (fun h => ?_)
  · have hlt : k < cs.length := by omega
    obtain ⟨ad, rfl, hb, hce, _⟩ := hccell k hlt
    have hfar : farB cs[k] = true → cs.any farB = true := fun h => List.any_eq_true.2 ⟨_, List.getElem_mem hlt, h⟩
    have hsn : farB cs[k] = false → (cs.take (k + 1)).any farB = false := fun h => by rw [List.take_succ_eq_append_getElem hlt, List.any_append, hI]; simp [h]
    focus (refine gc_skip ?_; refine gx_next ?_; refine gc_seq ?_; refine gc_block ?_; refine gc_seq ?_; refine gc_region ?_; apply gw_d; exact w_index rfl rfl rfl rfl (by with_reducible exact rfl) (by omega); apply gw_d; exact w_load_elem rfl rfl rfl (by assumption) (by assumption) (by rfl); refine w_alloc rfl (fun _ => ?_); refine w_store_all rfl rfl rfl rfl rfl .here rfl ?_; refine gN ?_; refine gF rfl rfl rfl ?_; apply gw_d; exact w_load_box rfl rfl rfl .here rfl; apply gw_d; exact w_call rfl rfl (fun w s => within_ok w _ _ (by decide)) rfl; apply gw_d; exact det_not_dec rfl rfl rfl; refine gM rfl rfl (by conv => (lhs; whnf)) ?_; refine gw_guard_dec rfl rfl (fun _ => ?_) (fun _ => ?_); refine gU rfl ?_; refine gU rfl ?_; refine gU rfl ?_; refine gU rfl ?_; apply gw_d; exact det_pick_t (v := .bool _) rfl rfl rfl rfl; refine gO ?_; refine gc_if_true rfl ?_; refine gc_seq ?_; refine gc_region ?_; refine gM rfl rfl (by conv => (lhs; whnf)) ?_; refine gM rfl rfl (by conv => (lhs; whnf)) ?_; refine gO ?_; refine gc_ret ?_; refine gx_block_ret ?_; refine gx_then_ret ?_; refine gx_then_ret ?_; refine gx_block_ret ?_; refine gx_then_ret ?_; rotate_left; refine gF rfl rfl rfl ?_; apply gw_d; exact w_load_box rfl rfl rfl .here rfl; apply gw_d; exact w_call rfl rfl (fun w s => within_ok w _ _ (by decide)) rfl; apply gw_d; exact det_not_dec rfl rfl rfl; apply gw_d; exact det_pick_f (v := .bool _) rfl rfl rfl rfl; refine gO ?_; refine gc_if_dec rfl (fun _ => ?_) (fun _ => ?_); refine gc_seq ?_; refine gc_region ?_; refine gM rfl rfl (by conv => (lhs; whnf)) ?_; refine gM rfl rfl (by conv => (lhs; whnf)) ?_; refine gO ?_; refine gc_ret ?_; refine gx_block_ret ?_; refine gx_then_ret ?_; refine gx_then_ret ?_; refine gx_block_ret ?_; refine gx_then_ret ?_; rotate_left; refine gc_skip ?_; refine gx_block ?_; refine gx_next ?_; refine gc_region ?_; apply gw_d; exact det_ar rfl rfl rfl rfl rfl (by omega); refine gM rfl rfl (by conv => (lhs; whnf)) ?_; refine gw_nil ?_; rotate_left)
    · refine gx_ret2 (u := .slice _ _ _) (v := .int _ _) rfl rfl rfl (fun _ _ => ?_)
      exact bad 3 (by decide) (by unfold gradedE; rw [if_neg (by omega), if_pos (hfar (by unfold farB; simp only [Bool.or_eq_true, Bool.not_eq_true', decide_eq_false_iff_not]; left; assumption))]) _
    · refine gx_ret2 (u := .slice _ _ _) (v := .int _ _) rfl rfl rfl (fun _ _ => ?_)
      exact bad 3 (by decide) (by unfold gradedE; rw [if_neg (by omega), if_pos (hfar (by unfold farB; simp only [Bool.or_eq_true, Bool.not_eq_true', decide_eq_false_iff_not]; right; assumption))]) _
    · exact gx_round (k + 1) ⟨by omega, hsn (by unfold farB; simp only [Bool.or_eq_false_iff, Bool.not_eq_false', decide_eq_true_eq]; constructor <;> (apply Classical.not_not.1; assumption))⟩ (by omega) (by repeat (first | exact Keeps.refl | refine Keeps.upd rfl ?_ | refine Keeps.sets rfl ?_ | refine Keeps.havoc rfl ?_)) ⟨rfl, trivial⟩ Sub.tail
  obtain rfl : k = cs.length := by omega
  rw [List.take_length] at hI
  have hE : gradedE l cs = outlineE l := by unfold gradedE; rw [if_neg (by omega), if_neg (by rw [hI]; decide)]
  focus (refine gc_exit ?_; refine gx_then_exit ?_; refine gx_then_exit ?_; refine gx_block_exit ?_; refine gx_next ?_; refine gc_seq ?_; refine gc_seq ?_; refine gc_region ?_; refine gF rfl rfl rfl ?_; apply gw_d; exact w_load_box rfl rfl rfl .here rfl; apply gw_d; exact w_call rfl rfl (fun w s => outline_ok w _ l (hl.later s)) rfl; refine gM rfl rfl (by conv => (lhs; whnf)) ?_; refine gN ?_; refine gM rfl rfl (by conv => (lhs; whnf)) ?_; refine gC rfl rfl rfl rfl rfl ?_; refine gO ?_)
  refine gc_if_dec rfl (fun h => ?_) (fun h => ?_)
  · focus (refine gc_seq ?_; refine gc_region ?_; refine gM rfl rfl (by conv => (lhs; whnf)) ?_; refine gM rfl rfl (by conv => (lhs; whnf)) ?_; refine gM rfl rfl (by conv => (lhs; whnf)) ?_; refine gO ?_; refine gc_ret ?_; refine gx_then_ret ?_)
    refine gx_ret2 (u := .slice _ _ _) (v := .int _ _) rfl rfl rfl (fun _ _ => ?_)
    exact bad _ h hE _
  have hE0 : outlineE l = 0 := by simpa using h
  obtain ⟨hl2, hl16, hlines⟩ := outline_good hE0
  obtain ⟨ade, ce', hv, _, _, hbe, hecell⟩ := hl.edge' (by omega)
  injection hv with e1 e2 e3
  subst e1 e3
  have hin : ∀ x ∈ l, x.1.size ≤ maxLen ∧ x.2.length ≤ 40 ∧ ∀ p ∈ x.2, inI64 p.1 ∧ inI64 p.2 := fun x hx => by
    obtain ⟨u, hu⟩ := hl.edges_in x hx
    obtain ⟨i, hi, rfl⟩ := List.getElem_of_mem hx
    obtain ⟨_, _, _, hs, _⟩ := hecell i hi
    have := hlines i hi
    rw [gE_get hi] at this hs
    refine ⟨?_, this.2, hu.spots_in⟩
    obtain ⟨_, _, _, _, _, h3⟩ := hl
    obtain ⟨_, _, _, _, _, _, _, h4, _⟩ := h3 i hi
    exact h4
  focus (refine gc_skip ?_; refine gx_next ?_; refine gc_seq ?_; refine gc_region ?_; refine gF rfl rfl rfl ?_; apply gw_d; exact w_load_box rfl rfl rfl .here rfl; refine gM rfl rfl (by conv => (lhs; whnf)) ?_; apply gw_d; exact w_build (cells := #[.slice Ac cs.length cc, .int .i64 0]) rfl rfl (by rfl); apply gw_d; exact det_func rfl rfl rfl rfl; refine gM rfl rfl (by conv => (lhs; whnf)) ?_; refine gN ?_; refine gM rfl rfl (by conv => (lhs; whnf)) ?_; refine gO ?_; refine gc_seq ?_; refine gc_seq ?_; refine gc_region ?_; refine gF rfl rfl rfl ?_; apply gw_d; exact w_load_box rfl rfl rfl .here rfl; refine gL rfl rfl rfl ?_; refine gM rfl rfl (by conv => (lhs; whnf)) ?_; refine gO ?_; refine gc_block ?_)
  refine gc_own0 117 2 (gc_lines0 ?_)
  refine gc_loop (σ := Nat × Option Addr × Nat × List Nat) [57, 58, 59, 60, 12, 11, 61, 62, 63, 64, 65, 66, 67, 68, 69, 70, 71, 72, 73, 74, 75, 76, 10, 77, 56] (fun s => [(10, .slice s.2.1 s.1 s.2.2.1), (56, .int .i64 s.1)])
    (fun s => [Own s.2.1 s.1 s.2.2.1 117 2 (rowE (l.take s.1) s.2.2.2), LinesR ((l.take s.1).map (·.2)) s.2.2.2])
    (fun s => s.1 ≤ l.length ∧ s.2.2.2.length = s.1) (fun s => l.length - s.1) (0, none, 0, []) ⟨Nat.zero_le _, rfl⟩ ⟨rfl, rfl, trivial⟩ (.cons (.there .here) (.cons .here .nil)) ?_
  rintro ⟨k, A, c2, bs⟩ base ⟨hk, hbs⟩
  dsimp only at hk hbs ⊢
  focus (refine gc_seq ?_; refine gc_region ?_; refine gC rfl rfl rfl rfl rfl ?_; refine gO ?_; refine gc_seq ?_)
  refine gc_if_dec rfl (fun h => ?_) (fun h => ?_)
  · have hlt : k < l.length := by omega
    obtain ⟨A1, c1, hce, hsz, hc1, hm1, hsl⟩ := hecell k hlt
    obtain ⟨hn2, hn40⟩ := hlines k hlt
    focus (refine gc_skip ?_; refine gx_next ?_; refine gc_seq ?_; refine gc_block ?_; refine gc_seq ?_; refine gc_region ?_; refine gM rfl rfl (by conv => (lhs; whnf)) ?_; apply gw_d; exact w_index rfl rfl rfl rfl (by with_reducible exact rfl) (by omega); apply gw_d; exact w_load_elem rfl rfl rfl (by assumption) (by assumption) (by rfl); refine w_alloc rfl (fun _ => ?_); refine gM rfl rfl (by conv => (lhs; whnf)) ?_; refine w_store_all rfl rfl rfl rfl rfl .here rfl ?_; refine gO ?_)
    rename_i bv
    refine gc_block_draw Nat 15 (fun i => ([[], [], [1], [], [3], [], [], [5, 6], [], [], [9], [5, 6, 7, 8, 9, 10], [3, 4, 5, 6, 7, 8, 9, 10, 11], [1, 2, 3, 4, 5, 6, 7, 8, 9, 10, 11, 12], [1, 2, 3, 4, 5, 6, 7, 8, 9, 10, 11, 12, 13]] : List (List Nat)).getD i []) rfl (by kernel_rfl) ?_
    focus (apply gb_d; (intro γ; exact det_m rfl rfl (by conv => (lhs; whnf))); (intros; rfl); (intros; rfl); apply gb_d; (intro γ; exact w_field rfl rfl rfl); (intros; rfl); (intros; rfl); apply gb_d; (intro γ; exact w_load_box rfl rfl rfl .here rfl); (intros; rfl); (intros; rfl); apply gb_d; (intro γ; exact w_field rfl rfl rfl); (intros; rfl); (intros; rfl); apply gb_d; (intro γ; exact w_load_box rfl rfl rfl .here rfl); (intros; rfl); (intros; rfl); apply gb_d; (intro γ; exact det_m rfl rfl (by conv => (lhs; whnf))); (intros; rfl); (intros; rfl); apply gb_d; (intro γ; exact det_m rfl rfl (by conv => (lhs; whnf))); (intros; rfl); (intros; rfl); apply gb_d; (intro γ; exact w_callv rfl rfl rfl (fun w s => corner0_ok w _ _ cs _ (hcs.later s) (by omega) (by omega)) rfl); (intros; rfl); (intros; rfl); apply gb_d; (intro γ; exact det_m rfl rfl (by conv => (lhs; whnf))); (intros; rfl); (intros; rfl); apply gb_d; (intro γ; exact det_m rfl rfl (by conv => (lhs; whnf))); (intros; rfl); (intros; rfl); apply gb_d; (intro γ; exact det_ar rfl rfl rfl rfl rfl (by omega)); (intros; rfl); (intros; rfl); apply gb_d; (intro γ; exact w_callv rfl rfl rfl (fun w s => corner0_ok w _ _ cs _ (hcs.later s) (by omega) (by omega)) rfl); (intros; rfl); (intros; rfl))
    refine gb_call (l := fun _ => [.slice A1 (gE l k).2.length c1, .agg #[.int .i64 0, .int .i64 0], .agg #[.int .i64 0, .int .i64 0]]) (fun _ b => .slice (some ⟨b, 0, none⟩) (gE l k).2.length (gE l k).2.length) (fun _ b => [Box b 121 ((gE l k).2.flatMap encS).toArray]) (fun _ => rfl) (fun _ w s => moved0_ok w _ _ _ (hsl.later s) hn2 hn40) (fun _ => rfl) (fun _ _ => ⟨rfl, rfl⟩) (fun _ => ⟨rfl, rfl⟩) ?_
    refine gb_d (V := fun γ => .agg #[.string (gE l k).1, .slice (some ⟨γ 12, 0, none⟩) (gE l k).2.length (gE l k).2.length]) (fun γ => w_build rfl rfl (by rfl)) (fun _ _ => rfl) (fun _ => rfl) ?_
    refine gb_bslice1 (fun γ => .agg #[.string (gE l k).1, .slice (some ⟨γ 12, 0, none⟩) (gE l k).2.length (gE l k).2.length]) id id (fun _ => rfl) (fun _ => rfl) (fun _ => rfl) (fun _ => rfl) rfl rfl (fun _ _ => rfl) (fun _ => rfl) ?_
    refine GB.nil (fun β => ?_)
    have hr1 : rowE (l.take (k + 1)) (bs ++ [β 12]) = rowE (l.take k) bs ++ encE (gE l k, β 12) := by rw [List.take_succ_eq_append_getElem hlt, gE_get hlt]; exact rowE_snoc (by rw [List.length_take]; omega)
    have hr2 : (l.take (k + 1)).map (·.2) = (l.take k).map (·.2) ++ [(gE l k).2] := by rw [List.take_succ_eq_append_getElem hlt, gE_get hlt, List.map_append]; rfl
    refine gw_append (news := encE (gE l k, β 12)) rfl rfl rfl (.there (.there (.there .here))) rfl (fun w' s _ => ?_) (fun u hu => ?_) (by unfold maxLen; omega) (by omega) (by decide) rfl (fun A2 c3 => ?_)
    · refine ⟨⟨β 14, 0, none⟩, rfl, fun j u hu => ?_⟩
      have hbx := Box.cell (s.pick (.there .here)).head j
      rw [add_zero]
      refine Eq.trans hbx ?_
      change (#[Value.string (gE l k).1, Value.slice (some ⟨β 12, 0, none⟩) (gE l k).2.length (gE l k).2.length] : Array Value)[j]? = some u
      rw [List.getElem?_toArray]
      exact hu
    · simp only [encE, List.mem_cons, List.not_mem_nil, or_false] at hu
      rcases hu with rfl | rfl <;> rfl
    · focus (refine gM rfl rfl (by conv => (lhs; whnf)) ?_; refine gw_nil ?_; refine gx_block ?_; refine gx_next ?_; refine gc_region ?_; apply gw_d; exact det_ar rfl rfl rfl rfl rfl (by omega); refine gM rfl rfl (by conv => (lhs; whnf)) ?_; refine gw_nil ?_)
      refine gx_roundE (k + 1, A2, c3, bs ++ [β 12]) ⟨hlt, by simp [hbs]⟩ (by dsimp only; omega) (by repeat (first | exact Keeps.refl | refine Keeps.upd rfl ?_ | refine Keeps.sets rfl ?_ | refine Keeps.havoc rfl ?_)) ⟨rfl, rfl, trivial⟩ ?_
      dsimp only
      rw [hr1, hr2]
      refine Ent.trans (Sub.ent (.cons .here (.cons .here (.cons (.there (.there .here)) .nil)))) (Ent.cons LinesR.snoc ?_)
      intro q hq b hb
      rw [List.mem_singleton] at hq
      subst hq
      rcases List.mem_append.1 hb with h | h
      · exact ⟨_, List.mem_cons_of_mem _ List.mem_cons_self, h⟩
      · exact ⟨_, List.mem_cons_self, List.mem_singleton.1 h⟩
  · obtain rfl : k = l.length := by omega
    rw [List.take_length]
    refine gc_ent (deep_edges rfl hin) ?_
    focus (refine gc_exit ?_; refine gx_then_exit ?_; refine gx_then_exit ?_; refine gx_block_exit ?_; refine gx_next ?_; refine gc_seq ?_; refine gc_seq ?_; refine gc_region ?_; refine gM rfl rfl (by conv => (lhs; whnf)) ?_; apply gw_d; exact w_call rfl rfl (fun w s => outline_ok w _ l (Sl.deep s .here)) rfl; refine gM rfl rfl (by conv => (lhs; whnf)) ?_; refine gN ?_; refine gM rfl rfl (by conv => (lhs; whnf)) ?_; refine gC rfl rfl rfl rfl rfl ?_; refine gO ?_)
    refine gc_if_dec rfl (fun h => absurd hE0 h) (fun _ => ?_)
    focus (refine gc_skip ?_; refine gx_next ?_; refine gc_seq ?_; refine gc_region ?_; refine gM rfl rfl (by conv => (lhs; whnf)) ?_; refine gM rfl rfl (by conv => (lhs; whnf)) ?_; refine gM rfl rfl (by conv => (lhs; whnf)) ?_; refine gO ?_; refine gc_ret ?_)
    refine gx_ret2 (u := .slice _ _ _) (v := .int _ _) rfl rfl rfl (fun w' s => ?_)
    exact ⟨(A, c2, _), by rw [hE, hE0, if_pos rfl], by rw [hE, hE0, if_pos rfl]; exact s.sep⟩
end Go.Proofs.YtljibjlkjelpbaaGreatDoor

/- How pieces lie. -/
namespace Go.Proofs.YtljibjlkjelpbaaGreatDoor
open Go.RowKit
set_option maxRecDepth 100000
set_option maxHeartbeats 4000000

theorem Sl.at' {α : Type} {R : Rp α} {w : World} {B : Nat} {v : Value} {l : List α} (h : Sl R w B v l) (sz : Nat) (hsz : R.size = sz) (hl : 0 < l.length) : ∃ ad c, v = .slice (some ad) l.length c ∧ l.length ≤ c ∧ l.length ≤ 9223372036854775807 ∧ ad.block < B ∧
    ∀ k (hk : k < l.length), ∃ cs, (∀ j u, cs[j]? = some u → w.cell? (ad.add (k * sz + j)) = some u) ∧ R.rep w (fun b => b < B) l[k] cs := by
  subst hsz
  obtain ⟨A, c, hv, h1, h2, h3⟩ := h
  obtain ⟨ad, _, ha, hlt, _⟩ := h3 0 hl
  subst ha
  refine ⟨ad, c, hv, h1, by unfold maxLen at h2; omega, hlt, fun k hk => ?_⟩
  obtain ⟨ad', cs, ha, _, hc, hr⟩ := h3 k hk
  injection ha with ha
  subst ha
  exact ⟨cs, hc, hr⟩

structure Pc where
  name : ByteArray
  edges : List Edg
  grain : Int
  notches : List (Int × Int)
  corners : List (Int × Int)
  widths : List Int
  mt : Bool
def rPiece : Rp Pc where
  size := 7
  rep w S p cs := ∃ Ae ce An cn Ac cc Aw cw, cs = [.string p.name, .slice Ae p.edges.length ce, .int .i64 p.grain, .slice An p.notches.length cn, .slice Ac p.corners.length cc, .slice Aw p.widths.length cw, .bool p.mt] ∧
    (p.name.size ≤ maxLen ∧ inI64 p.grain) ∧ SlS rEdge w S (.slice Ae p.edges.length ce) p.edges ∧ SlS rSpot w S (.slice An p.notches.length cn) p.notches ∧ SlS rSpot w S (.slice Ac p.corners.length cc) p.corners ∧ SlS rInt w S (.slice Aw p.widths.length cw) p.widths
  len h := by obtain ⟨_, _, _, _, _, _, _, _, rfl, _⟩ := h; rfl
  mono hb h := by obtain ⟨Ae, ce, An, cn, Ac, cc, Aw, cw, h0, h1, h2, h3, h4, h5⟩ := h; exact ⟨Ae, ce, An, cn, Ac, cc, Aw, cw, h0, h1, h2.mono hb, h3.mono hb, h4.mono hb, h5.mono hb⟩
  grow hb h := by obtain ⟨Ae, ce, An, cn, Ac, cc, Aw, cw, h0, h1, h2, h3, h4, h5⟩ := h; exact ⟨Ae, ce, An, cn, Ac, cc, Aw, cw, h0, h1, h2.grow hb, h3.grow hb, h4.grow hb, h5.grow hb⟩
end Go.Proofs.YtljibjlkjelpbaaGreatDoor

/- Square roots, rounded down: plain facts. No program in sight. -/
namespace Go.Proofs.YtljibjlkjelpbaaGreatDoor

def isq : Nat → Nat
  | 0 => 0
  | n + 1 => if (isq n + 1) * (isq n + 1) ≤ n + 1 then isq n + 1 else isq n
theorem isq_spec : ∀ n, isq n * isq n ≤ n ∧ n < (isq n + 1) * (isq n + 1)
  | 0 => by decide
  | n + 1 => by
    obtain ⟨h1, h2⟩ := isq_spec n
    have e0 : isq (n + 1) = if (isq n + 1) * (isq n + 1) ≤ n + 1 then isq n + 1 else isq n := rfl
    rw [e0]
    split
    · rename_i h
      refine ⟨h, ?_⟩
      have : (isq n + 1) * (isq n + 1) ≤ (isq n + 1 + 1) * (isq n + 1) := Nat.mul_le_mul_right _ (by omega)
      have e : (isq n + 1 + 1) * (isq n + 1 + 1) = (isq n + 1 + 1) * (isq n + 1) + (isq n + 1 + 1) := Nat.mul_succ _ _
      omega
    · rename_i h
      exact ⟨by omega, by omega⟩
theorem isq_le {n s : Nat} (h : n < (s + 1) * (s + 1)) : isq n ≤ s := by
  have h1 := (isq_spec n).1
  refine Nat.le_of_not_lt fun hc => ?_
  have := Nat.mul_le_mul (show s + 1 ≤ isq n from hc) (show s + 1 ≤ isq n from hc)
  omega
theorem le_isq {n s : Nat} (h : s * s ≤ n) : s ≤ isq n := by
  have h1 := (isq_spec n).2
  refine Nat.le_of_not_lt fun hc => ?_
  have := Nat.mul_le_mul (show isq n + 1 ≤ s from hc) (show isq n + 1 ≤ s from hc)
  omega
theorem nt_ge {n x s : Nat} (hx : 0 < x) (hs : s * s ≤ n) : s ≤ (x + n / x) / 2 := by
  suffices h : 2 * s ≤ x + n / x by omega
  by_cases h : 2 * s ≤ x
  · exact Nat.le_trans h (Nat.le_add_right _ _)
  · have hd : 2 * s - x ≤ n / x := by
      rw [Nat.le_div_iff_mul_le hx]
      refine Nat.le_trans ?_ hs
      by_cases hxs : x ≤ s
      · obtain ⟨t, rfl⟩ : ∃ t, s = x + t := ⟨s - x, by omega⟩
        rw [show 2 * (x + t) - x = x + 2 * t by omega]
        simp only [Nat.add_mul, Nat.mul_add, Nat.mul_assoc, Nat.mul_comm t x]
        omega
      · obtain ⟨t, rfl⟩ : ∃ t, x = s + t := ⟨x - s, by omega⟩
        obtain ⟨u, rfl⟩ : ∃ u, s = t + u := ⟨s - t, by omega⟩
        rw [show 2 * (t + u) - (t + u + t) = u by omega]
        simp only [Nat.add_mul, Nat.mul_add, Nat.mul_comm u t]
        omega
    omega
theorem nt_lt {n x s : Nat} (hs : n < (s + 1) * (s + 1)) (h : s < x) : (x + n / x) / 2 < x := by
  have h1 : (s + 1) * (s + 1) ≤ x * x := Nat.mul_le_mul h h
  have h2 : n / x < x := (Nat.div_lt_iff_lt_mul (by omega)).2 (by omega)
  omega
theorem nt_step {n x : Nat} (hx : 0 < x) (h : isq n ≤ x) : isq n ≤ (x + n / x) / 2 ∧ (x ≤ (x + n / x) / 2 → x = isq n) := by
  refine ⟨nt_ge hx (isq_spec n).1, fun h1 => ?_⟩
  refine Nat.le_antisymm (Nat.le_of_not_lt fun hc => ?_) h
  have := nt_lt (isq_spec n).2 hc
  omega
end Go.Proofs.YtljibjlkjelpbaaGreatDoor

/- Contracts: lengths in bits; square roots of the program. -/
namespace Go.Proofs.YtljibjlkjelpbaaGreatDoor
open Go.RowKit
set_option maxRecDepth 100000
set_option maxHeartbeats 4000000

def len8tab : ByteArray := ⟨#[0, 1, 2, 2, 3, 3, 3, 3, 4, 4, 4, 4, 4, 4, 4, 4, 5, 5, 5, 5, 5, 5, 5, 5, 5, 5, 5, 5, 5, 5, 5, 5, 6, 6, 6, 6, 6, 6, 6, 6, 6, 6, 6, 6, 6, 6, 6, 6, 6, 6, 6, 6, 6, 6, 6, 6, 6, 6, 6, 6, 6, 6, 6, 6, 7, 7, 7, 7, 7, 7, 7, 7, 7, 7, 7, 7, 7, 7, 7, 7, 7, 7, 7, 7, 7, 7, 7, 7, 7, 7, 7, 7, 7, 7, 7, 7, 7, 7, 7, 7, 7, 7, 7, 7, 7, 7, 7, 7, 7, 7, 7, 7, 7, 7, 7, 7, 7, 7, 7, 7, 7, 7, 7, 7, 7, 7, 7, 7, 8, 8, 8, 8, 8, 8, 8, 8, 8, 8, 8, 8, 8, 8, 8, 8, 8, 8, 8, 8, 8, 8, 8, 8, 8, 8, 8, 8, 8, 8, 8, 8, 8, 8, 8, 8, 8, 8, 8, 8, 8, 8, 8, 8, 8, 8, 8, 8, 8, 8, 8, 8, 8, 8, 8, 8, 8, 8, 8, 8, 8, 8, 8, 8, 8, 8, 8, 8, 8, 8, 8, 8, 8, 8, 8, 8, 8, 8, 8, 8, 8, 8, 8, 8, 8, 8, 8, 8, 8, 8, 8, 8, 8, 8, 8, 8, 8, 8, 8, 8, 8, 8, 8, 8, 8, 8, 8, 8, 8, 8, 8, 8, 8, 8, 8, 8, 8, 8, 8, 8, 8, 8, 8, 8, 8, 8, 8, 8]⟩
def l8 (z : Nat) : Nat := (bAt len8tab z).toNat
def l16 (z : Nat) : Nat := if 256 ≤ z then l8 (z / 256) + 8 else l8 z
def l32 (z : Nat) : Nat := if 65536 ≤ z then l16 (z / 65536) + 16 else l16 z
def l64 (z : Nat) : Nat := if 4294967296 ≤ z then l32 (z / 4294967296) + 32 else l32 z
theorem l8_all : ((List.range 256).all fun z => decide (z < 2 ^ l8 z) && decide (l8 z ≤ 8)) = true := by kernel_rfl
theorem l8_lt {z : Nat} (h : z < 256) : z < 2 ^ l8 z ∧ l8 z ≤ 8 := by
  have := List.all_eq_true.1 l8_all z (List.mem_range.2 h)
  simpa using this
theorem up_lt {z k a b : Nat} (hb : b = 2 ^ a) (h : z / b < 2 ^ k) : z < 2 ^ (k + a) := by
  have hp : 0 < b := by rw [hb]; exact Nat.two_pow_pos a
  rw [Nat.pow_add, ← hb]
  exact (Nat.div_lt_iff_lt_mul hp).1 h
theorem l16_lt {z : Nat} (h : z < 65536) : z < 2 ^ l16 z ∧ l16 z ≤ 16 := by
  unfold l16
  split
  · have := l8_lt (z := z / 256) (by omega)
    exact ⟨up_lt (by decide) this.1, by omega⟩
  · have := l8_lt (z := z) (by omega)
    exact ⟨this.1, by omega⟩
theorem l32_lt {z : Nat} (h : z < 4294967296) : z < 2 ^ l32 z ∧ l32 z ≤ 32 := by
  unfold l32
  split
  · have := l16_lt (z := z / 65536) (by omega)
    exact ⟨up_lt (by decide) this.1, by omega⟩
  · have := l16_lt (z := z) (by omega)
    exact ⟨this.1, by omega⟩
theorem l64_lt {z : Nat} (h : z < 18446744073709551616) : z < 2 ^ l64 z ∧ l64 z ≤ 64 := by
  unfold l64
  split
  · have := l32_lt (z := z / 4294967296) (by omega)
    exact ⟨up_lt (by decide) this.1, by omega⟩
  · have := l32_lt (z := z) (by omega)
    exact ⟨this.1, by omega⟩
theorem l8_val {z : Nat} : (l8 z : Int) = bAt len8tab z := by
  unfold l8
  have := (bAt_range len8tab z).1
  omega
theorem fdiv_nat (z b : Nat) : ((z : Int).fdiv (b : Int)) = ((z / b : Nat) : Int) := by
  rw [Int.fdiv_eq_ediv_of_nonneg _ (by omega)]
  rfl
theorem wrap_u8 {z : Nat} (h : z < 256) : IntKind.u8.wrap (z : Int) = z := by
  have : IntKind.u8.wrap (z : Int) = (z : Int) % 256 := rfl
  rw [this]
  omega
theorem wrap_i8 {z : Nat} : IntKind.i64.wrap (bAt len8tab z) = (l8 z : Int) := by
  have h := bAt_range len8tab z
  rw [← l8_val, IntKind.wrap_i64]
  have := l8_val (z := z)
  omega
theorem l8_le (z : Nat) : l8 z ≤ 255 := by
  have h := bAt_range len8tab z
  have := l8_val (z := z)
  omega
theorem tab_size : len8tab.size = 256 := by kernel_rfl
theorem len64_ok (w : World) (x : Nat) (hx : x < 18446744073709551616) : Ok Tryz.prog 143 [.int .u64 (x : Int)].toArray w fun r _ => r = .int .i64 (l64 x : Int) := by
  have b1 := l8_le x
  have b2 := l8_le (x / 256)
  have b3 := l8_le (x / 65536)
  have b4 := l8_le (x / 65536 / 256)
  have b5 := l8_le (x / 4294967296)
  have b6 := l8_le (x / 4294967296 / 256)
  have b7 := l8_le (x / 4294967296 / 65536)
  have b8 := l8_le (x / 4294967296 / 65536 / 256)
  refine ok_enter Tryz.func143 rfl Tryz.ntmps143 rfl ?_
  focus (refine gc_seq ?_; refine gc_region ?_; refine gM rfl rfl (by conv => (lhs; whnf)) ?_; refine gO ?_; refine gc_seq ?_; refine gc_seq ?_; refine gc_region ?_; refine gM rfl rfl (by conv => (lhs; whnf)) ?_; refine gC rfl rfl rfl rfl rfl ?_; refine gO ?_; refine gc_if_dec rfl (fun _ => ?_) (fun _ => ?_); refine gc_seq ?_; refine gc_region ?_; refine gM rfl rfl (by conv => (lhs; whnf)) ?_; apply gw_d; exact det_shr rfl rfl rfl rfl (by decide) (fdiv_nat _ 4294967296); refine gM rfl rfl (by conv => (lhs; whnf)) ?_; refine gO ?_; refine gc_region ?_; refine gM rfl rfl (by conv => (lhs; whnf)) ?_; refine gO ?_; refine gc_seq ?_; refine gc_seq ?_; refine gc_region ?_; refine gM rfl rfl (by conv => (lhs; whnf)) ?_; refine gC rfl rfl rfl rfl rfl ?_; refine gO ?_; refine gc_if_dec rfl (fun _ => ?_) (fun _ => ?_); refine gc_seq ?_; refine gc_region ?_; refine gM rfl rfl (by conv => (lhs; whnf)) ?_; apply gw_d; exact det_shr rfl rfl rfl rfl (by decide) (fdiv_nat _ 65536); refine gM rfl rfl (by conv => (lhs; whnf)) ?_; refine gO ?_; refine gc_region ?_; refine gM rfl rfl (by conv => (lhs; whnf)) ?_; apply gw_d; exact det_ar rfl rfl rfl rfl rfl (by omega); refine gM rfl rfl (by conv => (lhs; whnf)) ?_; refine gO ?_; refine gc_seq ?_; refine gc_seq ?_; refine gc_region ?_; refine gM rfl rfl (by conv => (lhs; whnf)) ?_; refine gC rfl rfl rfl rfl rfl ?_; refine gO ?_; refine gc_if_dec rfl (fun _ => ?_) (fun _ => ?_); refine gc_seq ?_; refine gc_region ?_; refine gM rfl rfl (by conv => (lhs; whnf)) ?_; apply gw_d; exact det_shr rfl rfl rfl rfl (by decide) (fdiv_nat _ 256); refine gM rfl rfl (by conv => (lhs; whnf)) ?_; refine gO ?_; refine gc_region ?_; refine gM rfl rfl (by conv => (lhs; whnf)) ?_; apply gw_d; exact det_ar rfl rfl rfl rfl rfl (by omega); refine gM rfl rfl (by conv => (lhs; whnf)) ?_; refine gN ?_; refine gM rfl rfl (by conv => (lhs; whnf)) ?_; refine gM rfl rfl (by conv => (lhs; whnf)) ?_; apply gw_d; exact det_conv rfl rfl rfl (wrap_u8 (by omega)); apply gw_d; exact w_sidx (s := len8tab) rfl rfl rfl rfl rfl (by rw [tab_size]; omega); apply gw_d; exact det_conv rfl rfl rfl wrap_i8; apply gw_d; exact det_ar rfl rfl rfl rfl rfl (by omega); refine gM rfl rfl (by conv => (lhs; whnf)) ?_; refine gO ?_; refine gc_ret ?_; rotate_left; refine gc_skip ?_; refine gx_next ?_; refine gc_seq ?_; refine gc_region ?_; refine gM rfl rfl (by conv => (lhs; whnf)) ?_; refine gM rfl rfl (by conv => (lhs; whnf)) ?_; apply gw_d; exact det_conv rfl rfl rfl (wrap_u8 (by omega)); apply gw_d; exact w_sidx (s := len8tab) rfl rfl rfl rfl rfl (by rw [tab_size]; omega); apply gw_d; exact det_conv rfl rfl rfl wrap_i8; apply gw_d; exact det_ar rfl rfl rfl rfl rfl (by omega); refine gM rfl rfl (by conv => (lhs; whnf)) ?_; refine gO ?_; refine gc_ret ?_; rotate_left; refine gc_skip ?_; refine gx_next ?_; refine gc_seq ?_; refine gc_seq ?_; refine gc_region ?_; refine gM rfl rfl (by conv => (lhs; whnf)) ?_; refine gC rfl rfl rfl rfl rfl ?_; refine gO ?_; refine gc_if_dec rfl (fun _ => ?_) (fun _ => ?_); refine gc_seq ?_; refine gc_region ?_; refine gM rfl rfl (by conv => (lhs; whnf)) ?_; apply gw_d; exact det_shr rfl rfl rfl rfl (by decide) (fdiv_nat _ 256); refine gM rfl rfl (by conv => (lhs; whnf)) ?_; refine gO ?_; refine gc_region ?_; refine gM rfl rfl (by conv => (lhs; whnf)) ?_; apply gw_d; exact det_ar rfl rfl rfl rfl rfl (by omega); refine gM rfl rfl (by conv => (lhs; whnf)) ?_; refine gN ?_; refine gM rfl rfl (by conv => (lhs; whnf)) ?_; refine gM rfl rfl (by conv => (lhs; whnf)) ?_; apply gw_d; exact det_conv rfl rfl rfl (wrap_u8 (by omega)); apply gw_d; exact w_sidx (s := len8tab) rfl rfl rfl rfl rfl (by rw [tab_size]; omega); apply gw_d; exact det_conv rfl rfl rfl wrap_i8; apply gw_d; exact det_ar rfl rfl rfl rfl rfl (by omega); refine gM rfl rfl (by conv => (lhs; whnf)) ?_; refine gO ?_; refine gc_ret ?_; rotate_left; refine gc_skip ?_; refine gx_next ?_; refine gc_seq ?_; refine gc_region ?_; refine gM rfl rfl (by conv => (lhs; whnf)) ?_; refine gM rfl rfl (by conv => (lhs; whnf)) ?_; apply gw_d; exact det_conv rfl rfl rfl (wrap_u8 (by omega)); apply gw_d; exact w_sidx (s := len8tab) rfl rfl rfl rfl rfl (by rw [tab_size]; omega); apply gw_d; exact det_conv rfl rfl rfl wrap_i8; apply gw_d; exact det_ar rfl rfl rfl rfl rfl (by omega); refine gM rfl rfl (by conv => (lhs; whnf)) ?_; refine gO ?_; refine gc_ret ?_; rotate_left; refine gc_skip ?_; refine gx_next ?_; refine gc_seq ?_; refine gc_seq ?_; refine gc_region ?_; refine gM rfl rfl (by conv => (lhs; whnf)) ?_; refine gC rfl rfl rfl rfl rfl ?_; refine gO ?_; refine gc_if_dec rfl (fun _ => ?_) (fun _ => ?_); refine gc_seq ?_; refine gc_region ?_; refine gM rfl rfl (by conv => (lhs; whnf)) ?_; apply gw_d; exact det_shr rfl rfl rfl rfl (by decide) (fdiv_nat _ 65536); refine gM rfl rfl (by conv => (lhs; whnf)) ?_; refine gO ?_; refine gc_region ?_; refine gM rfl rfl (by conv => (lhs; whnf)) ?_; apply gw_d; exact det_ar rfl rfl rfl rfl rfl (by omega); refine gM rfl rfl (by conv => (lhs; whnf)) ?_; refine gO ?_; refine gc_seq ?_; refine gc_seq ?_; refine gc_region ?_; refine gM rfl rfl (by conv => (lhs; whnf)) ?_; refine gC rfl rfl rfl rfl rfl ?_; refine gO ?_; refine gc_if_dec rfl (fun _ => ?_) (fun _ => ?_); refine gc_seq ?_; refine gc_region ?_; refine gM rfl rfl (by conv => (lhs; whnf)) ?_; apply gw_d; exact det_shr rfl rfl rfl rfl (by decide) (fdiv_nat _ 256); refine gM rfl rfl (by conv => (lhs; whnf)) ?_; refine gO ?_; refine gc_region ?_; refine gM rfl rfl (by conv => (lhs; whnf)) ?_; apply gw_d; exact det_ar rfl rfl rfl rfl rfl (by omega); refine gM rfl rfl (by conv => (lhs; whnf)) ?_; refine gN ?_; refine gM rfl rfl (by conv => (lhs; whnf)) ?_; refine gM rfl rfl (by conv => (lhs; whnf)) ?_; apply gw_d; exact det_conv rfl rfl rfl (wrap_u8 (by omega)); apply gw_d; exact w_sidx (s := len8tab) rfl rfl rfl rfl rfl (by rw [tab_size]; omega); apply gw_d; exact det_conv rfl rfl rfl wrap_i8; apply gw_d; exact det_ar rfl rfl rfl rfl rfl (by omega); refine gM rfl rfl (by conv => (lhs; whnf)) ?_; refine gO ?_; refine gc_ret ?_; rotate_left; refine gc_skip ?_; refine gx_next ?_; refine gc_seq ?_; refine gc_region ?_; refine gM rfl rfl (by conv => (lhs; whnf)) ?_; refine gM rfl rfl (by conv => (lhs; whnf)) ?_; apply gw_d; exact det_conv rfl rfl rfl (wrap_u8 (by omega)); apply gw_d; exact w_sidx (s := len8tab) rfl rfl rfl rfl rfl (by rw [tab_size]; omega); apply gw_d; exact det_conv rfl rfl rfl wrap_i8; apply gw_d; exact det_ar rfl rfl rfl rfl rfl (by omega); refine gM rfl rfl (by conv => (lhs; whnf)) ?_; refine gO ?_; refine gc_ret ?_; rotate_left; refine gc_skip ?_; refine gx_next ?_; refine gc_seq ?_; refine gc_seq ?_; refine gc_region ?_; refine gM rfl rfl (by conv => (lhs; whnf)) ?_; refine gC rfl rfl rfl rfl rfl ?_; refine gO ?_; refine gc_if_dec rfl (fun _ => ?_) (fun _ => ?_); refine gc_seq ?_; refine gc_region ?_; refine gM rfl rfl (by conv => (lhs; whnf)) ?_; apply gw_d; exact det_shr rfl rfl rfl rfl (by decide) (fdiv_nat _ 256); refine gM rfl rfl (by conv => (lhs; whnf)) ?_; refine gO ?_; refine gc_region ?_; refine gM rfl rfl (by conv => (lhs; whnf)) ?_; apply gw_d; exact det_ar rfl rfl rfl rfl rfl (by omega); refine gM rfl rfl (by conv => (lhs; whnf)) ?_; refine gN ?_; refine gM rfl rfl (by conv => (lhs; whnf)) ?_; refine gM rfl rfl (by conv => (lhs; whnf)) ?_; apply gw_d; exact det_conv rfl rfl rfl (wrap_u8 (by omega)); apply gw_d; exact w_sidx (s := len8tab) rfl rfl rfl rfl rfl (by rw [tab_size]; omega); apply gw_d; exact det_conv rfl rfl rfl wrap_i8; apply gw_d; exact det_ar rfl rfl rfl rfl rfl (by omega); refine gM rfl rfl (by conv => (lhs; whnf)) ?_; refine gO ?_; refine gc_ret ?_; rotate_left; refine gc_skip ?_; refine gx_next ?_; refine gc_seq ?_; refine gc_region ?_; refine gM rfl rfl (by conv => (lhs; whnf)) ?_; refine gM rfl rfl (by conv => (lhs; whnf)) ?_; apply gw_d; exact det_conv rfl rfl rfl (wrap_u8 (by omega)); apply gw_d; exact w_sidx (s := len8tab) rfl rfl rfl rfl rfl (by rw [tab_size]; omega); apply gw_d; exact det_conv rfl rfl rfl wrap_i8; apply gw_d; exact det_ar rfl rfl rfl rfl rfl (by omega); refine gM rfl rfl (by conv => (lhs; whnf)) ?_; refine gO ?_; refine gc_ret ?_; rotate_left)
  (set_option pp.maxSteps 60 in set_option pp.deepTerms false in trace_state)
  all_goals (refine gx_ret1 (v := .int _ _) rfl rfl (fun _ _ => ?_); congr 1; unfold l64 l32 l16; split <;> split <;> split <;> omega)
theorem len_ok (w : World) (x : Nat) (hx : x < 18446744073709551616) : Ok Tryz.prog 142 [.int .u64 (x : Int)].toArray w fun r _ => r = .int .i64 (l64 x : Int) := by
  refine ok_enter Tryz.func142 rfl Tryz.ntmps142 rfl ?_
  focus (refine gc_seq ?_; refine gc_region ?_; refine gM rfl rfl (by conv => (lhs; whnf)) ?_; refine gO ?_; refine gc_seq ?_)
  refine gc_if_false rfl ?_
  focus (refine gc_skip ?_; refine gx_next ?_; refine gc_seq ?_; refine gc_region ?_; refine gM rfl rfl (by conv => (lhs; whnf)) ?_; apply gw_d; exact w_call rfl rfl (fun w _ => len64_ok w x hx) rfl; refine gM rfl rfl (by conv => (lhs; whnf)) ?_; refine gO ?_; refine gc_ret ?_)
  refine gx_ret1 (v := .int _ _) rfl rfl (fun _ _ => ?_)
  rfl
end Go.Proofs.YtljibjlkjelpbaaGreatDoor

/- Contracts: square roots and lengths of polylines. -/
namespace Go.Proofs.YtljibjlkjelpbaaGreatDoor
open Go.RowKit
set_option maxRecDepth 100000
set_option maxHeartbeats 4000000

section
variable {P : Program} {ops : Array Oper} {N : Nat} {w0 : World} {L : List Res} {e : Env} {o : Oper} {t : TypeId} {x y : Operand}
theorem det_shl {k k' : IntKind} {i j r : Int} {yt : TypeId} (hop : o.op = .binOp .shl t x y yt) (hw : wantedE N ops e o = true) (hx : ev N e x = .int k i) (hy : ev N e y = .int k' j) (hj : 0 ≤ j) (hr : k.wrap (i * 2 ^ (min j.toNat k.bits)) = r) : Det P ops N w0 L o e (.int k r) :=
  det_pure hw fun w => by
    have : ¬ j < 0 := by omega
    unfold execOp
    simp [hop, hx, hy, binOp, Op.shift, this, hr, eqGuard]
end
theorem two_pow_cast (k : Nat) : (2 : Int) ^ k = ((2 ^ k : Nat) : Int) := by
  rw [Int.natCast_pow]
  rfl
theorem isq_small {n : Nat} (h : n < 2) : isq n = n := by
  obtain rfl | rfl : n = 0 ∨ n = 1 := by omega
  · rfl
  · rfl
/-- The first x is above the root. -/
theorem first_x {n : Nat} (h : n < 18446744073709551616) : isq n ≤ 2 ^ ((l64 n + 1) / 2) ∧ (l64 n + 1) / 2 ≤ 32 := by
  obtain ⟨h1, h2⟩ := l64_lt h
  refine ⟨isq_le ?_, by omega⟩
  have h3 : 2 ^ l64 n ≤ 2 ^ ((l64 n + 1) / 2) * 2 ^ ((l64 n + 1) / 2) := by
    rw [← Nat.pow_add]
    exact Nat.pow_le_pow_right (by decide) (by omega)
  have h4 : 2 ^ ((l64 n + 1) / 2) * 2 ^ ((l64 n + 1) / 2) ≤ (2 ^ ((l64 n + 1) / 2) + 1) * (2 ^ ((l64 n + 1) / 2) + 1) := Nat.mul_le_mul (by omega) (by omega)
  omega
theorem root_ok (w : World) (n : Nat) (hn : n ≤ 9223372036854775807) : Ok Tryz.prog 131 [.int .i64 (n : Int)].toArray w fun r _ => r = .int .i64 (isq n : Int) := by
  obtain ⟨f1, f2⟩ := first_x (n := n) (by omega)
  have hl := (l64_lt (z := n) (by omega)).2
  have hp32 : 2 ^ ((l64 n + 1) / 2) ≤ 2 ^ 32 := Nat.pow_le_pow_right (by decide) f2
  have hp0 : 0 < 2 ^ ((l64 n + 1) / 2) := Nat.two_pow_pos _
  have hshl : IntKind.i64.wrap (1 * 2 ^ (min (((l64 n : Int) + 1) / 2).toNat IntKind.i64.bits)) = ((2 ^ ((l64 n + 1) / 2) : Nat) : Int) := by
    have e1 : (((l64 n : Int) + 1) / 2).toNat = (l64 n + 1) / 2 := by omega
    have e2 : IntKind.i64.bits = 64 := rfl
    rw [e1, e2, Nat.min_eq_left (by omega), Int.one_mul, two_pow_cast, IntKind.wrap_i64]
    have : (2 : Nat) ^ 32 = 4294967296 := rfl
    omega
  have hw64 : IntKind.u64.wrap (n : Int) = (n : Int) := by
    have : IntKind.u64.wrap (n : Int) = (n : Int) % 18446744073709551616 := rfl
    rw [this]
    omega
  refine ok_enter Tryz.func131 rfl Tryz.ntmps131 rfl ?_
  focus (refine gc_seq ?_; refine gc_region ?_; refine gM rfl rfl (by conv => (lhs; whnf)) ?_; refine gO ?_; refine gc_seq ?_; refine gc_seq ?_; refine gc_region ?_; refine gM rfl rfl (by conv => (lhs; whnf)) ?_; refine gC rfl rfl rfl rfl rfl ?_; refine gO ?_)
  refine gc_if_dec rfl (fun h => ?_) (fun h => ?_)
  · focus (refine gc_seq ?_; refine gc_region ?_; refine gM rfl rfl (by conv => (lhs; whnf)) ?_; refine gM rfl rfl (by conv => (lhs; whnf)) ?_; refine gO ?_; refine gc_ret ?_; refine gx_then_ret ?_)
    refine gx_ret1 (v := .int _ _) rfl rfl (fun _ _ => ?_)
    rw [isq_small (by omega)]
  focus (refine gc_skip ?_; refine gx_next ?_; refine gc_seq ?_; refine gc_region ?_; refine gM rfl rfl (by conv => (lhs; whnf)) ?_; apply gw_d; exact det_conv rfl rfl rfl hw64; apply gw_d; exact w_call rfl rfl (fun w _ => len_ok w n (by omega)) rfl; apply gw_d; exact det_ar rfl rfl rfl rfl rfl (by omega); apply gw_d; exact det_quo rfl rfl rfl rfl (by omega) (by omega) (by omega); apply gw_d; exact det_shl rfl rfl rfl rfl (by omega) hshl; refine gM rfl rfl (by conv => (lhs; whnf)) ?_; refine gO ?_; refine gc_block ?_)
  refine gc_loopK (σ := Nat) [14, 15, 16, 17, 18, 19, 4, 20, 21, 22, 23, 2, 24, 3] (fun x => [(3, .int .i64 (x : Int))]) (fun x => isq n ≤ x ∧ 0 < x ∧ x ≤ 4294967296) (fun x => x) (2 ^ ((l64 n + 1) / 2)) ⟨f1, hp0, hp32⟩ ⟨rfl, trivial⟩ ?_
  rintro x base ⟨hx1, hx2, hx3⟩
  obtain ⟨s1, s2⟩ := nt_step hx2 hx1
  have hdiv : (n : Int) / (x : Int) = ((n / x : Nat) : Int) := rfl
  have hq : n / x ≤ x + 2 := by
    have h1 := (isq_spec n).2
    have h2 : (isq n + 1) * (isq n + 1) ≤ (x + 1) * (x + 1) := Nat.mul_le_mul (by omega) (by omega)
    have h3 : (x + 1) * (x + 1) = x * (x + 2) + 1 := by
      simp only [Nat.add_mul, Nat.mul_add]
      omega
    exact Nat.div_le_of_le_mul (by omega)
  have hi1 : 1 ≤ isq n := le_isq (by omega)
  have hqi : (n : Int) / (x : Int) ≤ x + 2 ∧ 0 ≤ (n : Int) / (x : Int) := by
    rw [hdiv]
    exact ⟨Int.ofNat_le.2 hq, Int.natCast_nonneg _⟩
  have hy : ((x : Int) + (n : Int) / (x : Int)) / 2 = (((x + n / x) / 2 : Nat) : Int) := by
    rw [hdiv]
    omega
  focus (refine gc_block ?_; refine gc_seq ?_; refine gc_region ?_; refine gM rfl rfl (by conv => (lhs; whnf)) ?_; refine gM rfl rfl (by conv => (lhs; whnf)) ?_; refine gM rfl rfl (by conv => (lhs; whnf)) ?_; apply gw_d; exact det_quo rfl rfl rfl rfl (by omega) (by omega) (by omega); apply gw_d; exact det_ar rfl rfl rfl rfl rfl (by omega); apply gw_d; exact det_quo rfl rfl rfl rfl (by omega) (by omega) (by omega); refine gM rfl rfl (by conv => (lhs; whnf)) ?_; refine gO ?_; refine gc_seq ?_; refine gc_seq ?_; refine gc_region ?_; refine gM rfl rfl (by conv => (lhs; whnf)) ?_; refine gM rfl rfl (by conv => (lhs; whnf)) ?_; refine gC rfl rfl rfl rfl rfl ?_; refine gO ?_)
  refine gc_if_dec rfl (fun h2 => ?_) (fun h2 => ?_)
  · focus (refine gc_seq ?_; refine gc_region ?_; refine gM rfl rfl (by conv => (lhs; whnf)) ?_; refine gM rfl rfl (by conv => (lhs; whnf)) ?_; refine gO ?_; refine gc_ret ?_; refine gx_then_ret ?_; refine gx_block_ret ?_; refine gx_then_ret ?_; refine gx_block_ret ?_)
    refine gx_ret1 (v := .int _ _) rfl rfl (fun _ _ => ?_)
    rw [hy] at h2
    have := s2 (by omega)
    rw [← this]
  · rw [hy] at h2 ⊢
    focus (refine gc_skip ?_; refine gx_next ?_; refine gc_region ?_; refine gM rfl rfl (by conv => (lhs; whnf)) ?_; refine gM rfl rfl (by conv => (lhs; whnf)) ?_; refine gw_nil ?_; refine gx_block ?_)
    exact gx_round ((x + n / x) / 2) ⟨s1, by omega, by omega⟩ (by omega) (by repeat (first | exact Keeps.refl | refine Keeps.upd rfl ?_ | refine Keeps.sets rfl ?_ | refine Keeps.havoc rfl ?_)) ⟨rfl, trivial⟩ (Sub.all _)
/-! ### Segments and polylines -/
def segN (p q : Int × Int) : Nat := (1000000 * ((q.1 - p.1) * (q.1 - p.1) + (q.2 - p.2) * (q.2 - p.2))).toNat
def segL (p q : Int × Int) : Int := (isq (segN p q) : Int)
theorem sq_range {d : Int} (h : -2097152 ≤ d ∧ d ≤ 2097152) : 0 ≤ d * d ∧ d * d ≤ 4398046511104 := by
  rcases Int.le_total 0 d with h1 | h1
  · have a := Int.mul_nonneg h1 h1
    have b : d * d ≤ 2097152 * 2097152 := Int.mul_le_mul h.2 h.2 h1 (by decide)
    omega
  · have e : d * d = (-d) * (-d) := by rw [Int.neg_mul_neg]
    have h2 : 0 ≤ -d := by omega
    have a := Int.mul_nonneg h2 h2
    have b : (-d) * (-d) ≤ 2097152 * 2097152 := Int.mul_le_mul (by omega) (by omega) h2 (by decide)
    omega
def nearP (p : Int × Int) : Prop := (-1048576 ≤ p.1 ∧ p.1 ≤ 1048576) ∧ (-1048576 ≤ p.2 ∧ p.2 ≤ 1048576)
theorem segment_ok (w : World) (p q : Int × Int) (hp : nearP p) (hq : nearP q) : Ok Tryz.prog 115 [.agg #[.int .i64 p.1, .int .i64 p.2], .agg #[.int .i64 q.1, .int .i64 q.2]].toArray w fun r _ => r = .int .i64 (segL p q) := by
  obtain ⟨p1, p2⟩ := hp
  obtain ⟨q1, q2⟩ := hq
  have s1 := sq_range (d := q.1 - p.1) (by omega)
  have s2 := sq_range (d := q.2 - p.2) (by omega)
  have hv : ((segN p q : Nat) : Int) = 1000000 * ((q.1 - p.1) * (q.1 - p.1) + (q.2 - p.2) * (q.2 - p.2)) := by
    unfold segN
    omega
  have hR : ∀ (L : List Res) (w' : World), St w L w' → Ok Tryz.prog 131 [.int .i64 (1000000 * ((q.1 - p.1) * (q.1 - p.1) + (q.2 - p.2) * (q.2 - p.2)))].toArray w' fun r _ => r = .int .i64 (segL p q) := fun L w' _ => by
    have := root_ok w' (segN p q) (by omega)
    rw [hv] at this
    exact this
  refine ok_enter Tryz.func115 rfl Tryz.ntmps115 rfl ?_
  focus (refine gc_seq ?_; refine gc_region ?_; refine gw_boxd (v := .agg _) rfl rfl (fun _ => ?_); refine gw_boxd (v := .agg _) rfl rfl (fun _ => ?_); refine gM rfl rfl (by conv => (lhs; whnf)) ?_; refine gO ?_; refine gc_seq ?_)
  refine gc_draw2 11 (by kernel_rfl) (by kernel_rfl) ?_
  focus (apply gd_d; exact w_field rfl rfl rfl; apply gd_d; exact w_load_box rfl rfl rfl .here rfl; apply gd_d; exact w_field rfl rfl rfl; apply gd_d; exact w_load_box rfl rfl rfl (.there .here) rfl; apply gd_d; exact det_ar rfl rfl rfl rfl rfl (by omega); apply gd_d; exact w_field rfl rfl rfl; apply gd_d; exact w_load_box rfl rfl rfl .here rfl; apply gd_d; exact w_field rfl rfl rfl; apply gd_d; exact w_load_box rfl rfl rfl (.there .here) rfl; apply gd_d; exact det_ar rfl rfl rfl rfl rfl (by omega); apply gd_d; exact det_m rfl rfl (by conv => (lhs; whnf)); refine gd_nil ?_; refine gM rfl rfl (by conv => (lhs; whnf)) ?_; refine gN ?_; refine gM rfl rfl (by conv => (lhs; whnf)) ?_; refine gM rfl rfl (by conv => (lhs; whnf)) ?_; apply gw_d; exact det_ar rfl rfl rfl rfl rfl (by omega); refine gM rfl rfl (by conv => (lhs; whnf)) ?_; refine gM rfl rfl (by conv => (lhs; whnf)) ?_; apply gw_d; exact det_ar rfl rfl rfl rfl rfl (by omega); apply gw_d; exact det_ar rfl rfl rfl rfl rfl (by omega); apply gw_d; exact det_ar rfl rfl rfl rfl rfl (by omega); apply gw_d; exact w_call rfl rfl (hR _) rfl; refine gM rfl rfl (by conv => (lhs; whnf)) ?_; refine gO ?_; refine gc_ret ?_)
  refine gx_ret1 (v := .int _ _) rfl rfl (fun _ _ => ?_)
  rfl
end Go.Proofs.YtljibjlkjelpbaaGreatDoor

/- Contracts: lengths of polylines. -/
namespace Go.Proofs.YtljibjlkjelpbaaGreatDoor
open Go.RowKit
set_option maxRecDepth 100000
set_option maxHeartbeats 4000000

theorem segN_range {p q : Int × Int} (hp : nearP p) (hq : nearP q) : segN p q ≤ 8796093022208000000 ∧ ((segN p q : Nat) : Int) = 1000000 * ((q.1 - p.1) * (q.1 - p.1) + (q.2 - p.2) * (q.2 - p.2)) := by
  obtain ⟨p1, p2⟩ := hp
  obtain ⟨q1, q2⟩ := hq
  have s1 := sq_range (d := q.1 - p.1) (by omega)
  have s2 := sq_range (d := q.2 - p.2) (by omega)
  unfold segN
  omega
theorem segL_range {p q : Int × Int} (hp : nearP p) (hq : nearP q) : 0 ≤ segL p q ∧ segL p q ≤ 4294967296 := by
  have h := (segN_range hp hq).1
  refine ⟨Int.natCast_nonneg _, ?_⟩
  have : isq (segN p q) ≤ 4294967296 := isq_le (by omega)
  unfold segL
  omega
theorem sq_pos {d : Int} (h : ¬ d = 0) : 1 ≤ d * d := by
  rcases Int.lt_or_gt_of_ne h with h1 | h1
  · have := Int.mul_pos_of_neg_of_neg h1 h1
    omega
  · have := Int.mul_pos h1 h1
    omega
theorem segL_pos {p q : Int × Int} (hp : nearP p) (hq : nearP q) (hne : ¬ p = q) : 1 ≤ segL p q := by
  have h := (segN_range hp hq).2
  have hd : ¬ (q.1 - p.1 = 0) ∨ ¬ (q.2 - p.2 = 0) := by
    by_cases h1 : q.1 - p.1 = 0
    · right
      intro h2
      exact hne (Prod.ext (by omega) (by omega))
    · exact .inl h1
  have s1 : 0 ≤ (q.1 - p.1) * (q.1 - p.1) := (sq_range (d := q.1 - p.1) (by obtain ⟨a, b⟩ := hp; obtain ⟨c, d⟩ := hq; omega)).1
  have s2 : 0 ≤ (q.2 - p.2) * (q.2 - p.2) := (sq_range (d := q.2 - p.2) (by obtain ⟨a, b⟩ := hp; obtain ⟨c, d⟩ := hq; omega)).1
  have h3 : 1 ≤ segN p q := by
    rcases hd with h1 | h1
    · have := sq_pos h1
      omega
    · have := sq_pos h1
      omega
  have : 1 ≤ isq (segN p q) := le_isq (by omega)
  unfold segL
  omega
def lenS (l : List (Int × Int)) : Nat → Int
  | 0 => 0
  | k + 1 => lenS l k + segL (gS l k) (gS l (k + 1))
def lenL (l : List (Int × Int)) : Int := lenS l (l.length - 1)
structure Line (l : List (Int × Int)) : Prop where
  two : 2 ≤ l.length
  le : l.length ≤ 40
  near : ∀ k, k < l.length → nearP (gS l k)
  moves : ∀ k, k + 1 < l.length → ¬ gS l k = gS l (k + 1)
theorem line_good {l : List (Int × Int)} (h : plineE l = 0) : Line l := by
  unfold plineE at h
  split at h
  · cases h
  rename_i h1
  split at h
  · cases h
  rename_i h2
  split at h
  · cases h
  rename_i h3
  split at h
  · cases h
  rename_i h4
  refine ⟨by omega, by omega, fun k hk => ?_, fun k hk hc => ?_⟩
  · have h5 : l.any outP = false := by simpa using h3
    have h6 := List.any_eq_false.1 h5 l[k] (List.getElem_mem hk)
    rw [gS_get hk]
    unfold nearP
    simp [outP, outB] at h6
    omega
  · exact h4 (still_yes (by omega) hc)
theorem lenS_range {l : List (Int × Int)} (h : Line l) : ∀ k, k < l.length → 0 ≤ lenS l k ∧ lenS l k ≤ 4294967296 * k
  | 0, _ => ⟨Int.le_refl _, Int.le_refl _⟩
  | k + 1, hk => by
    have h1 := lenS_range h k (by omega)
    have h2 := segL_range (h.near k (by omega)) (h.near (k + 1) hk)
    show 0 ≤ lenS l k + segL (gS l k) (gS l (k + 1)) ∧ lenS l k + segL (gS l k) (gS l (k + 1)) ≤ _
    omega
theorem lenL_range {l : List (Int × Int)} (h : Line l) : 1 ≤ lenL l ∧ lenL l ≤ 1099511627776 := by
  have h2 := h.two
  have h3 := h.le
  obtain ⟨m, hm⟩ : ∃ m, l.length - 1 = m + 1 := ⟨l.length - 2, by omega⟩
  unfold lenL
  rw [hm]
  have h1 := lenS_range h m (by omega)
  have h5 := segL_range (h.near m (by omega)) (h.near (m + 1) (by omega))
  have h6 := segL_pos (h.near m (by omega)) (h.near (m + 1) (by omega)) (h.moves m (by omega))
  show 1 ≤ lenS l m + segL (gS l m) (gS l (m + 1)) ∧ lenS l m + segL (gS l m) (gS l (m + 1)) ≤ _
  omega
theorem length_ok (w : World) (v : Value) (l : List (Int × Int)) (hl : Sl rSpot w w.heap.size v l) (hp : plineE l = 0) : Ok Tryz.prog 96 [v].toArray w fun r _ => r = .tuple #[.int .i64 (lenL l), .int .i64 0] := by
  have hG := line_good hp
  have h2 := hG.two
  have h40 := hG.le
  have hC : ∀ (L : List Res) (w' : World), St w L w' → Ok Tryz.prog 92 [v].toArray w' fun r _ => r = .int .i64 0 := fun L w' s => by
    have := polyline_ok w' v l (hl.later s)
    rw [hp] at this
    exact this
  obtain ⟨ad, c, rfl, hc, hm, hb, hcell⟩ := hl.spot' (by omega)
  refine ok_enter Tryz.func96 rfl Tryz.ntmps96 rfl ?_
  focus (refine gc_seq ?_; refine gc_region ?_; refine gM rfl rfl (by conv => (lhs; whnf)) ?_; refine gM rfl rfl (by conv => (lhs; whnf)) ?_; refine gO ?_; refine gc_seq ?_; refine gc_seq ?_; refine gc_region ?_; refine gM rfl rfl (by conv => (lhs; whnf)) ?_; apply gw_d; exact w_call rfl rfl (hC _) rfl; refine gM rfl rfl (by conv => (lhs; whnf)) ?_; refine gN ?_; refine gM rfl rfl (by conv => (lhs; whnf)) ?_; refine gC rfl rfl rfl rfl rfl ?_; refine gO ?_)
  refine gc_if_dec rfl (fun h => absurd rfl h) (fun _ => ?_)
  focus (refine gc_skip ?_; refine gx_next ?_; refine gc_seq ?_; refine gc_region ?_; refine gM rfl rfl (by conv => (lhs; whnf)) ?_; refine gO ?_; refine gc_seq ?_; refine gc_seq ?_; refine gc_region ?_; refine gM rfl rfl (by conv => (lhs; whnf)) ?_; refine gL rfl rfl rfl ?_; apply gw_d; exact det_ar rfl rfl rfl rfl rfl (by omega); refine gM rfl rfl (by conv => (lhs; whnf)) ?_; refine gO ?_; refine gc_block ?_)
  refine gc_loopK (σ := Nat) [16, 17, 6, 18, 19, 20, 21, 22, 23, 24, 25, 26, 27, 28, 29, 5, 30, 15] (fun k => [(15, .int .i64 k), (5, .int .i64 (lenS l k))]) (fun k => k ≤ l.length - 1) (fun k => l.length - k) 0 (Nat.zero_le _) ⟨rfl, rfl, trivial⟩ ?_
  rintro k base hk
  focus (refine gc_seq ?_; refine gc_region ?_; refine gC rfl rfl rfl rfl rfl ?_; refine gO ?_; refine gc_seq ?_)
  refine gc_if_dec rfl (fun h => ?_) (fun h => ?_)
  · have hk1 : k + 1 < l.length := by omega
    have hr := lenS_range hG k (by omega)
    have hsr := segL_range (hG.near k (by omega)) (hG.near (k + 1) hk1)
    have hc0 := hcell k (by omega)
    have hc1 := hcell (k + 1) hk1
    have hsg : ∀ (L : List Res) (w' : World), St w L w' → Ok Tryz.prog 115 [.agg #[.int .i64 (gS l k).1, .int .i64 (gS l k).2], .agg #[.int .i64 (gS l (k + 1)).1, .int .i64 (gS l (k + 1)).2]].toArray w' fun r _ => r = .int .i64 (segL (gS l k) (gS l (k + 1))) := fun L w' _ => segment_ok w' _ _ (hG.near k (by omega)) (hG.near (k + 1) hk1)
    focus (refine gc_skip ?_; refine gx_next ?_; refine gc_seq ?_; refine gc_block ?_; refine gc_seq ?_; refine gc_region ?_; refine gM rfl rfl (by conv => (lhs; whnf)) ?_; refine gM rfl rfl (by conv => (lhs; whnf)) ?_; refine gO ?_)
    refine gc_draw 12 (by kernel_rfl) (by kernel_rfl) ?_
    focus (apply gd_d; exact det_m rfl rfl (by conv => (lhs; whnf)); apply gd_d; exact det_m rfl rfl (by conv => (lhs; whnf)); apply gd_d; exact det_m rfl rfl (by conv => (lhs; whnf)); apply gd_d; exact w_index rfl rfl rfl rfl (by with_reducible exact rfl) (by omega); apply gd_d; exact w_load_elem rfl rfl rfl (by assumption) (by assumption) (by rfl); apply gd_d; exact det_m rfl rfl (by conv => (lhs; whnf)); apply gd_d; exact det_m rfl rfl (by conv => (lhs; whnf)); apply gd_d; exact det_ar rfl rfl rfl rfl rfl (by omega); apply gd_d; exact w_index rfl rfl rfl rfl (by with_reducible exact castA _) (by omega); apply gd_d; exact w_load_elem rfl rfl rfl (by assumption) (by assumption) (by rfl); apply gd_d; exact w_call rfl rfl (hsg _) rfl; apply gd_d; exact det_ar rfl rfl rfl rfl rfl (by omega); refine gd_nil ?_; refine gM rfl rfl (by conv => (lhs; whnf)) ?_; refine gw_nil ?_; refine gx_block ?_; refine gx_next ?_; refine gc_region ?_; apply gw_d; exact det_ar rfl rfl rfl rfl rfl (by omega); refine gM rfl rfl (by conv => (lhs; whnf)) ?_; refine gw_nil ?_)
    exact gx_round (k + 1) (by omega) (by omega) (by repeat (first | exact Keeps.refl | refine Keeps.upd rfl ?_ | refine Keeps.sets rfl ?_ | refine Keeps.havoc rfl ?_)) ⟨rfl, rfl, trivial⟩ (Sub.all _)
  · obtain rfl : k = l.length - 1 := by omega
    focus (refine gc_exit ?_; refine gx_then_exit ?_; refine gx_then_exit ?_; refine gx_block_exit ?_; refine gx_next ?_; refine gc_seq ?_; refine gc_region ?_; refine gM rfl rfl (by conv => (lhs; whnf)) ?_; refine gM rfl rfl (by conv => (lhs; whnf)) ?_; refine gM rfl rfl (by conv => (lhs; whnf)) ?_; refine gO ?_; refine gc_ret ?_)
    refine gx_ret2 (u := .int _ _) (v := .int _ _) rfl rfl rfl (fun _ _ => ?_)
    rfl
end Go.Proofs.YtljibjlkjelpbaaGreatDoor

/- Numbers of 64 bits without a sign; the product of two of them in two words. -/
namespace Go.Proofs.YtljibjlkjelpbaaGreatDoor
open Go.RowKit
set_option maxRecDepth 100000
set_option maxHeartbeats 4000000

theorem u64w (i : Int) : IntKind.u64.wrap i = i % 18446744073709551616 := rfl
section
variable {P : Program} {ops : Array Oper} {N : Nat} {w0 : World} {L : List Res} {e : Env} {o : Oper} {t : TypeId} {x y : Operand}
theorem det_mulU {i j : Nat} {yt : TypeId} (hop : o.op = .binOp .mul t x y yt) (hw : wantedE N ops e o = true) (hx : ev N e x = .int .u64 (i : Int)) (hy : ev N e y = .int .u64 (j : Int)) : Det P ops N w0 L o e (.int .u64 ((i * j % 18446744073709551616 : Nat) : Int)) :=
  det_eq (det_ar_wrap (r := IntKind.u64.wrap ((i : Int) * (j : Int))) hop hw hx hy rfl) (by rw [u64w, Int.natCast_emod, Int.natCast_mul]; rfl)
theorem det_addU {i j : Nat} {yt : TypeId} (hop : o.op = .binOp .add t x y yt) (hw : wantedE N ops e o = true) (hx : ev N e x = .int .u64 (i : Int)) (hy : ev N e y = .int .u64 (j : Int)) : Det P ops N w0 L o e (.int .u64 (((i + j) % 18446744073709551616 : Nat) : Int)) :=
  det_eq (det_ar_wrap (r := IntKind.u64.wrap ((i : Int) + (j : Int))) hop hw hx hy rfl) (by rw [u64w, Int.natCast_emod, Int.natCast_add]; rfl)
theorem det_subU {i j : Nat} {yt : TypeId} (hj : j ≤ 18446744073709551616) (hop : o.op = .binOp .sub t x y yt) (hw : wantedE N ops e o = true) (hx : ev N e x = .int .u64 (i : Int)) (hy : ev N e y = .int .u64 (j : Int)) : Det P ops N w0 L o e (.int .u64 (((i + (18446744073709551616 - j)) % 18446744073709551616 : Nat) : Int)) :=
  det_eq (det_ar_wrap (r := IntKind.u64.wrap ((i : Int) - (j : Int))) hop hw hx hy rfl) (by
    rw [u64w]
    congr 1
    omega)
theorem run_bits {b : BinOp} {k : IntKind} {i j : Int} {yt : TypeId} {v : Value} {w : World} (hb : b = .and ∨ b = .or) (hop : o.op = .binOp b t x y yt) (hx : ev N e x = .int k i) (hy : ev N e y = .int k j) (hr : (Op.intBits b k i j).run P w = .ok v w) : (execOp (ev N e) o).run P w = .ok (.value v) w := by
  unfold execOp
  rcases hb with rfl | rfl <;> simp [hop, hx, hy, eqGuard, binOp, hr]
theorem det_andM {i : Nat} {yt : TypeId} (hi : i < 18446744073709551616) (hop : o.op = .binOp .and t x y yt) (hw : wantedE N ops e o = true) (hx : ev N e x = .int .u64 (i : Int)) (hy : ev N e y = .int .u64 4294967295) : Det P ops N w0 L o e (.int .u64 ((i % 4294967296 : Nat) : Int)) :=
  det_pure hw fun w => run_bits (.inl rfl) hop hx hy (by
    have h1 : (BitVec.ofInt IntKind.u64.bits (i : Int) &&& BitVec.ofInt IntKind.u64.bits 4294967295).toNat = i % 4294967296 := by
      show (BitVec.ofInt 64 (i : Int) &&& BitVec.ofInt 64 4294967295).toNat = i % 4294967296
      rw [BitVec.toNat_and, BitVec.toNat_ofInt, BitVec.toNat_ofInt]
      have e1 : ((i : Int) % ((2 ^ 64 : Nat) : Int)).toNat = i := by
        have : ((2 ^ 64 : Nat) : Int) = 18446744073709551616 := rfl
        rw [this]
        omega
      have e2 : ((4294967295 : Int) % ((2 ^ 64 : Nat) : Int)).toNat = 2 ^ 32 - 1 := rfl
      rw [e1, e2, Nat.and_two_pow_sub_one_eq_mod]
    simp only [Op.intBits, h1]
    have h2 : IntKind.u64.wrap ((i % 4294967296 : Nat) : Int) = ((i % 4294967296 : Nat) : Int) := by
      rw [u64w]
      omega
    rw [h2]
    rfl)
def orW (i j : Nat) : Nat := (BitVec.ofInt 64 (i : Int) ||| BitVec.ofInt 64 (j : Int)).toNat
theorem orW_lt (i j : Nat) : orW i j < 18446744073709551616 := (BitVec.ofInt 64 (i : Int) ||| BitVec.ofInt 64 (j : Int)).isLt
theorem det_orU {i j : Nat} {yt : TypeId} (hop : o.op = .binOp .or t x y yt) (hw : wantedE N ops e o = true) (hx : ev N e x = .int .u64 (i : Int)) (hy : ev N e y = .int .u64 (j : Int)) : Det P ops N w0 L o e (.int .u64 ((orW i j : Nat) : Int)) :=
  det_pure hw fun w => run_bits (.inr rfl) hop hx hy (by
    have h1 : (BitVec.ofInt IntKind.u64.bits (i : Int) ||| BitVec.ofInt IntKind.u64.bits (j : Int)).toNat = orW i j := rfl
    simp only [Op.intBits, h1]
    have h2 : IntKind.u64.wrap ((orW i j : Nat) : Int) = ((orW i j : Nat) : Int) := by
      have := orW_lt i j
      rw [u64w]
      omega
    rw [h2]
    rfl)
end
theorem mul64_law {x y : Nat} : x * y = (x / 4294967296) * (y / 4294967296) * 18446744073709551616 + (x / 4294967296) * (y % 4294967296) * 4294967296 + (x % 4294967296) * (y / 4294967296) * 4294967296 + (x % 4294967296) * (y % 4294967296) := by
  have hx : x = x / 4294967296 * 4294967296 + x % 4294967296 := by omega
  have hy : y = y / 4294967296 * 4294967296 + y % 4294967296 := by omega
  generalize x / 4294967296 = a at *
  generalize x % 4294967296 = b at *
  generalize y / 4294967296 = c at *
  generalize y % 4294967296 = d at *
  subst hx hy
  simp only [Nat.add_mul, Nat.mul_add]
  have e1 : a * 4294967296 * (c * 4294967296) = a * c * 18446744073709551616 := by
    rw [Nat.mul_mul_mul_comm]
  have e2 : a * 4294967296 * d = a * d * 4294967296 := Nat.mul_right_comm _ _ _
  have e3 : b * (c * 4294967296) = b * c * 4294967296 := (Nat.mul_assoc _ _ _).symm
  omega
theorem mul64_ok (w : World) (x y : Nat) (hx : x ≤ 1099511627776) (hy : y ≤ 1099511627776) : Ok Tryz.prog 116 [.int .u64 (x : Int), .int .u64 (y : Int)].toArray w fun r _ => r = .tuple #[.int .u64 ((x * y / 18446744073709551616 : Nat) : Int), .int .u64 ((x * y % 18446744073709551616 : Nat) : Int)] := by
  have hlaw := mul64_law (x := x) (y := y)
  have a1 : x / 4294967296 ≤ 256 := by omega
  have a2 : y / 4294967296 ≤ 256 := by omega
  have a3 : x % 4294967296 ≤ 4294967295 := by omega
  have a4 : y % 4294967296 ≤ 4294967295 := by omega
  have m1 : (x / 4294967296) * (y / 4294967296) ≤ 256 * 256 := Nat.mul_le_mul a1 a2
  have m2 : (x / 4294967296) * (y % 4294967296) ≤ 256 * 4294967295 := Nat.mul_le_mul a1 a4
  have m3 : (x % 4294967296) * (y / 4294967296) ≤ 4294967295 * 256 := Nat.mul_le_mul a3 a2
  have m4 : (x % 4294967296) * (y % 4294967296) ≤ 4294967295 * 4294967295 := Nat.mul_le_mul a3 a4
  generalize hA : (x / 4294967296) * (y / 4294967296) = A at *
  generalize hB : (x / 4294967296) * (y % 4294967296) = B at *
  generalize hC : (x % 4294967296) * (y / 4294967296) = C at *
  generalize hD : (x % 4294967296) * (y % 4294967296) = D at *
  refine ok_enter Tryz.func116 rfl Tryz.ntmps116 rfl ?_
  focus (refine gc_seq ?_; refine gc_region ?_; refine gM rfl rfl (by conv => (lhs; whnf)) ?_; refine gM rfl rfl (by conv => (lhs; whnf)) ?_; refine gN ?_; refine gM rfl rfl (by conv => (lhs; whnf)) ?_; apply gw_d; exact det_andM (by omega) rfl rfl rfl rfl; refine gM rfl rfl (by conv => (lhs; whnf)) ?_; refine gN ?_; refine gM rfl rfl (by conv => (lhs; whnf)) ?_; apply gw_d; exact det_shr rfl rfl rfl rfl (by decide) (fdiv_nat _ 4294967296); refine gM rfl rfl (by conv => (lhs; whnf)) ?_; refine gN ?_; refine gM rfl rfl (by conv => (lhs; whnf)) ?_; apply gw_d; exact det_andM (by omega) rfl rfl rfl rfl; refine gM rfl rfl (by conv => (lhs; whnf)) ?_; refine gN ?_; refine gM rfl rfl (by conv => (lhs; whnf)) ?_; apply gw_d; exact det_shr rfl rfl rfl rfl (by decide) (fdiv_nat _ 4294967296); refine gM rfl rfl (by conv => (lhs; whnf)) ?_; refine gN ?_; refine gM rfl rfl (by conv => (lhs; whnf)) ?_; refine gM rfl rfl (by conv => (lhs; whnf)) ?_; apply gw_d; exact det_mulU rfl rfl rfl rfl; refine gM rfl rfl (by conv => (lhs; whnf)) ?_; refine gN ?_; refine gM rfl rfl (by conv => (lhs; whnf)) ?_; refine gM rfl rfl (by conv => (lhs; whnf)) ?_; apply gw_d; exact det_mulU rfl rfl rfl rfl; refine gM rfl rfl (by conv => (lhs; whnf)) ?_; apply gw_d; exact det_shr rfl rfl rfl rfl (by decide) (fdiv_nat _ 4294967296); apply gw_d; exact det_addU rfl rfl rfl rfl; refine gM rfl rfl (by conv => (lhs; whnf)) ?_; refine gN ?_; refine gM rfl rfl (by conv => (lhs; whnf)) ?_; apply gw_d; exact det_andM (by omega) rfl rfl rfl rfl; refine gM rfl rfl (by conv => (lhs; whnf)) ?_; refine gN ?_; refine gM rfl rfl (by conv => (lhs; whnf)) ?_; apply gw_d; exact det_shr rfl rfl rfl rfl (by decide) (fdiv_nat _ 4294967296); refine gM rfl rfl (by conv => (lhs; whnf)) ?_; refine gN ?_; refine gM rfl rfl (by conv => (lhs; whnf)) ?_; refine gM rfl rfl (by conv => (lhs; whnf)) ?_; refine gM rfl rfl (by conv => (lhs; whnf)) ?_; apply gw_d; exact det_mulU rfl rfl rfl rfl; apply gw_d; exact det_addU rfl rfl rfl rfl; refine gM rfl rfl (by conv => (lhs; whnf)) ?_; refine gN ?_; refine gM rfl rfl (by conv => (lhs; whnf)) ?_; refine gM rfl rfl (by conv => (lhs; whnf)) ?_; apply gw_d; exact det_mulU rfl rfl rfl rfl; refine gM rfl rfl (by conv => (lhs; whnf)) ?_; apply gw_d; exact det_addU rfl rfl rfl rfl; refine gM rfl rfl (by conv => (lhs; whnf)) ?_; apply gw_d; exact det_shr rfl rfl rfl rfl (by decide) (fdiv_nat _ 4294967296); apply gw_d; exact det_addU rfl rfl rfl rfl; refine gM rfl rfl (by conv => (lhs; whnf)) ?_; refine gN ?_; refine gM rfl rfl (by conv => (lhs; whnf)) ?_; refine gM rfl rfl (by conv => (lhs; whnf)) ?_; apply gw_d; exact det_mulU rfl rfl rfl rfl; refine gM rfl rfl (by conv => (lhs; whnf)) ?_; refine gO ?_; refine gc_ret ?_)
  (set_option pp.maxSteps 60 in set_option pp.deepTerms false in trace_state)
  refine gx_ret2 (u := .int _ _) (v := .int _ _) rfl rfl rfl (fun _ _ => ?_)
  rw [hA, hB, hC, hD]
  have hlo : x * y % 18446744073709551616 = x * y % 18446744073709551616 := rfl
  have hhi : ((A % 18446744073709551616 + (B % 18446744073709551616 + D % 18446744073709551616 / 4294967296) % 18446744073709551616 / 4294967296) % 18446744073709551616 + ((B % 18446744073709551616 + D % 18446744073709551616 / 4294967296) % 18446744073709551616 % 4294967296 + C % 18446744073709551616) % 18446744073709551616 / 4294967296) % 18446744073709551616 = x * y / 18446744073709551616 := by
    rw [hlaw]
    omega
  rw [hhi]
end Go.Proofs.YtljibjlkjelpbaaGreatDoor

/- The quotient of two words by one: it comes back. -/
namespace Go.Proofs.YtljibjlkjelpbaaGreatDoor
open Go.RowKit
set_option maxRecDepth 100000
set_option maxHeartbeats 8000000

section
variable {P : Program} {ops : Array Oper} {N : Nat} {w0 : World} {L : List Res} {e : Env} {o : Oper} {t : TypeId} {x y : Operand}
theorem pow_cast (k : Nat) : (2 : Int) ^ k = ((2 ^ k : Nat) : Int) := by
  rw [Int.natCast_pow]
  rfl
theorem det_quoU {i j : Nat} {yt : TypeId} (hi : i < 18446744073709551616) (hj : 0 < j) (hop : o.op = .binOp .quo t x y yt) (hw : wantedE N ops e o = true) (hx : ev N e x = .int .u64 (i : Int)) (hy : ev N e y = .int .u64 (j : Int)) : Det P ops N w0 L o e (.int .u64 ((i / j : Nat) : Int)) :=
  det_pure hw fun _ => by
    have h0 : ¬ (j : Int) = 0 := by omega
    have h1 : (i : Int).tdiv (j : Int) = ((i / j : Nat) : Int) := by rw [Int.tdiv_eq_ediv_of_nonneg (by omega)]; rfl
    have h2 : i / j ≤ i := Nat.div_le_self _ _
    have h : IntKind.u64.wrap ((i / j : Nat) : Int) = ((i / j : Nat) : Int) := by rw [u64w]; exact Int.emod_eq_of_lt (Int.natCast_nonneg _) (by have : ((i / j : Nat) : Int) ≤ (i : Int) := Int.ofNat_le.2 h2; omega)
    have h0' : ¬ j = 0 := by omega
    unfold execOp
    simp only [hop, hx, hy, eqGuard, binOp, Op.intDiv, h1]
    simp [h0']
    exact h
theorem rhat_lt {u d : Nat} (_hu : u < 18446744073709551616) (hd : 0 < d) : (u + (18446744073709551616 - u / d * d % 18446744073709551616)) % 18446744073709551616 < d := by
  have h1 : u / d * d ≤ u := Nat.div_mul_le_self _ _
  have h2 : u < u / d * d + d := by
    have := Nat.lt_div_mul_add (a := u) hd
    omega
  omega
theorem det_remU {i j : Nat} {yt : TypeId} (hj : 0 < j) (hop : o.op = .binOp .rem t x y yt) (hw : wantedE N ops e o = true) (hx : ev N e x = .int .u64 (i : Int)) (hy : ev N e y = .int .u64 (j : Int)) : Det P ops N w0 L o e (.int .u64 ((i % j : Nat) : Int)) :=
  det_pure hw fun _ => by
    have h1 : (i : Int).tmod (j : Int) = ((i % j : Nat) : Int) := by rw [Int.tmod_eq_emod_of_nonneg (by omega)]; rfl
    have h0' : ¬ j = 0 := by omega
    unfold execOp
    simp only [hop, hx, hy, eqGuard, binOp, Op.intDiv, h1]
    simp [h0']
theorem det_shlU {i s : Nat} {yt : TypeId} (hop : o.op = .binOp .shl t x y yt) (hw : wantedE N ops e o = true) (hx : ev N e x = .int .u64 (i : Int)) (hy : ev N e y = .int .u64 (s : Int)) : Det P ops N w0 L o e (.int .u64 ((i * 2 ^ (min s 64) % 18446744073709551616 : Nat) : Int)) :=
  det_pure hw fun w => by
    have h0 : ¬ (s : Int) < 0 := by omega
    have h1 : IntKind.u64.wrap ((i : Int) * 2 ^ (min s 64)) = ((i * 2 ^ (min s 64) % 18446744073709551616 : Nat) : Int) := by
      rw [u64w, pow_cast, Int.natCast_emod, Int.natCast_mul]
      rfl
    have h2 : IntKind.u64.bits = 64 := rfl
    unfold execOp
    simp only [hop, hx, hy, binOp, Op.shift, eqGuard, if_neg h0, h2, Int.toNat_natCast, h1]
    rfl
theorem det_shrU {i s : Nat} {yt : TypeId} (hop : o.op = .binOp .shr t x y yt) (hw : wantedE N ops e o = true) (hx : ev N e x = .int .u64 (i : Int)) (hy : ev N e y = .int .u64 (s : Int)) : Det P ops N w0 L o e (.int .u64 ((i / 2 ^ (min s 64) : Nat) : Int)) :=
  det_pure hw fun w => by
    have h0 : ¬ (s : Int) < 0 := by omega
    have h1 : ((i : Int).fdiv (2 ^ (min s 64))) = ((i / 2 ^ (min s 64) : Nat) : Int) := by rw [pow_cast]; exact fdiv_nat _ _
    have h2 : IntKind.u64.bits = 64 := rfl
    unfold execOp
    simp only [hop, hx, hy, binOp, Op.shift, eqGuard, if_neg h0, h2, Int.toNat_natCast, h1]
    rfl
end
theorem l8_low_all : ((List.range 256).all fun z => Nat.beq z 0 || decide (2 ^ l8 z ≤ 2 * z)) = true := by kernel_rfl
theorem l8_low {z : Nat} (h : z < 256) (h0 : 0 < z) : 2 ^ l8 z ≤ 2 * z := by
  have := List.all_eq_true.1 l8_low_all z (List.mem_range.2 h)
  rw [Bool.or_eq_true] at this
  rcases this with h1 | h1
  · have := Nat.eq_of_beq_eq_true h1; omega
  · exact of_decide_eq_true h1
theorem up_low {z k a b : Nat} (hb : b = 2 ^ a) (h : 2 ^ k ≤ 2 * (z / b)) : 2 ^ (k + a) ≤ 2 * z := by
  rw [Nat.pow_add, ← hb]
  have h1 := Nat.mul_le_mul_right b h
  have h2 : z / b * b ≤ z := Nat.div_mul_le_self _ _
  have h3 : 2 * (z / b) * b = 2 * (z / b * b) := Nat.mul_assoc _ _ _
  omega
theorem l64_low {z : Nat} (h : z < 18446744073709551616) (h0 : 0 < z) : 2 ^ l64 z ≤ 2 * z := by
  have s16 : ∀ z, z < 65536 → 0 < z → 2 ^ l16 z ≤ 2 * z := fun z h h0 => by
    unfold l16
    split
    · exact up_low (by decide) (l8_low (by omega) (by omega))
    · exact l8_low (by omega) h0
  have s32 : ∀ z, z < 4294967296 → 0 < z → 2 ^ l32 z ≤ 2 * z := fun z h h0 => by
    unfold l32
    split
    · exact up_low (by decide) (s16 _ (by omega) (by omega))
    · exact s16 _ (by omega) h0
  unfold l64
  split
  · exact up_low (by decide) (s32 _ (by omega) (by omega))
  · exact s32 _ (by omega) h0
theorem lz64_ok (w : World) (x : Nat) (hx : x < 18446744073709551616) : Ok Tryz.prog 132 [.int .u64 (x : Int)].toArray w fun r _ => r = .int .i64 ((64 - l64 x : Nat) : Int) := by
  have hl := (l64_lt hx).2
  refine ok_enter Tryz.func132 rfl Tryz.ntmps132 rfl ?_
  (repeat (first | (apply gw_d; (first | exact det_not rfl | (apply of_move; exact rfl; first | exact det_m rfl rfl (by conv => (lhs; whnf))) | (apply of_field; exact rfl; first | exact w_field rfl rfl rfl) | (apply of_load; exact rfl; first | exact w_load_box rfl rfl rfl .here rfl | exact w_load_box rfl rfl rfl (.there .here) rfl | exact w_load_at rfl rfl rfl (by assumption) (by assumption) | exact w_load_fld rfl rfl rfl (by assumption) (by assumption) | exact w_load_box rfl rfl rfl (.there (.there .here)) rfl | exact w_load_box rfl rfl rfl (.there (.there (.there .here))) rfl | exact w_load_box rfl rfl rfl (.there (.there (.there (.there .here)))) rfl | exact w_load_boxN rfl rfl rfl .here rfl | exact w_load_boxN rfl rfl rfl (.there .here) rfl | exact w_load_boxN rfl rfl rfl (.there (.there .here)) rfl | exact w_load_boxN rfl rfl rfl (.there (.there (.there .here))) rfl | exact w_load_boxN rfl rfl rfl (.there (.there (.there (.there .here)))) rfl | exact w_load_elem rfl rfl rfl (by assumption) (by assumption) (by rfl) | exact w_load_part rfl rfl rfl .here rfl rfl | exact w_load_part rfl rfl rfl (.there .here) rfl rfl | exact w_load_part rfl rfl rfl (.there (.there .here)) rfl rfl | exact w_load_part rfl rfl rfl (.there (.there (.there .here))) rfl rfl | exact w_load_part rfl rfl rfl (.there (.there (.there (.there .here)))) rfl rfl) | (apply of_bin; exact rfl; first | exact det_cmp rfl rfl rfl rfl rfl | exact det_ar rfl rfl rfl rfl rfl (by omega) | exact w_eq2 rfl rfl rfl rfl | exact w_ne2 rfl rfl rfl rfl | exact det_rem rfl rfl rfl rfl (by omega) (by omega) | exact det_quo rfl rfl rfl rfl (by omega) (by omega) (by omega) | exact det_seq rfl rfl rfl rfl | exact det_sne rfl rfl rfl rfl | exact det_beq rfl rfl rfl rfl rfl | exact det_bne rfl rfl rfl rfl rfl) | exact w_call rfl rfl (fun w _ => len64_ok w x hx) rfl | (apply of_call; exact rfl; first | exact w_call rfl rfl (fun w _ => len64_ok w x hx) rfl | exact w_len rfl rfl rfl | exact w_len_str rfl rfl rfl | exact w_max rfl rfl rfl rfl | exact w_min rfl rfl rfl rfl) | (apply of_index; exact rfl; first | exact w_index rfl rfl rfl rfl (by first | with_reducible exact rfl | with_reducible exact castA _ | with_reducible exact castS (by omega) | with_reducible exact castM _ _ | with_reducible exact cast0 | with_reducible exact castC _ _ | with_reducible exact castN _ _ | with_reducible exact castR _ _ | with_reducible exact castB _ | with_reducible exact cast1 | exact rfl) (by first | omega | exact Nat.mod_lt _ (by omega))) | (apply of_un; exact rfl; first | exact det_not_dec rfl rfl rfl | exact det_not_ rfl rfl rfl) | (apply of_pick; exact rfl; first | exact det_pick_t (v := .bool _) rfl rfl rfl rfl | exact det_pick_f (v := .bool _) rfl rfl rfl rfl) | (apply of_extract; exact rfl; first | exact det_extract rfl rfl rfl (by conv => (lhs; whnf))) | (apply of_cut; exact rfl; first | exact w_cut_hi rfl rfl rfl rfl (by first | with_reducible exact rfl | with_reducible exact castA _ | with_reducible exact castS (by omega) | with_reducible exact castM _ _ | with_reducible exact cast0 | with_reducible exact castC _ _ | with_reducible exact castN _ _ | with_reducible exact castR _ _ | with_reducible exact castB _ | with_reducible exact cast1 | exact rfl) (by omega)) | (apply of_sidx; exact rfl; first | exact w_sidx rfl rfl rfl rfl (by first | with_reducible exact rfl | with_reducible exact castA _ | with_reducible exact castS (by omega) | with_reducible exact castM _ _ | with_reducible exact cast0 | with_reducible exact castC _ _ | with_reducible exact castN _ _ | with_reducible exact castR _ _ | with_reducible exact castB _ | with_reducible exact cast1 | exact rfl) (by first | omega | exact Nat.mod_lt _ (by omega))))) | (apply gd_d; (first | exact det_not rfl | (apply of_move; exact rfl; first | exact det_m rfl rfl (by conv => (lhs; whnf))) | (apply of_field; exact rfl; first | exact w_field rfl rfl rfl) | (apply of_load; exact rfl; first | exact w_load_box rfl rfl rfl .here rfl | exact w_load_box rfl rfl rfl (.there .here) rfl | exact w_load_at rfl rfl rfl (by assumption) (by assumption) | exact w_load_fld rfl rfl rfl (by assumption) (by assumption) | exact w_load_box rfl rfl rfl (.there (.there .here)) rfl | exact w_load_box rfl rfl rfl (.there (.there (.there .here))) rfl | exact w_load_box rfl rfl rfl (.there (.there (.there (.there .here)))) rfl | exact w_load_boxN rfl rfl rfl .here rfl | exact w_load_boxN rfl rfl rfl (.there .here) rfl | exact w_load_boxN rfl rfl rfl (.there (.there .here)) rfl | exact w_load_boxN rfl rfl rfl (.there (.there (.there .here))) rfl | exact w_load_boxN rfl rfl rfl (.there (.there (.there (.there .here)))) rfl | exact w_load_elem rfl rfl rfl (by assumption) (by assumption) (by rfl) | exact w_load_part rfl rfl rfl .here rfl rfl | exact w_load_part rfl rfl rfl (.there .here) rfl rfl | exact w_load_part rfl rfl rfl (.there (.there .here)) rfl rfl | exact w_load_part rfl rfl rfl (.there (.there (.there .here))) rfl rfl | exact w_load_part rfl rfl rfl (.there (.there (.there (.there .here)))) rfl rfl) | (apply of_bin; exact rfl; first | exact det_cmp rfl rfl rfl rfl rfl | exact det_ar rfl rfl rfl rfl rfl (by omega) | exact w_eq2 rfl rfl rfl rfl | exact w_ne2 rfl rfl rfl rfl | exact det_rem rfl rfl rfl rfl (by omega) (by omega) | exact det_quo rfl rfl rfl rfl (by omega) (by omega) (by omega) | exact det_seq rfl rfl rfl rfl | exact det_sne rfl rfl rfl rfl | exact det_beq rfl rfl rfl rfl rfl | exact det_bne rfl rfl rfl rfl rfl) | exact w_call rfl rfl (fun w _ => len64_ok w x hx) rfl | (apply of_call; exact rfl; first | exact w_call rfl rfl (fun w _ => len64_ok w x hx) rfl | exact w_len rfl rfl rfl | exact w_len_str rfl rfl rfl | exact w_max rfl rfl rfl rfl | exact w_min rfl rfl rfl rfl) | (apply of_index; exact rfl; first | exact w_index rfl rfl rfl rfl (by first | with_reducible exact rfl | with_reducible exact castA _ | with_reducible exact castS (by omega) | with_reducible exact castM _ _ | with_reducible exact cast0 | with_reducible exact castC _ _ | with_reducible exact castN _ _ | with_reducible exact castR _ _ | with_reducible exact castB _ | with_reducible exact cast1 | exact rfl) (by first | omega | exact Nat.mod_lt _ (by omega))) | (apply of_un; exact rfl; first | exact det_not_dec rfl rfl rfl | exact det_not_ rfl rfl rfl) | (apply of_pick; exact rfl; first | exact det_pick_t (v := .bool _) rfl rfl rfl rfl | exact det_pick_f (v := .bool _) rfl rfl rfl rfl) | (apply of_extract; exact rfl; first | exact det_extract rfl rfl rfl (by conv => (lhs; whnf))) | (apply of_cut; exact rfl; first | exact w_cut_hi rfl rfl rfl rfl (by first | with_reducible exact rfl | with_reducible exact castA _ | with_reducible exact castS (by omega) | with_reducible exact castM _ _ | with_reducible exact cast0 | with_reducible exact castC _ _ | with_reducible exact castN _ _ | with_reducible exact castR _ _ | with_reducible exact castB _ | with_reducible exact cast1 | exact rfl) (by omega)) | (apply of_sidx; exact rfl; first | exact w_sidx rfl rfl rfl rfl (by first | with_reducible exact rfl | with_reducible exact castA _ | with_reducible exact castS (by omega) | with_reducible exact castM _ _ | with_reducible exact cast0 | with_reducible exact castC _ _ | with_reducible exact castN _ _ | with_reducible exact castR _ _ | with_reducible exact castB _ | with_reducible exact cast1 | exact rfl) (by first | omega | exact Nat.mod_lt _ (by omega))))) | refine gw_nil ?_ | refine gx_next ?_ | refine gc_seq ?_ | refine gc_region ?_ | refine gc_block ?_ | refine gc_skip ?_ | refine gc_exit ?_ | refine gc_ret ?_ | refine gx_block ?_ | refine gx_block_exit ?_ | refine gx_block_ret ?_ | refine gx_then_ret ?_ | refine gx_then_exit ?_ | refine gx_block_other rfl ?_ | refine gd_nil ?_))
  refine gx_ret1 (v := .int _ _) rfl rfl (fun _ _ => ?_)
  congr 1
  omega
/-- The divisor, moved up. -/
theorem norm_y {y : Nat} (h : y < 18446744073709551616) (h0 : 0 < y) : y * 2 ^ (64 - l64 y) < 18446744073709551616 ∧ 9223372036854775808 ≤ y * 2 ^ (64 - l64 y) := by
  obtain ⟨h1, h2⟩ := l64_lt h
  have h3 := l64_low h h0
  have hp : 2 ^ l64 y * 2 ^ (64 - l64 y) = 18446744073709551616 := by
    rw [← Nat.pow_add, show l64 y + (64 - l64 y) = 64 by omega]
  have hpos : 0 < 2 ^ (64 - l64 y) := Nat.two_pow_pos _
  have a := Nat.mul_lt_mul_of_pos_right h1 hpos
  have b := Nat.mul_le_mul_right (2 ^ (64 - l64 y)) h3
  have c : 2 * y * 2 ^ (64 - l64 y) = 2 * (y * 2 ^ (64 - l64 y)) := Nat.mul_assoc _ _ _
  omega
end Go.Proofs.YtljibjlkjelpbaaGreatDoor

/- The quotient of two words by one: it comes back. -/
namespace Go.Proofs.YtljibjlkjelpbaaGreatDoor
open Go.RowKit
set_option maxRecDepth 100000
set_option maxHeartbeats 8000000

theorem div64_ok (w : World) (hi lo y : Nat) (hlo : lo < 18446744073709551616) (hy : y < 18446744073709551616) (h : hi < y) : OkM Tryz.prog 117 [.int .u64 (hi : Int), .int .u64 (lo : Int), .int .u64 (y : Int)].toArray w (fun x : Nat × Nat => .tuple #[.int .u64 (x.1 : Int), .int .u64 (x.2 : Int)]) (fun _ => []) := by
  unfold OkM
  refine ok_enter Tryz.func117 rfl Tryz.ntmps117 rfl ?_
  focus (refine gc_seq ?_; refine gc_region ?_; refine gM rfl rfl (by conv => (lhs; whnf)) ?_; refine gM rfl rfl (by conv => (lhs; whnf)) ?_; refine gO ?_; refine gc_seq ?_; refine gc_seq ?_; refine gc_region ?_; refine gM rfl rfl (by conv => (lhs; whnf)) ?_; refine gC rfl rfl rfl rfl rfl ?_; refine gO ?_)
  refine gc_if_dec rfl (fun h1 => by omega) (fun _ => ?_)
  focus (refine gc_skip ?_; refine gx_next ?_; refine gc_seq ?_; refine gc_seq ?_; refine gc_region ?_; refine gM rfl rfl (by conv => (lhs; whnf)) ?_; refine gM rfl rfl (by conv => (lhs; whnf)) ?_; refine gC rfl rfl rfl rfl rfl ?_; refine gO ?_)
  refine gc_if_dec rfl (fun h1 => by omega) (fun _ => ?_)
  focus (refine gc_skip ?_; refine gx_next ?_; refine gc_seq ?_; refine gc_seq ?_; refine gc_region ?_; refine gM rfl rfl (by conv => (lhs; whnf)) ?_; refine gC rfl rfl rfl rfl rfl ?_; refine gO ?_)
  refine gc_if_dec rfl (fun h1 => ?_) (fun h1 => ?_)
  · focus (refine gc_seq ?_)
    refine gc_draw2 7 (by kernel_rfl) (by kernel_rfl) ?_
    focus (apply gd_d; exact det_m rfl rfl (by conv => (lhs; whnf)); apply gd_d; exact det_m rfl rfl (by conv => (lhs; whnf)); apply gd_d; exact det_quoU hlo (by omega) rfl rfl rfl rfl; apply gd_d; exact det_m rfl rfl (by conv => (lhs; whnf)); apply gd_d; exact det_m rfl rfl (by conv => (lhs; whnf)); apply gd_d; exact det_remU (by omega) rfl rfl rfl rfl; apply gd_d; exact det_m rfl rfl (by conv => (lhs; whnf)); refine gd_nil ?_; refine gM rfl rfl (by conv => (lhs; whnf)) ?_; refine gO ?_; refine gc_ret ?_; refine gx_then_ret ?_)
    exact gx_ret2 (u := .int _ _) (v := .int _ _) rfl rfl rfl (fun w' s => ⟨(lo / y, lo % y), rfl, trivial⟩)
  obtain ⟨n1, n2⟩ := norm_y hy (by omega)
  have hl := (l64_lt hy).2
  have hs : 64 - l64 y ≤ 64 := by omega
  have hsw : IntKind.u64.wrap ((64 - l64 y : Nat) : Int) = ((64 - l64 y : Nat) : Int) := by rw [u64w]; omega
  have hY : y * 2 ^ (min (64 - l64 y) 64) % 18446744073709551616 = y * 2 ^ (64 - l64 y) := by rw [Nat.min_eq_left hs]; omega
  generalize hsv : 64 - l64 y = s at *
  focus (refine gc_skip ?_; refine gx_next ?_; refine gc_seq ?_; refine gc_region ?_; refine gM rfl rfl (by conv => (lhs; whnf)) ?_; apply gw_d; exact w_call rfl rfl (fun w _ => by have := lz64_ok w y hy; rw [hsv] at this; exact this) rfl; apply gw_d; exact det_conv rfl rfl rfl hsw; refine gM rfl rfl (by conv => (lhs; whnf)) ?_; refine gN ?_; refine gM rfl rfl (by conv => (lhs; whnf)) ?_; refine gM rfl rfl (by conv => (lhs; whnf)) ?_; apply gw_d; exact det_eq (det_shlU rfl rfl rfl rfl) (by rw [hY]); refine gM rfl rfl (by conv => (lhs; whnf)) ?_; refine gN ?_; refine gM rfl rfl (by conv => (lhs; whnf)) ?_)
  generalize y * 2 ^ s = Y at *
  have hd0 : 0 < Y / 4294967296 := by omega
  have hd1 : Y / 4294967296 < 4294967296 := by omega
  focus (apply gw_d; exact det_shr rfl rfl rfl rfl (by decide) (fdiv_nat _ 4294967296); refine gM rfl rfl (by conv => (lhs; whnf)) ?_; refine gN ?_; refine gM rfl rfl (by conv => (lhs; whnf)) ?_; apply gw_d; exact det_andM (by omega) rfl rfl rfl rfl; refine gM rfl rfl (by conv => (lhs; whnf)) ?_; refine gN ?_; refine gM rfl rfl (by conv => (lhs; whnf)) ?_; refine gM rfl rfl (by conv => (lhs; whnf)) ?_; apply gw_d; exact det_shlU rfl rfl rfl rfl; refine gM rfl rfl (by conv => (lhs; whnf)) ?_; refine gM rfl rfl (by conv => (lhs; whnf)) ?_; apply gw_d; exact det_subU (by omega) rfl rfl rfl rfl; apply gw_d; exact det_shrU rfl rfl rfl rfl; apply gw_d; exact det_orU rfl rfl rfl rfl; refine gM rfl rfl (by conv => (lhs; whnf)) ?_; refine gN ?_; refine gM rfl rfl (by conv => (lhs; whnf)) ?_; refine gM rfl rfl (by conv => (lhs; whnf)) ?_; apply gw_d; exact det_shlU rfl rfl rfl rfl; refine gM rfl rfl (by conv => (lhs; whnf)) ?_; refine gN ?_; refine gM rfl rfl (by conv => (lhs; whnf)) ?_; apply gw_d; exact det_shr rfl rfl rfl rfl (by decide) (fdiv_nat _ 4294967296); refine gM rfl rfl (by conv => (lhs; whnf)) ?_; refine gN ?_; refine gM rfl rfl (by conv => (lhs; whnf)) ?_; apply gw_d; exact det_andM (by omega) rfl rfl rfl rfl; refine gM rfl rfl (by conv => (lhs; whnf)) ?_; refine gN ?_; refine gM rfl rfl (by conv => (lhs; whnf)) ?_; refine gM rfl rfl (by conv => (lhs; whnf)) ?_)
  generalize hu : orW (hi * 2 ^ min s 64 % 18446744073709551616) (lo / 2 ^ min ((64 + (18446744073709551616 - s)) % 18446744073709551616) 64) = U at *
  have hU : U < 18446744073709551616 := by rw [← hu]; exact orW_lt _ _
  generalize lo * 2 ^ min s 64 % 18446744073709551616 = T at *
  generalize Y / 4294967296 = D at *
  obtain ⟨M, hM⟩ : ∃ M : Nat, M = 4294967296 := ⟨_, rfl⟩
  have hdM : D < M := by omega
  generalize Y % 4294967296 = E0 at *
  focus (apply gw_d; exact det_quoU hU hd0 rfl rfl rfl rfl; refine gM rfl rfl (by conv => (lhs; whnf)) ?_; refine gN ?_; refine gM rfl rfl (by conv => (lhs; whnf)) ?_; refine gM rfl rfl (by conv => (lhs; whnf)) ?_; refine gM rfl rfl (by conv => (lhs; whnf)) ?_; apply gw_d; exact det_mulU rfl rfl rfl rfl; apply gw_d; exact det_subU (by omega) rfl rfl rfl rfl; refine gM rfl rfl (by conv => (lhs; whnf)) ?_; refine gO ?_; refine gc_seq ?_; refine gc_block ?_)
  have hR := rhat_lt hU hd0
  generalize U / D = Q at *
  generalize (U + (18446744073709551616 - Q * D % 18446744073709551616)) % 18446744073709551616 = R0 at *
  refine gc_loopK (σ := Nat × Nat) [67, 68, 69, 70, 71, 72, 73, 74, 75, 76, 77, 78, 79, 80, 15, 81, 82, 83, 16, 84, 85] (fun s => [(15, .int .u64 (s.1 : Int)), (16, .int .u64 (s.2 : Int))]) (fun s => s.2 < M) (fun s => M - s.2) (Q, R0) (by dsimp only; omega) ⟨rfl, rfl, trivial⟩ ?_
  rintro ⟨q, r⟩ base hr
  dsimp only at hr ⊢
  focus (refine gc_seq ?_; refine gc_seq ?_; refine gc_region ?_; refine gM rfl rfl (by conv => (lhs; whnf)) ?_; refine gC rfl rfl rfl rfl rfl ?_; refine gM rfl rfl (by conv => (lhs; whnf)) ?_; refine gw_guard_dec rfl rfl (fun _ => ?_) (fun _ => ?_); refine gU rfl ?_; refine gU rfl ?_; refine gU rfl ?_; refine gU rfl ?_; refine gU rfl ?_; refine gU rfl ?_; refine gU rfl ?_; refine gU rfl ?_; apply gw_d; exact det_pick_t (v := .bool _) rfl rfl rfl rfl; refine gO ?_; refine gc_if_true rfl ?_; refine gc_skip ?_; refine gx_next ?_; refine gc_block ?_; refine gc_seq ?_; refine gc_region ?_; refine gM rfl rfl (by conv => (lhs; whnf)) ?_; apply gw_d; exact det_subU (j := 1) (by omega) rfl rfl rfl rfl; refine gM rfl rfl (by conv => (lhs; whnf)) ?_; refine gN ?_; refine gM rfl rfl (by conv => (lhs; whnf)) ?_; refine gM rfl rfl (by conv => (lhs; whnf)) ?_; apply gw_d; exact det_addU rfl rfl rfl rfl; refine gM rfl rfl (by conv => (lhs; whnf)) ?_; refine gN ?_; refine gM rfl rfl (by conv => (lhs; whnf)) ?_; refine gC rfl rfl rfl rfl rfl ?_; refine gO ?_; refine gc_if_dec rfl (fun _ => ?_) (fun _ => ?_); refine gc_exit ?_; refine gx_block_other rfl ?_; refine gx_then_exit ?_; refine gx_block_exit ?_; refine gx_next ?_; refine gc_seq ?_; refine gc_region ?_; refine gM rfl rfl (by conv => (lhs; whnf)) ?_; apply gw_d; exact det_mulU rfl rfl rfl rfl; refine gM rfl rfl (by conv => (lhs; whnf)) ?_; apply gw_d; exact det_addU rfl rfl rfl rfl; refine gM rfl rfl (by conv => (lhs; whnf)) ?_; refine gM rfl rfl (by conv => (lhs; whnf)) ?_; apply gw_d; exact det_mulU rfl rfl rfl rfl; rotate_left; refine gc_skip ?_; refine gx_block ?_; rotate_left; refine gM rfl rfl (by conv => (lhs; whnf)) ?_; refine gM rfl rfl (by conv => (lhs; whnf)) ?_; apply gw_d; exact det_mulU rfl rfl rfl rfl; refine gM rfl rfl (by conv => (lhs; whnf)) ?_; apply gw_d; exact det_mulU rfl rfl rfl rfl; refine gM rfl rfl (by conv => (lhs; whnf)) ?_; apply gw_d; exact det_addU rfl rfl rfl rfl; refine gC rfl rfl rfl rfl rfl ?_; apply gw_d; exact det_pick_f (v := .bool _) rfl rfl rfl rfl; refine gO ?_; refine gc_if_dec rfl (fun _ => ?_) (fun _ => ?_); refine gc_skip ?_; refine gx_next ?_; refine gc_block ?_; refine gc_seq ?_; refine gc_region ?_; refine gM rfl rfl (by conv => (lhs; whnf)) ?_; apply gw_d; exact det_subU (j := 1) (by omega) rfl rfl rfl rfl; refine gM rfl rfl (by conv => (lhs; whnf)) ?_; refine gN ?_; refine gM rfl rfl (by conv => (lhs; whnf)) ?_; refine gM rfl rfl (by conv => (lhs; whnf)) ?_; apply gw_d; exact det_addU rfl rfl rfl rfl; refine gM rfl rfl (by conv => (lhs; whnf)) ?_; refine gN ?_; refine gM rfl rfl (by conv => (lhs; whnf)) ?_; refine gC rfl rfl rfl rfl rfl ?_; refine gO ?_; refine gc_if_dec rfl (fun _ => ?_) (fun _ => ?_); refine gc_exit ?_; refine gx_block_other rfl ?_; refine gx_then_exit ?_; refine gx_block_exit ?_; refine gx_next ?_; refine gc_seq ?_; refine gc_region ?_; refine gM rfl rfl (by conv => (lhs; whnf)) ?_; apply gw_d; exact det_mulU rfl rfl rfl rfl; refine gM rfl rfl (by conv => (lhs; whnf)) ?_; apply gw_d; exact det_addU rfl rfl rfl rfl; refine gM rfl rfl (by conv => (lhs; whnf)) ?_; refine gM rfl rfl (by conv => (lhs; whnf)) ?_; apply gw_d; exact det_mulU rfl rfl rfl rfl; rotate_left; refine gc_skip ?_; refine gx_block ?_; rotate_left; refine gc_exit ?_; refine gx_then_exit ?_; refine gx_then_exit ?_; refine gx_block_exit ?_; refine gx_next ?_; refine gc_seq ?_; refine gc_region ?_; refine gM rfl rfl (by conv => (lhs; whnf)) ?_; apply gw_d; exact det_mulU rfl rfl rfl rfl; refine gM rfl rfl (by conv => (lhs; whnf)) ?_; apply gw_d; exact det_addU rfl rfl rfl rfl; refine gM rfl rfl (by conv => (lhs; whnf)) ?_; refine gM rfl rfl (by conv => (lhs; whnf)) ?_; apply gw_d; exact det_mulU rfl rfl rfl rfl; rotate_left)
  · focus (apply gw_d; exact det_subU (Nat.le_of_lt (Nat.mod_lt _ (by omega))) rfl rfl rfl rfl; refine gM rfl rfl (by conv => (lhs; whnf)) ?_; refine gN ?_; refine gM rfl rfl (by conv => (lhs; whnf)) ?_; refine gM rfl rfl (by conv => (lhs; whnf)) ?_; apply gw_d; exact det_quoU (Nat.mod_lt _ (by omega)) hd0 rfl rfl rfl rfl; refine gM rfl rfl (by conv => (lhs; whnf)) ?_; refine gN ?_; refine gM rfl rfl (by conv => (lhs; whnf)) ?_; refine gM rfl rfl (by conv => (lhs; whnf)) ?_; refine gM rfl rfl (by conv => (lhs; whnf)) ?_; apply gw_d; exact det_mulU rfl rfl rfl rfl; apply gw_d; exact det_subU (Nat.le_of_lt (Nat.mod_lt _ (by omega))) rfl rfl rfl rfl; refine gM rfl rfl (by conv => (lhs; whnf)) ?_; refine gO ?_; refine gc_seq ?_; refine gc_block ?_)
    refine gc_loopK (σ := Nat × Nat) [102, 103, 104, 105, 106, 107, 108, 109, 110, 111, 112, 113, 114, 115, 18, 116, 117, 118, 16, 119, 120] (fun s => [(18, .int .u64 (s.1 : Int)), (16, .int .u64 (s.2 : Int))]) (fun s => s.2 < M) (fun s => M - s.2) (_, _) (Nat.lt_trans (rhat_lt (Nat.mod_lt _ (by omega)) hd0) hdM) ⟨rfl, rfl, trivial⟩ ?_
    rintro ⟨q2, r2⟩ base2 hr2
    dsimp only at hr2 ⊢
    focus (refine gc_seq ?_; refine gc_seq ?_; refine gc_region ?_; refine gM rfl rfl (by conv => (lhs; whnf)) ?_; refine gC rfl rfl rfl rfl rfl ?_; refine gM rfl rfl (by conv => (lhs; whnf)) ?_; refine gw_guard_dec rfl rfl (fun _ => ?_) (fun _ => ?_); refine gU rfl ?_; refine gU rfl ?_; refine gU rfl ?_; refine gU rfl ?_; refine gU rfl ?_; refine gU rfl ?_; refine gU rfl ?_; refine gU rfl ?_; apply gw_d; exact det_pick_t (v := .bool _) rfl rfl rfl rfl; refine gO ?_; refine gc_if_true rfl ?_; refine gc_skip ?_; refine gx_next ?_; refine gc_block ?_; refine gc_seq ?_; refine gc_region ?_; refine gM rfl rfl (by conv => (lhs; whnf)) ?_; apply gw_d; exact det_subU (j := 1) (by omega) rfl rfl rfl rfl; refine gM rfl rfl (by conv => (lhs; whnf)) ?_; refine gN ?_; refine gM rfl rfl (by conv => (lhs; whnf)) ?_; refine gM rfl rfl (by conv => (lhs; whnf)) ?_; apply gw_d; exact det_addU rfl rfl rfl rfl; refine gM rfl rfl (by conv => (lhs; whnf)) ?_; refine gN ?_; refine gM rfl rfl (by conv => (lhs; whnf)) ?_; refine gC rfl rfl rfl rfl rfl ?_; refine gO ?_; refine gc_if_dec rfl (fun _ => ?_) (fun _ => ?_); refine gc_exit ?_; refine gx_block_other rfl ?_; refine gx_then_exit ?_; refine gx_block_exit ?_; refine gx_next ?_; refine gc_seq ?_; refine gc_region ?_; refine gM rfl rfl (by conv => (lhs; whnf)) ?_; apply gw_d; exact det_mulU rfl rfl rfl rfl; refine gM rfl rfl (by conv => (lhs; whnf)) ?_; apply gw_d; exact det_addU rfl rfl rfl rfl; refine gM rfl rfl (by conv => (lhs; whnf)) ?_; apply gw_d; exact det_mulU rfl rfl rfl rfl; refine gM rfl rfl (by conv => (lhs; whnf)) ?_; apply gw_d; exact det_addU rfl rfl rfl rfl; refine gM rfl rfl (by conv => (lhs; whnf)) ?_; refine gM rfl rfl (by conv => (lhs; whnf)) ?_; apply gw_d; exact det_mulU rfl rfl rfl rfl; rotate_left; refine gc_skip ?_; refine gx_block ?_; rotate_left; refine gM rfl rfl (by conv => (lhs; whnf)) ?_; refine gM rfl rfl (by conv => (lhs; whnf)) ?_; apply gw_d; exact det_mulU rfl rfl rfl rfl; refine gM rfl rfl (by conv => (lhs; whnf)) ?_; apply gw_d; exact det_mulU rfl rfl rfl rfl; refine gM rfl rfl (by conv => (lhs; whnf)) ?_; apply gw_d; exact det_addU rfl rfl rfl rfl; refine gC rfl rfl rfl rfl rfl ?_; apply gw_d; exact det_pick_f (v := .bool _) rfl rfl rfl rfl; refine gO ?_; refine gc_if_dec rfl (fun _ => ?_) (fun _ => ?_); refine gc_skip ?_; refine gx_next ?_; refine gc_block ?_; refine gc_seq ?_; refine gc_region ?_; refine gM rfl rfl (by conv => (lhs; whnf)) ?_; apply gw_d; exact det_subU (j := 1) (by omega) rfl rfl rfl rfl; refine gM rfl rfl (by conv => (lhs; whnf)) ?_; refine gN ?_; refine gM rfl rfl (by conv => (lhs; whnf)) ?_; refine gM rfl rfl (by conv => (lhs; whnf)) ?_; apply gw_d; exact det_addU rfl rfl rfl rfl; refine gM rfl rfl (by conv => (lhs; whnf)) ?_; refine gN ?_; refine gM rfl rfl (by conv => (lhs; whnf)) ?_; refine gC rfl rfl rfl rfl rfl ?_; refine gO ?_; refine gc_if_dec rfl (fun _ => ?_) (fun _ => ?_); refine gc_exit ?_; refine gx_block_other rfl ?_; refine gx_then_exit ?_; refine gx_block_exit ?_; refine gx_next ?_; refine gc_seq ?_; refine gc_region ?_; refine gM rfl rfl (by conv => (lhs; whnf)) ?_; apply gw_d; exact det_mulU rfl rfl rfl rfl; refine gM rfl rfl (by conv => (lhs; whnf)) ?_; apply gw_d; exact det_addU rfl rfl rfl rfl; refine gM rfl rfl (by conv => (lhs; whnf)) ?_; apply gw_d; exact det_mulU rfl rfl rfl rfl; refine gM rfl rfl (by conv => (lhs; whnf)) ?_; apply gw_d; exact det_addU rfl rfl rfl rfl; refine gM rfl rfl (by conv => (lhs; whnf)) ?_; refine gM rfl rfl (by conv => (lhs; whnf)) ?_; apply gw_d; exact det_mulU rfl rfl rfl rfl; rotate_left; refine gc_skip ?_; refine gx_block ?_; rotate_left; refine gc_exit ?_; refine gx_then_exit ?_; refine gx_then_exit ?_; refine gx_block_exit ?_; refine gx_next ?_; refine gc_seq ?_; refine gc_region ?_; refine gM rfl rfl (by conv => (lhs; whnf)) ?_; apply gw_d; exact det_mulU rfl rfl rfl rfl; refine gM rfl rfl (by conv => (lhs; whnf)) ?_; apply gw_d; exact det_addU rfl rfl rfl rfl; refine gM rfl rfl (by conv => (lhs; whnf)) ?_; apply gw_d; exact det_mulU rfl rfl rfl rfl; refine gM rfl rfl (by conv => (lhs; whnf)) ?_; apply gw_d; exact det_addU rfl rfl rfl rfl; refine gM rfl rfl (by conv => (lhs; whnf)) ?_; refine gM rfl rfl (by conv => (lhs; whnf)) ?_; apply gw_d; exact det_mulU rfl rfl rfl rfl; rotate_left)
    · focus (apply gw_d; exact det_subU (Nat.le_of_lt (Nat.mod_lt _ (by omega))) rfl rfl rfl rfl; refine gM rfl rfl (by conv => (lhs; whnf)) ?_; apply gw_d; exact det_shrU rfl rfl rfl rfl; refine gM rfl rfl (by conv => (lhs; whnf)) ?_; refine gM rfl rfl (by conv => (lhs; whnf)) ?_; refine gO ?_; refine gc_ret ?_)
      exact gx_ret2 (u := .int _ _) (v := .int _ _) rfl rfl rfl (fun w' s => ⟨(_, _), rfl, trivial⟩)
    · have h1 : (r2 + D) % 18446744073709551616 < M := by omega
      have h2 : M - (r2 + D) % 18446744073709551616 < M - r2 := by omega
      exact gx_round (_, (r2 + D) % 18446744073709551616) h1 h2 (by repeat (first | with_reducible exact Keeps.refl | refine Keeps.upd rfl ?_ | refine Keeps.sets rfl ?_ | refine Keeps.havoc rfl ?_)) ⟨rfl, rfl, trivial⟩ (Sub.all _)
    · focus (apply gw_d; exact det_subU (Nat.le_of_lt (Nat.mod_lt _ (by omega))) rfl rfl rfl rfl; refine gM rfl rfl (by conv => (lhs; whnf)) ?_; apply gw_d; exact det_shrU rfl rfl rfl rfl; refine gM rfl rfl (by conv => (lhs; whnf)) ?_; refine gM rfl rfl (by conv => (lhs; whnf)) ?_; refine gO ?_; refine gc_ret ?_)
      exact gx_ret2 (u := .int _ _) (v := .int _ _) rfl rfl rfl (fun w' s => ⟨(_, _), rfl, trivial⟩)
    · have h1 : (r2 + D) % 18446744073709551616 < M := by omega
      have h2 : M - (r2 + D) % 18446744073709551616 < M - r2 := by omega
      exact gx_round (_, (r2 + D) % 18446744073709551616) h1 h2 (by repeat (first | with_reducible exact Keeps.refl | refine Keeps.upd rfl ?_ | refine Keeps.sets rfl ?_ | refine Keeps.havoc rfl ?_)) ⟨rfl, rfl, trivial⟩ (Sub.all _)
    · focus (apply gw_d; exact det_subU (Nat.le_of_lt (Nat.mod_lt _ (by omega))) rfl rfl rfl rfl; refine gM rfl rfl (by conv => (lhs; whnf)) ?_; apply gw_d; exact det_shrU rfl rfl rfl rfl; refine gM rfl rfl (by conv => (lhs; whnf)) ?_; refine gM rfl rfl (by conv => (lhs; whnf)) ?_; refine gO ?_; refine gc_ret ?_)
      exact gx_ret2 (u := .int _ _) (v := .int _ _) rfl rfl rfl (fun w' s => ⟨(_, _), rfl, trivial⟩)
  · have h1 : (r + D) % 18446744073709551616 < M := by omega
    have h2 : M - (r + D) % 18446744073709551616 < M - r := by omega
    exact gx_round (_, (r + D) % 18446744073709551616) h1 h2 (by repeat (first | with_reducible exact Keeps.refl | refine Keeps.upd rfl ?_ | refine Keeps.sets rfl ?_ | refine Keeps.havoc rfl ?_)) ⟨rfl, rfl, trivial⟩ (Sub.all _)
  · focus (apply gw_d; exact det_subU (Nat.le_of_lt (Nat.mod_lt _ (by omega))) rfl rfl rfl rfl; refine gM rfl rfl (by conv => (lhs; whnf)) ?_; refine gN ?_; refine gM rfl rfl (by conv => (lhs; whnf)) ?_; refine gM rfl rfl (by conv => (lhs; whnf)) ?_; apply gw_d; exact det_quoU (Nat.mod_lt _ (by omega)) hd0 rfl rfl rfl rfl; refine gM rfl rfl (by conv => (lhs; whnf)) ?_; refine gN ?_; refine gM rfl rfl (by conv => (lhs; whnf)) ?_; refine gM rfl rfl (by conv => (lhs; whnf)) ?_; refine gM rfl rfl (by conv => (lhs; whnf)) ?_; apply gw_d; exact det_mulU rfl rfl rfl rfl; apply gw_d; exact det_subU (Nat.le_of_lt (Nat.mod_lt _ (by omega))) rfl rfl rfl rfl; refine gM rfl rfl (by conv => (lhs; whnf)) ?_; refine gO ?_; refine gc_seq ?_; refine gc_block ?_)
    refine gc_loopK (σ := Nat × Nat) [102, 103, 104, 105, 106, 107, 108, 109, 110, 111, 112, 113, 114, 115, 18, 116, 117, 118, 16, 119, 120] (fun s => [(18, .int .u64 (s.1 : Int)), (16, .int .u64 (s.2 : Int))]) (fun s => s.2 < M) (fun s => M - s.2) (_, _) (Nat.lt_trans (rhat_lt (Nat.mod_lt _ (by omega)) hd0) hdM) ⟨rfl, rfl, trivial⟩ ?_
    rintro ⟨q2, r2⟩ base2 hr2
    dsimp only at hr2 ⊢
    focus (refine gc_seq ?_; refine gc_seq ?_; refine gc_region ?_; refine gM rfl rfl (by conv => (lhs; whnf)) ?_; refine gC rfl rfl rfl rfl rfl ?_; refine gM rfl rfl (by conv => (lhs; whnf)) ?_; refine gw_guard_dec rfl rfl (fun _ => ?_) (fun _ => ?_); refine gU rfl ?_; refine gU rfl ?_; refine gU rfl ?_; refine gU rfl ?_; refine gU rfl ?_; refine gU rfl ?_; refine gU rfl ?_; refine gU rfl ?_; apply gw_d; exact det_pick_t (v := .bool _) rfl rfl rfl rfl; refine gO ?_; refine gc_if_true rfl ?_; refine gc_skip ?_; refine gx_next ?_; refine gc_block ?_; refine gc_seq ?_; refine gc_region ?_; refine gM rfl rfl (by conv => (lhs; whnf)) ?_; apply gw_d; exact det_subU (j := 1) (by omega) rfl rfl rfl rfl; refine gM rfl rfl (by conv => (lhs; whnf)) ?_; refine gN ?_; refine gM rfl rfl (by conv => (lhs; whnf)) ?_; refine gM rfl rfl (by conv => (lhs; whnf)) ?_; apply gw_d; exact det_addU rfl rfl rfl rfl; refine gM rfl rfl (by conv => (lhs; whnf)) ?_; refine gN ?_; refine gM rfl rfl (by conv => (lhs; whnf)) ?_; refine gC rfl rfl rfl rfl rfl ?_; refine gO ?_; refine gc_if_dec rfl (fun _ => ?_) (fun _ => ?_); refine gc_exit ?_; refine gx_block_other rfl ?_; refine gx_then_exit ?_; refine gx_block_exit ?_; refine gx_next ?_; refine gc_seq ?_; refine gc_region ?_; refine gM rfl rfl (by conv => (lhs; whnf)) ?_; apply gw_d; exact det_mulU rfl rfl rfl rfl; refine gM rfl rfl (by conv => (lhs; whnf)) ?_; apply gw_d; exact det_addU rfl rfl rfl rfl; refine gM rfl rfl (by conv => (lhs; whnf)) ?_; apply gw_d; exact det_mulU rfl rfl rfl rfl; refine gM rfl rfl (by conv => (lhs; whnf)) ?_; apply gw_d; exact det_addU rfl rfl rfl rfl; refine gM rfl rfl (by conv => (lhs; whnf)) ?_; refine gM rfl rfl (by conv => (lhs; whnf)) ?_; apply gw_d; exact det_mulU rfl rfl rfl rfl; rotate_left; refine gc_skip ?_; refine gx_block ?_; rotate_left; refine gM rfl rfl (by conv => (lhs; whnf)) ?_; refine gM rfl rfl (by conv => (lhs; whnf)) ?_; apply gw_d; exact det_mulU rfl rfl rfl rfl; refine gM rfl rfl (by conv => (lhs; whnf)) ?_; apply gw_d; exact det_mulU rfl rfl rfl rfl; refine gM rfl rfl (by conv => (lhs; whnf)) ?_; apply gw_d; exact det_addU rfl rfl rfl rfl; refine gC rfl rfl rfl rfl rfl ?_; apply gw_d; exact det_pick_f (v := .bool _) rfl rfl rfl rfl; refine gO ?_; refine gc_if_dec rfl (fun _ => ?_) (fun _ => ?_); refine gc_skip ?_; refine gx_next ?_; refine gc_block ?_; refine gc_seq ?_; refine gc_region ?_; refine gM rfl rfl (by conv => (lhs; whnf)) ?_; apply gw_d; exact det_subU (j := 1) (by omega) rfl rfl rfl rfl; refine gM rfl rfl (by conv => (lhs; whnf)) ?_; refine gN ?_; refine gM rfl rfl (by conv => (lhs; whnf)) ?_; refine gM rfl rfl (by conv => (lhs; whnf)) ?_; apply gw_d; exact det_addU rfl rfl rfl rfl; refine gM rfl rfl (by conv => (lhs; whnf)) ?_; refine gN ?_; refine gM rfl rfl (by conv => (lhs; whnf)) ?_; refine gC rfl rfl rfl rfl rfl ?_; refine gO ?_; refine gc_if_dec rfl (fun _ => ?_) (fun _ => ?_); refine gc_exit ?_; refine gx_block_other rfl ?_; refine gx_then_exit ?_; refine gx_block_exit ?_; refine gx_next ?_; refine gc_seq ?_; refine gc_region ?_; refine gM rfl rfl (by conv => (lhs; whnf)) ?_; apply gw_d; exact det_mulU rfl rfl rfl rfl; refine gM rfl rfl (by conv => (lhs; whnf)) ?_; apply gw_d; exact det_addU rfl rfl rfl rfl; refine gM rfl rfl (by conv => (lhs; whnf)) ?_; apply gw_d; exact det_mulU rfl rfl rfl rfl; refine gM rfl rfl (by conv => (lhs; whnf)) ?_; apply gw_d; exact det_addU rfl rfl rfl rfl; refine gM rfl rfl (by conv => (lhs; whnf)) ?_; refine gM rfl rfl (by conv => (lhs; whnf)) ?_; apply gw_d; exact det_mulU rfl rfl rfl rfl; rotate_left; refine gc_skip ?_; refine gx_block ?_; rotate_left; refine gc_exit ?_; refine gx_then_exit ?_; refine gx_then_exit ?_; refine gx_block_exit ?_; refine gx_next ?_; refine gc_seq ?_; refine gc_region ?_; refine gM rfl rfl (by conv => (lhs; whnf)) ?_; apply gw_d; exact det_mulU rfl rfl rfl rfl; refine gM rfl rfl (by conv => (lhs; whnf)) ?_; apply gw_d; exact det_addU rfl rfl rfl rfl; refine gM rfl rfl (by conv => (lhs; whnf)) ?_; apply gw_d; exact det_mulU rfl rfl rfl rfl; refine gM rfl rfl (by conv => (lhs; whnf)) ?_; apply gw_d; exact det_addU rfl rfl rfl rfl; refine gM rfl rfl (by conv => (lhs; whnf)) ?_; refine gM rfl rfl (by conv => (lhs; whnf)) ?_; apply gw_d; exact det_mulU rfl rfl rfl rfl; rotate_left)
    · focus (apply gw_d; exact det_subU (Nat.le_of_lt (Nat.mod_lt _ (by omega))) rfl rfl rfl rfl; refine gM rfl rfl (by conv => (lhs; whnf)) ?_; apply gw_d; exact det_shrU rfl rfl rfl rfl; refine gM rfl rfl (by conv => (lhs; whnf)) ?_; refine gM rfl rfl (by conv => (lhs; whnf)) ?_; refine gO ?_; refine gc_ret ?_)
      exact gx_ret2 (u := .int _ _) (v := .int _ _) rfl rfl rfl (fun w' s => ⟨(_, _), rfl, trivial⟩)
    · have h1 : (r2 + D) % 18446744073709551616 < M := by omega
      have h2 : M - (r2 + D) % 18446744073709551616 < M - r2 := by omega
      exact gx_round (_, (r2 + D) % 18446744073709551616) h1 h2 (by repeat (first | with_reducible exact Keeps.refl | refine Keeps.upd rfl ?_ | refine Keeps.sets rfl ?_ | refine Keeps.havoc rfl ?_)) ⟨rfl, rfl, trivial⟩ (Sub.all _)
    · focus (apply gw_d; exact det_subU (Nat.le_of_lt (Nat.mod_lt _ (by omega))) rfl rfl rfl rfl; refine gM rfl rfl (by conv => (lhs; whnf)) ?_; apply gw_d; exact det_shrU rfl rfl rfl rfl; refine gM rfl rfl (by conv => (lhs; whnf)) ?_; refine gM rfl rfl (by conv => (lhs; whnf)) ?_; refine gO ?_; refine gc_ret ?_)
      exact gx_ret2 (u := .int _ _) (v := .int _ _) rfl rfl rfl (fun w' s => ⟨(_, _), rfl, trivial⟩)
    · have h1 : (r2 + D) % 18446744073709551616 < M := by omega
      have h2 : M - (r2 + D) % 18446744073709551616 < M - r2 := by omega
      exact gx_round (_, (r2 + D) % 18446744073709551616) h1 h2 (by repeat (first | with_reducible exact Keeps.refl | refine Keeps.upd rfl ?_ | refine Keeps.sets rfl ?_ | refine Keeps.havoc rfl ?_)) ⟨rfl, rfl, trivial⟩ (Sub.all _)
    · focus (apply gw_d; exact det_subU (Nat.le_of_lt (Nat.mod_lt _ (by omega))) rfl rfl rfl rfl; refine gM rfl rfl (by conv => (lhs; whnf)) ?_; apply gw_d; exact det_shrU rfl rfl rfl rfl; refine gM rfl rfl (by conv => (lhs; whnf)) ?_; refine gM rfl rfl (by conv => (lhs; whnf)) ?_; refine gO ?_; refine gc_ret ?_)
      exact gx_ret2 (u := .int _ _) (v := .int _ _) rfl rfl rfl (fun w' s => ⟨(_, _), rfl, trivial⟩)
  · have h1 : (r + D) % 18446744073709551616 < M := by omega
    have h2 : M - (r + D) % 18446744073709551616 < M - r := by omega
    exact gx_round (_, (r + D) % 18446744073709551616) h1 h2 (by repeat (first | with_reducible exact Keeps.refl | refine Keeps.upd rfl ?_ | refine Keeps.sets rfl ?_ | refine Keeps.havoc rfl ?_)) ⟨rfl, rfl, trivial⟩ (Sub.all _)
  · focus (apply gw_d; exact det_subU (Nat.le_of_lt (Nat.mod_lt _ (by omega))) rfl rfl rfl rfl; refine gM rfl rfl (by conv => (lhs; whnf)) ?_; refine gN ?_; refine gM rfl rfl (by conv => (lhs; whnf)) ?_; refine gM rfl rfl (by conv => (lhs; whnf)) ?_; apply gw_d; exact det_quoU (Nat.mod_lt _ (by omega)) hd0 rfl rfl rfl rfl; refine gM rfl rfl (by conv => (lhs; whnf)) ?_; refine gN ?_; refine gM rfl rfl (by conv => (lhs; whnf)) ?_; refine gM rfl rfl (by conv => (lhs; whnf)) ?_; refine gM rfl rfl (by conv => (lhs; whnf)) ?_; apply gw_d; exact det_mulU rfl rfl rfl rfl; apply gw_d; exact det_subU (Nat.le_of_lt (Nat.mod_lt _ (by omega))) rfl rfl rfl rfl; refine gM rfl rfl (by conv => (lhs; whnf)) ?_; refine gO ?_; refine gc_seq ?_; refine gc_block ?_)
    refine gc_loopK (σ := Nat × Nat) [102, 103, 104, 105, 106, 107, 108, 109, 110, 111, 112, 113, 114, 115, 18, 116, 117, 118, 16, 119, 120] (fun s => [(18, .int .u64 (s.1 : Int)), (16, .int .u64 (s.2 : Int))]) (fun s => s.2 < M) (fun s => M - s.2) (_, _) (Nat.lt_trans (rhat_lt (Nat.mod_lt _ (by omega)) hd0) hdM) ⟨rfl, rfl, trivial⟩ ?_
    rintro ⟨q2, r2⟩ base2 hr2
    dsimp only at hr2 ⊢
    focus (refine gc_seq ?_; refine gc_seq ?_; refine gc_region ?_; refine gM rfl rfl (by conv => (lhs; whnf)) ?_; refine gC rfl rfl rfl rfl rfl ?_; refine gM rfl rfl (by conv => (lhs; whnf)) ?_; refine gw_guard_dec rfl rfl (fun _ => ?_) (fun _ => ?_); refine gU rfl ?_; refine gU rfl ?_; refine gU rfl ?_; refine gU rfl ?_; refine gU rfl ?_; refine gU rfl ?_; refine gU rfl ?_; refine gU rfl ?_; apply gw_d; exact det_pick_t (v := .bool _) rfl rfl rfl rfl; refine gO ?_; refine gc_if_true rfl ?_; refine gc_skip ?_; refine gx_next ?_; refine gc_block ?_; refine gc_seq ?_; refine gc_region ?_; refine gM rfl rfl (by conv => (lhs; whnf)) ?_; apply gw_d; exact det_subU (j := 1) (by omega) rfl rfl rfl rfl; refine gM rfl rfl (by conv => (lhs; whnf)) ?_; refine gN ?_; refine gM rfl rfl (by conv => (lhs; whnf)) ?_; refine gM rfl rfl (by conv => (lhs; whnf)) ?_; apply gw_d; exact det_addU rfl rfl rfl rfl; refine gM rfl rfl (by conv => (lhs; whnf)) ?_; refine gN ?_; refine gM rfl rfl (by conv => (lhs; whnf)) ?_; refine gC rfl rfl rfl rfl rfl ?_; refine gO ?_; refine gc_if_dec rfl (fun _ => ?_) (fun _ => ?_); refine gc_exit ?_; refine gx_block_other rfl ?_; refine gx_then_exit ?_; refine gx_block_exit ?_; refine gx_next ?_; refine gc_seq ?_; refine gc_region ?_; refine gM rfl rfl (by conv => (lhs; whnf)) ?_; apply gw_d; exact det_mulU rfl rfl rfl rfl; refine gM rfl rfl (by conv => (lhs; whnf)) ?_; apply gw_d; exact det_addU rfl rfl rfl rfl; refine gM rfl rfl (by conv => (lhs; whnf)) ?_; apply gw_d; exact det_mulU rfl rfl rfl rfl; refine gM rfl rfl (by conv => (lhs; whnf)) ?_; apply gw_d; exact det_addU rfl rfl rfl rfl; refine gM rfl rfl (by conv => (lhs; whnf)) ?_; refine gM rfl rfl (by conv => (lhs; whnf)) ?_; apply gw_d; exact det_mulU rfl rfl rfl rfl; rotate_left; refine gc_skip ?_; refine gx_block ?_; rotate_left; refine gM rfl rfl (by conv => (lhs; whnf)) ?_; refine gM rfl rfl (by conv => (lhs; whnf)) ?_; apply gw_d; exact det_mulU rfl rfl rfl rfl; refine gM rfl rfl (by conv => (lhs; whnf)) ?_; apply gw_d; exact det_mulU rfl rfl rfl rfl; refine gM rfl rfl (by conv => (lhs; whnf)) ?_; apply gw_d; exact det_addU rfl rfl rfl rfl; refine gC rfl rfl rfl rfl rfl ?_; apply gw_d; exact det_pick_f (v := .bool _) rfl rfl rfl rfl; refine gO ?_; refine gc_if_dec rfl (fun _ => ?_) (fun _ => ?_); refine gc_skip ?_; refine gx_next ?_; refine gc_block ?_; refine gc_seq ?_; refine gc_region ?_; refine gM rfl rfl (by conv => (lhs; whnf)) ?_; apply gw_d; exact det_subU (j := 1) (by omega) rfl rfl rfl rfl; refine gM rfl rfl (by conv => (lhs; whnf)) ?_; refine gN ?_; refine gM rfl rfl (by conv => (lhs; whnf)) ?_; refine gM rfl rfl (by conv => (lhs; whnf)) ?_; apply gw_d; exact det_addU rfl rfl rfl rfl; refine gM rfl rfl (by conv => (lhs; whnf)) ?_; refine gN ?_; refine gM rfl rfl (by conv => (lhs; whnf)) ?_; refine gC rfl rfl rfl rfl rfl ?_; refine gO ?_; refine gc_if_dec rfl (fun _ => ?_) (fun _ => ?_); refine gc_exit ?_; refine gx_block_other rfl ?_; refine gx_then_exit ?_; refine gx_block_exit ?_; refine gx_next ?_; refine gc_seq ?_; refine gc_region ?_; refine gM rfl rfl (by conv => (lhs; whnf)) ?_; apply gw_d; exact det_mulU rfl rfl rfl rfl; refine gM rfl rfl (by conv => (lhs; whnf)) ?_; apply gw_d; exact det_addU rfl rfl rfl rfl; refine gM rfl rfl (by conv => (lhs; whnf)) ?_; apply gw_d; exact det_mulU rfl rfl rfl rfl; refine gM rfl rfl (by conv => (lhs; whnf)) ?_; apply gw_d; exact det_addU rfl rfl rfl rfl; refine gM rfl rfl (by conv => (lhs; whnf)) ?_; refine gM rfl rfl (by conv => (lhs; whnf)) ?_; apply gw_d; exact det_mulU rfl rfl rfl rfl; rotate_left; refine gc_skip ?_; refine gx_block ?_; rotate_left; refine gc_exit ?_; refine gx_then_exit ?_; refine gx_then_exit ?_; refine gx_block_exit ?_; refine gx_next ?_; refine gc_seq ?_; refine gc_region ?_; refine gM rfl rfl (by conv => (lhs; whnf)) ?_; apply gw_d; exact det_mulU rfl rfl rfl rfl; refine gM rfl rfl (by conv => (lhs; whnf)) ?_; apply gw_d; exact det_addU rfl rfl rfl rfl; refine gM rfl rfl (by conv => (lhs; whnf)) ?_; apply gw_d; exact det_mulU rfl rfl rfl rfl; refine gM rfl rfl (by conv => (lhs; whnf)) ?_; apply gw_d; exact det_addU rfl rfl rfl rfl; refine gM rfl rfl (by conv => (lhs; whnf)) ?_; refine gM rfl rfl (by conv => (lhs; whnf)) ?_; apply gw_d; exact det_mulU rfl rfl rfl rfl; rotate_left)
    · focus (apply gw_d; exact det_subU (Nat.le_of_lt (Nat.mod_lt _ (by omega))) rfl rfl rfl rfl; refine gM rfl rfl (by conv => (lhs; whnf)) ?_; apply gw_d; exact det_shrU rfl rfl rfl rfl; refine gM rfl rfl (by conv => (lhs; whnf)) ?_; refine gM rfl rfl (by conv => (lhs; whnf)) ?_; refine gO ?_; refine gc_ret ?_)
      exact gx_ret2 (u := .int _ _) (v := .int _ _) rfl rfl rfl (fun w' s => ⟨(_, _), rfl, trivial⟩)
    · have h1 : (r2 + D) % 18446744073709551616 < M := by omega
      have h2 : M - (r2 + D) % 18446744073709551616 < M - r2 := by omega
      exact gx_round (_, (r2 + D) % 18446744073709551616) h1 h2 (by repeat (first | with_reducible exact Keeps.refl | refine Keeps.upd rfl ?_ | refine Keeps.sets rfl ?_ | refine Keeps.havoc rfl ?_)) ⟨rfl, rfl, trivial⟩ (Sub.all _)
    · focus (apply gw_d; exact det_subU (Nat.le_of_lt (Nat.mod_lt _ (by omega))) rfl rfl rfl rfl; refine gM rfl rfl (by conv => (lhs; whnf)) ?_; apply gw_d; exact det_shrU rfl rfl rfl rfl; refine gM rfl rfl (by conv => (lhs; whnf)) ?_; refine gM rfl rfl (by conv => (lhs; whnf)) ?_; refine gO ?_; refine gc_ret ?_)
      exact gx_ret2 (u := .int _ _) (v := .int _ _) rfl rfl rfl (fun w' s => ⟨(_, _), rfl, trivial⟩)
    · have h1 : (r2 + D) % 18446744073709551616 < M := by omega
      have h2 : M - (r2 + D) % 18446744073709551616 < M - r2 := by omega
      exact gx_round (_, (r2 + D) % 18446744073709551616) h1 h2 (by repeat (first | with_reducible exact Keeps.refl | refine Keeps.upd rfl ?_ | refine Keeps.sets rfl ?_ | refine Keeps.havoc rfl ?_)) ⟨rfl, rfl, trivial⟩ (Sub.all _)
    · focus (apply gw_d; exact det_subU (Nat.le_of_lt (Nat.mod_lt _ (by omega))) rfl rfl rfl rfl; refine gM rfl rfl (by conv => (lhs; whnf)) ?_; apply gw_d; exact det_shrU rfl rfl rfl rfl; refine gM rfl rfl (by conv => (lhs; whnf)) ?_; refine gM rfl rfl (by conv => (lhs; whnf)) ?_; refine gO ?_; refine gc_ret ?_)
      exact gx_ret2 (u := .int _ _) (v := .int _ _) rfl rfl rfl (fun w' s => ⟨(_, _), rfl, trivial⟩)
end Go.Proofs.YtljibjlkjelpbaaGreatDoor

/- Contracts: a place on an edge of the same length. -/
namespace Go.Proofs.YtljibjlkjelpbaaGreatDoor
open Go.RowKit
set_option maxRecDepth 100000
set_option maxHeartbeats 4000000

theorem partner_bad (w : World) (L a : Int) (_hL : 1 ≤ L ∧ L ≤ 1099511627776) (h : a < 0 ∨ a > L) : Ok Tryz.prog 97 [.int .i64 L, .int .i64 L, .bool false, .int .i64 a].toArray w fun r _ => r = .tuple #[.int .i64 0, .int .i64 3] := by
  refine ok_enter Tryz.func97 rfl Tryz.ntmps97 rfl ?_
  focus (refine gc_seq ?_; refine gc_region ?_; refine gM rfl rfl (by conv => (lhs; whnf)) ?_; refine gM rfl rfl (by conv => (lhs; whnf)) ?_; refine gO ?_; refine gc_seq ?_; refine gc_seq ?_; refine gc_region ?_; refine gM rfl rfl (by conv => (lhs; whnf)) ?_; refine gC rfl rfl rfl rfl rfl ?_; refine gM rfl rfl (by conv => (lhs; whnf)) ?_; refine gw_guard_dec rfl rfl (fun _ => ?_) (fun _ => ?_); refine gU rfl ?_; refine gU rfl ?_; apply gw_d; exact det_pick_t (v := .bool _) rfl rfl rfl rfl; refine gM rfl rfl (by conv => (lhs; whnf)) ?_; refine gU rfl ?_; refine gU rfl ?_; apply gw_d; exact det_pick_t (v := .bool _) rfl rfl rfl rfl; refine gM rfl rfl (by conv => (lhs; whnf)) ?_; refine gU rfl ?_; refine gU rfl ?_; apply gw_d; exact det_pick_t (v := .bool _) rfl rfl rfl rfl; refine gM rfl rfl (by conv => (lhs; whnf)) ?_; refine gU rfl ?_; refine gU rfl ?_; apply gw_d; exact det_pick_t (v := .bool _) rfl rfl rfl rfl; refine gM rfl rfl (by conv => (lhs; whnf)) ?_; refine gU rfl ?_; refine gU rfl ?_; refine gU rfl ?_; apply gw_d; exact det_pick_t (v := .bool _) rfl rfl rfl rfl; refine gO ?_; refine gc_if_true rfl ?_; refine gc_seq ?_; refine gc_region ?_; refine gM rfl rfl (by conv => (lhs; whnf)) ?_; refine gM rfl rfl (by conv => (lhs; whnf)) ?_; refine gO ?_; refine gc_ret ?_; refine gx_then_ret ?_; rotate_left; refine gM rfl rfl (by conv => (lhs; whnf)) ?_; refine gC rfl rfl rfl rfl rfl ?_; apply gw_d; exact det_pick_f (v := .bool _) rfl rfl rfl rfl; refine gM rfl rfl (by conv => (lhs; whnf)) ?_; refine gw_guard_dec rfl rfl (fun _ => ?_) (fun _ => ?_); refine gU rfl ?_; refine gU rfl ?_; apply gw_d; exact det_pick_t (v := .bool _) rfl rfl rfl rfl; refine gM rfl rfl (by conv => (lhs; whnf)) ?_; refine gU rfl ?_; refine gU rfl ?_; apply gw_d; exact det_pick_t (v := .bool _) rfl rfl rfl rfl; refine gM rfl rfl (by conv => (lhs; whnf)) ?_; refine gU rfl ?_; refine gU rfl ?_; apply gw_d; exact det_pick_t (v := .bool _) rfl rfl rfl rfl; refine gM rfl rfl (by conv => (lhs; whnf)) ?_; refine gU rfl ?_; refine gU rfl ?_; refine gU rfl ?_; apply gw_d; exact det_pick_t (v := .bool _) rfl rfl rfl rfl; refine gO ?_; refine gc_if_true rfl ?_; refine gc_seq ?_; refine gc_region ?_; refine gM rfl rfl (by conv => (lhs; whnf)) ?_; refine gM rfl rfl (by conv => (lhs; whnf)) ?_; refine gO ?_; refine gc_ret ?_; refine gx_then_ret ?_; rotate_left; refine gM rfl rfl (by conv => (lhs; whnf)) ?_; refine gC rfl rfl rfl rfl rfl ?_; apply gw_d; exact det_pick_f (v := .bool _) rfl rfl rfl rfl; refine gM rfl rfl (by conv => (lhs; whnf)) ?_; refine gw_guard_dec rfl rfl (fun _ => ?_) (fun _ => ?_); refine gU rfl ?_; refine gU rfl ?_; apply gw_d; exact det_pick_t (v := .bool _) rfl rfl rfl rfl; refine gM rfl rfl (by conv => (lhs; whnf)) ?_; refine gU rfl ?_; refine gU rfl ?_; apply gw_d; exact det_pick_t (v := .bool _) rfl rfl rfl rfl; refine gM rfl rfl (by conv => (lhs; whnf)) ?_; refine gU rfl ?_; refine gU rfl ?_; refine gU rfl ?_; apply gw_d; exact det_pick_t (v := .bool _) rfl rfl rfl rfl; refine gO ?_; refine gc_if_true rfl ?_; refine gc_seq ?_; refine gc_region ?_; refine gM rfl rfl (by conv => (lhs; whnf)) ?_; refine gM rfl rfl (by conv => (lhs; whnf)) ?_; refine gO ?_; refine gc_ret ?_; refine gx_then_ret ?_; rotate_left; refine gM rfl rfl (by conv => (lhs; whnf)) ?_; refine gC rfl rfl rfl rfl rfl ?_; apply gw_d; exact det_pick_f (v := .bool _) rfl rfl rfl rfl; refine gM rfl rfl (by conv => (lhs; whnf)) ?_; refine gw_guard_dec rfl rfl (fun _ => ?_) (fun _ => ?_); refine gU rfl ?_; refine gU rfl ?_; apply gw_d; exact det_pick_t (v := .bool _) rfl rfl rfl rfl; refine gM rfl rfl (by conv => (lhs; whnf)) ?_; refine gU rfl ?_; refine gU rfl ?_; refine gU rfl ?_; apply gw_d; exact det_pick_t (v := .bool _) rfl rfl rfl rfl; refine gO ?_; refine gc_if_true rfl ?_; refine gc_seq ?_; refine gc_region ?_; refine gM rfl rfl (by conv => (lhs; whnf)) ?_; refine gM rfl rfl (by conv => (lhs; whnf)) ?_; refine gO ?_; refine gc_ret ?_; refine gx_then_ret ?_; rotate_left; refine gM rfl rfl (by conv => (lhs; whnf)) ?_; refine gC rfl rfl rfl rfl rfl ?_; apply gw_d; exact det_pick_f (v := .bool _) rfl rfl rfl rfl; refine gM rfl rfl (by conv => (lhs; whnf)) ?_; refine gw_guard_dec rfl rfl (fun _ => ?_) (fun _ => ?_); refine gU rfl ?_; refine gU rfl ?_; refine gU rfl ?_; apply gw_d; exact det_pick_t (v := .bool _) rfl rfl rfl rfl; refine gO ?_; refine gc_if_true rfl ?_; refine gc_seq ?_; refine gc_region ?_; refine gM rfl rfl (by conv => (lhs; whnf)) ?_; refine gM rfl rfl (by conv => (lhs; whnf)) ?_; refine gO ?_; refine gc_ret ?_; refine gx_then_ret ?_; rotate_left; refine gM rfl rfl (by conv => (lhs; whnf)) ?_; refine gM rfl rfl (by conv => (lhs; whnf)) ?_; refine gC rfl rfl rfl rfl rfl ?_; apply gw_d; exact det_pick_f (v := .bool _) rfl rfl rfl rfl; refine gO ?_; refine gc_if_dec rfl (fun _ => ?_) (fun _ => ?_); refine gc_seq ?_; refine gc_region ?_; refine gM rfl rfl (by conv => (lhs; whnf)) ?_; refine gM rfl rfl (by conv => (lhs; whnf)) ?_; refine gO ?_; refine gc_ret ?_; refine gx_then_ret ?_; rotate_left; refine gc_skip ?_; refine gx_next ?_; refine gc_seq ?_; refine gc_region ?_; refine gM rfl rfl (by conv => (lhs; whnf)) ?_; rotate_left)
  all_goals first | (refine gx_ret2 (u := .int _ _) (v := .int _ _) rfl rfl rfl (fun _ _ => ?_); rfl) | skip
  all_goals (exfalso; omega)
theorem partner_ok (w : World) (L a : Nat) (hL : 1 ≤ L ∧ L ≤ 1099511627776) (h : a ≤ L) : OkM Tryz.prog 97 [.int .i64 (L : Int), .int .i64 (L : Int), .bool false, .int .i64 (a : Int)].toArray w (fun x : Int => .tuple #[.int .i64 x, .int .i64 0]) (fun _ => []) := by
  have wL : IntKind.u64.wrap (L : Int) = (L : Int) := by rw [u64w]; omega
  have wa : IntKind.u64.wrap (a : Int) = (a : Int) := by rw [u64w]; omega
  have hhi : a * L / 18446744073709551616 < L := by
    rw [Nat.div_lt_iff_lt_mul (by omega)]
    have h1 : a * L ≤ L * L := Nat.mul_le_mul_right _ h
    have h2 : L * L < L * 18446744073709551616 := Nat.mul_lt_mul_of_pos_left (by omega) (by omega)
    omega
  have hM : ∀ (K : List Res) (w' : World), St w K w' → Ok Tryz.prog 116 [.int .u64 (a : Int), .int .u64 (L : Int)].toArray w' fun r _ => r = .tuple #[.int .u64 ((a * L / 18446744073709551616 : Nat) : Int), .int .u64 ((a * L % 18446744073709551616 : Nat) : Int)] := fun K w' _ => mul64_ok w' a L (by omega) (by omega)
  have hlo : a * L % 18446744073709551616 < 18446744073709551616 := Nat.mod_lt _ (by omega)
  generalize a * L / 18446744073709551616 = hi at *
  generalize a * L % 18446744073709551616 = lo at *
  unfold OkM
  refine ok_enter Tryz.func97 rfl Tryz.ntmps97 rfl ?_
  focus (refine gc_seq ?_; refine gc_region ?_; refine gM rfl rfl (by conv => (lhs; whnf)) ?_; refine gM rfl rfl (by conv => (lhs; whnf)) ?_; refine gO ?_; refine gc_seq ?_; refine gc_seq ?_; refine gc_region ?_; refine gM rfl rfl (by conv => (lhs; whnf)) ?_; refine gC rfl rfl rfl rfl rfl ?_; refine gM rfl rfl (by conv => (lhs; whnf)) ?_; refine gw_guard_dec rfl rfl (fun _ => ?_) (fun _ => ?_); refine gU rfl ?_; refine gU rfl ?_; apply gw_d; exact det_pick_t (v := .bool _) rfl rfl rfl rfl; refine gM rfl rfl (by conv => (lhs; whnf)) ?_; refine gU rfl ?_; refine gU rfl ?_; apply gw_d; exact det_pick_t (v := .bool _) rfl rfl rfl rfl; refine gM rfl rfl (by conv => (lhs; whnf)) ?_; refine gU rfl ?_; refine gU rfl ?_; apply gw_d; exact det_pick_t (v := .bool _) rfl rfl rfl rfl; refine gM rfl rfl (by conv => (lhs; whnf)) ?_; refine gU rfl ?_; refine gU rfl ?_; apply gw_d; exact det_pick_t (v := .bool _) rfl rfl rfl rfl; refine gM rfl rfl (by conv => (lhs; whnf)) ?_; refine gU rfl ?_; refine gU rfl ?_; refine gU rfl ?_; apply gw_d; exact det_pick_t (v := .bool _) rfl rfl rfl rfl; refine gO ?_; refine gc_if_true rfl ?_; refine gc_seq ?_; refine gc_region ?_; refine gM rfl rfl (by conv => (lhs; whnf)) ?_; refine gM rfl rfl (by conv => (lhs; whnf)) ?_; refine gO ?_; refine gc_ret ?_; refine gx_then_ret ?_; rotate_left; refine gM rfl rfl (by conv => (lhs; whnf)) ?_; refine gC rfl rfl rfl rfl rfl ?_; apply gw_d; exact det_pick_f (v := .bool _) rfl rfl rfl rfl; refine gM rfl rfl (by conv => (lhs; whnf)) ?_; refine gw_guard_dec rfl rfl (fun _ => ?_) (fun _ => ?_); refine gU rfl ?_; refine gU rfl ?_; apply gw_d; exact det_pick_t (v := .bool _) rfl rfl rfl rfl; refine gM rfl rfl (by conv => (lhs; whnf)) ?_; refine gU rfl ?_; refine gU rfl ?_; apply gw_d; exact det_pick_t (v := .bool _) rfl rfl rfl rfl; refine gM rfl rfl (by conv => (lhs; whnf)) ?_; refine gU rfl ?_; refine gU rfl ?_; apply gw_d; exact det_pick_t (v := .bool _) rfl rfl rfl rfl; refine gM rfl rfl (by conv => (lhs; whnf)) ?_; refine gU rfl ?_; refine gU rfl ?_; refine gU rfl ?_; apply gw_d; exact det_pick_t (v := .bool _) rfl rfl rfl rfl; refine gO ?_; refine gc_if_true rfl ?_; refine gc_seq ?_; refine gc_region ?_; refine gM rfl rfl (by conv => (lhs; whnf)) ?_; refine gM rfl rfl (by conv => (lhs; whnf)) ?_; refine gO ?_; refine gc_ret ?_; refine gx_then_ret ?_; rotate_left; refine gM rfl rfl (by conv => (lhs; whnf)) ?_; refine gC rfl rfl rfl rfl rfl ?_; apply gw_d; exact det_pick_f (v := .bool _) rfl rfl rfl rfl; refine gM rfl rfl (by conv => (lhs; whnf)) ?_; refine gM rfl rfl (by conv => (lhs; whnf)) ?_; refine gC rfl rfl rfl rfl rfl ?_; apply gw_d; exact det_pick_f (v := .bool _) rfl rfl rfl rfl; refine gM rfl rfl (by conv => (lhs; whnf)) ?_; refine gw_guard_dec rfl rfl (fun _ => ?_) (fun _ => ?_); refine gU rfl ?_; refine gU rfl ?_; apply gw_d; exact det_pick_t (v := .bool _) rfl rfl rfl rfl; refine gM rfl rfl (by conv => (lhs; whnf)) ?_; refine gU rfl ?_; refine gU rfl ?_; refine gU rfl ?_; apply gw_d; exact det_pick_t (v := .bool _) rfl rfl rfl rfl; refine gO ?_; refine gc_if_true rfl ?_; refine gc_seq ?_; refine gc_region ?_; refine gM rfl rfl (by conv => (lhs; whnf)) ?_; refine gM rfl rfl (by conv => (lhs; whnf)) ?_; refine gO ?_; refine gc_ret ?_; refine gx_then_ret ?_; rotate_left; refine gM rfl rfl (by conv => (lhs; whnf)) ?_; refine gC rfl rfl rfl rfl rfl ?_; apply gw_d; exact det_pick_f (v := .bool _) rfl rfl rfl rfl; refine gM rfl rfl (by conv => (lhs; whnf)) ?_; refine gM rfl rfl (by conv => (lhs; whnf)) ?_; refine gM rfl rfl (by conv => (lhs; whnf)) ?_; refine gC rfl rfl rfl rfl rfl ?_; apply gw_d; exact det_pick_f (v := .bool _) rfl rfl rfl rfl; refine gO ?_; refine gc_if_dec rfl (fun _ => ?_) (fun _ => ?_); refine gc_seq ?_; refine gc_region ?_; refine gM rfl rfl (by conv => (lhs; whnf)) ?_; refine gM rfl rfl (by conv => (lhs; whnf)) ?_; refine gO ?_; refine gc_ret ?_; refine gx_then_ret ?_; rotate_left; refine gc_skip ?_; refine gx_next ?_; refine gc_seq ?_; refine gc_region ?_; refine gM rfl rfl (by conv => (lhs; whnf)) ?_; apply gw_d; exact det_conv rfl rfl rfl wa; refine gM rfl rfl (by conv => (lhs; whnf)) ?_; apply gw_d; exact det_conv rfl rfl rfl wL; apply gw_d; exact w_call rfl rfl (hM _) rfl; refine gM rfl rfl (by conv => (lhs; whnf)) ?_; apply gw_d; exact det_extract rfl rfl rfl (by conv => (lhs; whnf)); apply gw_d; exact det_extract rfl rfl rfl (by conv => (lhs; whnf)); refine gM rfl rfl (by conv => (lhs; whnf)) ?_; refine gM rfl rfl (by conv => (lhs; whnf)) ?_; refine gN ?_; refine gM rfl rfl (by conv => (lhs; whnf)) ?_; refine gM rfl rfl (by conv => (lhs; whnf)) ?_; refine gM rfl rfl (by conv => (lhs; whnf)) ?_; apply gw_d; exact det_conv rfl rfl rfl wL; rotate_left)
  all_goals first | (exfalso; omega) | skip
  refine gw_callm rfl (fun w s => div64_ok w hi lo L hlo (by omega) hhi) rfl (fun x => ?_)
  focus (refine gM rfl rfl (by conv => (lhs; whnf)) ?_; apply gw_d; exact det_extract rfl rfl rfl (by conv => (lhs; whnf)); apply gw_d; exact det_extract rfl rfl rfl (by conv => (lhs; whnf)); refine gM rfl rfl (by conv => (lhs; whnf)) ?_; refine gM rfl rfl (by conv => (lhs; whnf)) ?_; refine gO ?_; refine gc_seq ?_; refine gc_seq ?_; refine gc_region ?_; refine gM rfl rfl (by conv => (lhs; whnf)) ?_; apply gw_d; exact det_mulU (i := 2) rfl rfl rfl rfl; refine gM rfl rfl (by conv => (lhs; whnf)) ?_; apply gw_d; exact det_conv rfl rfl rfl wL; refine gC rfl rfl rfl rfl rfl ?_; refine gO ?_; refine gc_if_dec rfl (fun _ => ?_) (fun _ => ?_); refine gc_region ?_; refine gM rfl rfl (by conv => (lhs; whnf)) ?_; apply gw_d; exact det_addU (j := 1) rfl rfl rfl rfl; refine gM rfl rfl (by conv => (lhs; whnf)) ?_; refine gN ?_; refine gM rfl rfl (by conv => (lhs; whnf)) ?_; apply gw_d; exact det_conv rfl rfl rfl rfl; refine gM rfl rfl (by conv => (lhs; whnf)) ?_; refine gO ?_; refine gc_seq ?_; refine gc_seq ?_; refine gc_region ?_; refine gM rfl rfl (by conv => (lhs; whnf)) ?_; refine gO ?_; refine gc_if_false rfl ?_; refine gc_skip ?_; refine gx_next ?_; refine gc_seq ?_; refine gc_region ?_; refine gM rfl rfl (by conv => (lhs; whnf)) ?_; refine gM rfl rfl (by conv => (lhs; whnf)) ?_; refine gM rfl rfl (by conv => (lhs; whnf)) ?_; refine gO ?_; refine gc_ret ?_; rotate_left; refine gc_skip ?_; refine gx_next ?_; refine gc_seq ?_; refine gc_region ?_; refine gM rfl rfl (by conv => (lhs; whnf)) ?_; apply gw_d; exact det_conv rfl rfl rfl rfl; refine gM rfl rfl (by conv => (lhs; whnf)) ?_; refine gO ?_; refine gc_seq ?_; refine gc_seq ?_; refine gc_region ?_; refine gM rfl rfl (by conv => (lhs; whnf)) ?_; refine gO ?_; refine gc_if_false rfl ?_; refine gc_skip ?_; refine gx_next ?_; refine gc_seq ?_; refine gc_region ?_; refine gM rfl rfl (by conv => (lhs; whnf)) ?_; refine gM rfl rfl (by conv => (lhs; whnf)) ?_; refine gM rfl rfl (by conv => (lhs; whnf)) ?_; refine gO ?_; refine gc_ret ?_; rotate_left)
  all_goals exact gx_ret2 (u := .int _ _) (v := .int _ _) rfl rfl rfl (fun w' s => ⟨_, rfl, trivial⟩)
end Go.Proofs.YtljibjlkjelpbaaGreatDoor

/- Contracts: the places of notches. -/
namespace Go.Proofs.YtljibjlkjelpbaaGreatDoor
open Go.RowKit
set_option maxRecDepth 100000
set_option maxHeartbeats 8000000

def notchF (l : List Edg) (ns : List (Int × Int)) (k : Nat) : Int := match ns[k]? with
  | some n => if n.1 < 0 ∨ n.1 ≥ l.length then 3 else if n.2 < 0 ∨ n.2 > lenL (gE l n.1.toNat).2 then 3 else 0
  | none => 0
def placedE (l : List Edg) (cs ns : List (Int × Int)) : Int := if ¬ gradedE l cs = 0 then gradedE l cs else if ns.length > 16 then 5 else firstE (notchF l ns) ns.length
theorem edges_lines {l : List Edg} {cs : List (Int × Int)} (h : gradedE l cs = 0) : ∀ k, k < l.length → plineE (gE l k).2 = 0 := fun k hk => by
  unfold gradedE at h
  split at h
  · cases h
  split at h
  · cases h
  unfold outlineE at h
  split at h
  · cases h
  split at h
  · cases h
  split at h
  · rename_i h1
    have h2 := firstE_at h1 k hk
    unfold edgeE at h2
    split at h2
    · split at h2
      · cases h2
      · exact h2
    · cases h2
  · rename_i h1; exact absurd h h1
section
variable {P : Program} {ops : Array Oper} {Q : Exit → Act → World → Prop} {N : Nat} {w0 : World} {L : List Res} {rest : List Oper} {e : Env}
theorem gw_pick {α : Type} {φ : α → Prop} {K : α → List Res} (h : ∀ w, St w0 L w → ∃ a, φ a ∧ St w0 (K a) w) (k : ∀ a, φ a → GW P ops Q N w0 (K a) rest e) : GW P ops Q N w0 L rest e := ⟨fun w s => by
  obtain ⟨a, hp, ha⟩ := h w s
  exact (k a hp).h w ha⟩
end
/-- Edges that the function has made, with the cells of one of them known. -/
def DeepAt (S : Nat → Prop) (v : Value) (l : List Edg) (i : Nat) (a : Addr × Option Addr × Nat) : Res :=
  ⟨S, fun w => SlS rEdge w S v l ∧ S a.1.block ∧ v = .slice (some a.1) l.length (match v with | .slice _ _ c => c | _ => 0) ∧ (∀ j u, [Value.string (gE l i).1, Value.slice a.2.1 (gE l i).2.length a.2.2][j]? = some u → w.cell? (a.1.add (i * 2 + j)) = some u) ∧ SlS rSpot w S (.slice a.2.1 (gE l i).2.length a.2.2) (gE l i).2,
    fun _ _ h p => ⟨SlS.mono h p.1, p.2.1, p.2.2.1, fun j u hu => (cell_same (by rw [add_block]; exact h _ p.2.1)).trans (p.2.2.2.1 j u hu), SlS.mono h p.2.2.2.2⟩⟩
theorem deep_at {S : Nat → Prop} {A : Option Addr} {n c i : Nat} {l : List Edg} {L : List Res} (hi : i < l.length) (w0 w : World) (s : St w0 (Deep S rEdge (.slice A n c) l :: L) w) : ∃ a : Addr × Option Addr × Nat, A = some a.1 ∧ St w0 (DeepAt S (.slice A n c) l i a :: L) w := by
  have hd : SlS rEdge w S (.slice A n c) l := s.head
  have hd' := hd
  obtain ⟨A1, c1, hv, h1, h2, h3⟩ := hd
  obtain ⟨ad, cs, ha, hlt, hc, v2, rfl, hsz, hs2⟩ := h3 i hi
  have hs3 := hs2
  obtain ⟨A2, c2, rfl, _⟩ := hs2
  injection hv with e1 e2 e3
  subst e1 e2 e3 ha
  rw [← gE_get hi] at hc hs3
  exact ⟨(ad, A2, c2), rfl, s.same (fun b hb => hb) ⟨hd', hlt, rfl, hc, hs3⟩⟩
theorem placed_ok (w : World) (nm : ByteArray) (g : Int) (m : Bool) (Ae An Ac Aw : Option Addr) (ce cn cc nw cw : Nat) (l : List Edg) (cs ns : List (Int × Int))
    (hl : Sl rEdge w w.heap.size (.slice Ae l.length ce) l) (hns : Sl rSpot w w.heap.size (.slice An ns.length cn) ns) (hcs : Sl rSpot w w.heap.size (.slice Ac cs.length cc) cs) :
    OkM Tryz.prog 81 [.agg #[.string nm, .slice Ae l.length ce, .int .i64 g, .slice An ns.length cn, .slice Ac cs.length cc, .slice Aw nw cw, .bool m], .int .i64 0].toArray w
      (fun x : (Option Addr × Nat × Nat) × (Option Addr × Nat × Nat) => .tuple #[.slice x.1.1 x.1.2.1 x.1.2.2, .slice x.2.1 x.2.2.1 x.2.2.2, .int .i64 (placedE l cs ns)]) (fun _ => []) := by
  unfold OkM
  refine ok_enter Tryz.func81 rfl Tryz.ntmps81 rfl ?_
  focus (refine gc_seq ?_; refine gc_region ?_; refine gw_boxd (v := .agg _) rfl rfl (fun _ => ?_); refine gM rfl rfl (by conv => (lhs; whnf)) ?_; refine gM rfl rfl (by conv => (lhs; whnf)) ?_; refine gM rfl rfl (by conv => (lhs; whnf)) ?_; refine gN ?_; apply gw_d; exact w_load_boxN rfl rfl rfl .here rfl; refine gM rfl rfl (by conv => (lhs; whnf)) ?_)
  refine gw_callm rfl (fun w s => graded_ok w nm g m _ _ _ _ _ _ _ _ _ _ l cs (hl.later s) (hcs.later s)) rfl (fun x => ?_)
  focus (refine gM rfl rfl (by conv => (lhs; whnf)) ?_; apply gw_d; exact det_extract rfl rfl rfl (by conv => (lhs; whnf)); apply gw_d; exact det_extract rfl rfl rfl (by conv => (lhs; whnf)); refine gM rfl rfl (by conv => (lhs; whnf)) ?_; refine gM rfl rfl (by conv => (lhs; whnf)) ?_; refine gO ?_; refine gc_seq ?_; refine gc_seq ?_; refine gc_region ?_; refine gM rfl rfl (by conv => (lhs; whnf)) ?_; refine gC rfl rfl rfl rfl rfl ?_; refine gO ?_)
  refine gc_if_dec rfl (fun h => ?_) (fun h => ?_)
  · have hE : placedE l cs ns = gradedE l cs := by unfold placedE; rw [if_pos h]
    focus (refine gc_seq ?_; refine gc_region ?_; refine gM rfl rfl (by conv => (lhs; whnf)) ?_; refine gM rfl rfl (by conv => (lhs; whnf)) ?_; refine gM rfl rfl (by conv => (lhs; whnf)) ?_; refine gM rfl rfl (by conv => (lhs; whnf)) ?_; refine gO ?_; refine gc_ret ?_; refine gx_then_ret ?_)
    refine gx_ret3 (u := .slice _ _ _) (v := .slice _ _ _) (x := .int _ _) rfl rfl rfl rfl (fun _ _ => ?_)
    exact ⟨((none, 0, 0), (none, 0, 0)), by rw [hE], trivial⟩
  have h0 : gradedE l cs = 0 := by simpa using h
  rw [if_pos h0]
  simp only [if_pos h0]
  focus (refine gc_skip ?_; refine gx_next ?_; refine gc_seq ?_; refine gc_seq ?_; refine gc_region ?_; refine gF rfl rfl rfl ?_; apply gw_d; exact w_load_box rfl rfl rfl (.there .here) rfl; refine gL rfl rfl rfl ?_; refine gC rfl rfl rfl rfl rfl ?_; refine gO ?_)
  refine gc_if_dec rfl (fun h => ?_) (fun h16 => ?_)
  · have hE : placedE l cs ns = 5 := by unfold placedE; rw [if_neg (by rw [h0]; decide), if_pos (by omega)]
    focus (refine gc_seq ?_; refine gc_region ?_; refine gM rfl rfl (by conv => (lhs; whnf)) ?_; refine gM rfl rfl (by conv => (lhs; whnf)) ?_; refine gM rfl rfl (by conv => (lhs; whnf)) ?_; refine gO ?_; refine gc_ret ?_; refine gx_then_ret ?_)
    refine gx_ret3 (u := .slice _ _ _) (v := .slice _ _ _) (x := .int _ _) rfl rfl rfl rfl (fun _ _ => ?_)
    exact ⟨((none, 0, 0), (none, 0, 0)), by rw [hE], trivial⟩
  have hE : placedE l cs ns = firstE (notchF l ns) ns.length := by unfold placedE; rw [if_neg (by rw [h0]; decide), if_neg (by omega)]
  rw [hE]
  focus (refine gc_skip ?_; refine gx_next ?_; refine gc_seq ?_; refine gc_region ?_; refine gM rfl rfl (by conv => (lhs; whnf)) ?_; refine gO ?_; refine gc_seq ?_; refine gc_seq ?_; refine gc_region ?_; refine gF rfl rfl rfl ?_; apply gw_d; exact w_load_box rfl rfl rfl (.there .here) rfl; refine gL rfl rfl rfl ?_; refine gM rfl rfl (by conv => (lhs; whnf)) ?_; refine gO ?_; refine gc_block ?_)
  rename_i bp
  refine gc_own0 3 1 ?_
  refine gc_loop (σ := Nat × Option Addr × Nat × List Int) [33, 34, 35, 11, 36, 37, 38, 39, 40, 41, 42, 43, 44, 45, 46, 4, 5, 6, 48, 49, 50, 51, 52, 53, 54, 55, 47, 56, 57, 12, 13, 58, 59, 60, 62, 63, 64, 65, 66, 67, 68, 61, 69, 70, 14, 71, 72, 73, 75, 76, 77, 78, 79, 74, 80, 81, 15, 82, 83, 84, 85, 86, 87, 88, 9, 89, 32] (fun s => [(32, .int .i64 s.1), (9, .slice s.2.1 s.2.2.2.length s.2.2.1)]) (fun s => [Own s.2.1 s.2.2.2.length s.2.2.1 3 1 (s.2.2.2.map (Value.int .i64)), Deep x.2.2 rEdge (.slice x.1 l.length x.2.1) l, Box bp 115 #[.string nm, .slice Ae l.length ce, .int .i64 g, .slice An ns.length cn, .slice Ac cs.length cc, .slice Aw nw cw, .bool m]]) (fun s => s.1 ≤ ns.length ∧ s.2.2.2.length = s.1 ∧ firstE (notchF l ns) s.1 = 0) (fun s => ns.length - s.1) (0, none, 0, []) ⟨Nat.zero_le _, rfl, rfl⟩ ⟨rfl, rfl, trivial⟩ (.cons .here (.cons .here (.cons .here .nil))) ?_
  rintro ⟨k, A, c, pls⟩ base ⟨hk, hpl, hI⟩
  dsimp only at hk hpl hI ⊢
  focus (refine gc_seq ?_; refine gc_region ?_; refine gC rfl rfl rfl rfl rfl ?_; refine gO ?_; refine gc_seq ?_)
  refine gc_if_dec rfl (fun h2 => ?_) (fun h2 => ?_)
  · have hkn : k < ns.length := by omega
    obtain ⟨adn, _, hv, _, _, hbn, hncell⟩ := hns.spot' (by omega)
    injection hv with e1 e2 e3
    subst e1 e3
    have hcn := hncell k hkn
    have hF : notchF l ns k = if (gS ns k).1 < 0 ∨ (gS ns k).1 ≥ l.length then 3 else if (gS ns k).2 < 0 ∨ (gS ns k).2 > lenL (gE l (gS ns k).1.toNat).2 then 3 else 0 := by
      unfold notchF
      rw [List.getElem?_eq_getElem hkn, gS_get hkn]
    have hstop : notchF l ns k = 3 → firstE (notchF l ns) ns.length = 3 := fun h3 => by
      have := firstE_stop hI (by rw [h3]; decide) hkn
      rw [this, h3]
    generalize gS ns k = nk at *
    focus (refine gc_skip ?_; refine gx_next ?_; refine gc_seq ?_; refine gc_block ?_; refine gc_seq ?_; refine gc_region ?_; apply gw_d; exact w_index rfl rfl rfl rfl (by with_reducible exact rfl) (by omega); apply gw_d; exact w_load_elem rfl rfl rfl (by assumption) (by assumption) (by rfl); refine w_alloc rfl (fun _ => ?_); refine w_store_all rfl rfl rfl rfl rfl .here rfl ?_; refine gO ?_; refine gc_seq ?_; refine gc_seq ?_; refine gc_region ?_; refine gF rfl rfl rfl ?_; apply gw_d; exact w_load_box rfl rfl rfl .here rfl; refine gC rfl rfl rfl rfl rfl ?_; refine gM rfl rfl (by conv => (lhs; whnf)) ?_)
    by_cases hc : nk.1 < 0 ∨ nk.1 ≥ l.length
    · rw [if_pos hc] at hF
      rw [hstop hF]
      focus (refine gw_guard_dec rfl rfl (fun _ => ?_) (fun _ => ?_); refine gU rfl ?_; refine gU rfl ?_; refine gU rfl ?_; refine gU rfl ?_; refine gU rfl ?_; refine gU rfl ?_; apply gw_d; exact det_pick_t (v := .bool _) rfl rfl rfl rfl; refine gO ?_; refine gc_if_true rfl ?_; refine gc_seq ?_; refine gc_region ?_; refine gM rfl rfl (by conv => (lhs; whnf)) ?_; refine gM rfl rfl (by conv => (lhs; whnf)) ?_; refine gM rfl rfl (by conv => (lhs; whnf)) ?_; refine gO ?_; refine gc_ret ?_; refine gx_then_ret ?_; refine gx_block_ret ?_; refine gx_then_ret ?_; refine gx_then_ret ?_; refine gx_block_ret ?_; refine gx_then_ret ?_; rotate_left; refine gF rfl rfl rfl ?_; apply gw_d; exact w_load_box rfl rfl rfl .here rfl; refine gF rfl rfl rfl ?_; apply gw_d; exact w_load_box rfl rfl rfl (.there (.there (.there .here))) rfl; refine gL rfl rfl rfl ?_; refine gC rfl rfl rfl rfl rfl ?_; apply gw_d; exact det_pick_f (v := .bool _) rfl rfl rfl rfl; refine gO ?_; refine gc_if_dec rfl (fun _ => ?_) (fun _ => ?_); refine gc_seq ?_; refine gc_region ?_; refine gM rfl rfl (by conv => (lhs; whnf)) ?_; refine gM rfl rfl (by conv => (lhs; whnf)) ?_; refine gM rfl rfl (by conv => (lhs; whnf)) ?_; refine gO ?_; refine gc_ret ?_; refine gx_then_ret ?_; refine gx_block_ret ?_; refine gx_then_ret ?_; refine gx_then_ret ?_; refine gx_block_ret ?_; refine gx_then_ret ?_; rotate_left; refine gc_skip ?_; refine gx_next ?_; refine gc_seq ?_; refine gc_region ?_; refine gF rfl rfl rfl ?_; apply gw_d; exact w_load_box rfl rfl rfl (.there (.there (.there .here))) rfl; refine gF rfl rfl rfl ?_; apply gw_d; exact w_load_box rfl rfl rfl .here rfl; rotate_left)
      all_goals first | (exfalso; omega) | skip
      all_goals (refine gx_ret3 (u := .slice _ _ _) (v := .slice _ _ _) (x := .int _ _) rfl rfl rfl rfl (fun _ _ => ?_); exact ⟨((none, 0, 0), (none, 0, 0)), rfl, trivial⟩)
    rw [if_neg hc] at hF
    obtain ⟨ed, hed⟩ : ∃ ed : Nat, nk.1 = (ed : Int) := ⟨nk.1.toNat, by omega⟩
    have hel : ed < l.length := by omega
    obtain ⟨ade, _, hv, _, _, hbe, hecell⟩ := hl.edge' (by omega)
    injection hv with e1 e2 e3
    subst e1 e3
    obtain ⟨A', c', hcE, _, _, _, hline⟩ := hecell ed hel
    have hcE1 := hcE 1 _ rfl
    have hLen : ∀ (L : List Res) (w' : World), St w L w' → Ok Tryz.prog 96 [.slice A' (gE l ed).2.length c'].toArray w' fun r _ => r = .tuple #[.int .i64 (lenL (gE l ed).2), .int .i64 0] := fun L w' s => length_ok w' _ _ (hline.later s) (edges_lines h0 ed hel)
    focus (refine gw_guard_dec rfl rfl (fun _ => ?_) (fun _ => ?_); refine gU rfl ?_; refine gU rfl ?_; refine gU rfl ?_; refine gU rfl ?_; refine gU rfl ?_; refine gU rfl ?_; apply gw_d; exact det_pick_t (v := .bool _) rfl rfl rfl rfl; refine gO ?_; refine gc_if_true rfl ?_; refine gc_seq ?_; refine gc_region ?_; refine gM rfl rfl (by conv => (lhs; whnf)) ?_; refine gM rfl rfl (by conv => (lhs; whnf)) ?_; refine gM rfl rfl (by conv => (lhs; whnf)) ?_; refine gO ?_; refine gc_ret ?_; refine gx_then_ret ?_; refine gx_block_ret ?_; refine gx_then_ret ?_; refine gx_then_ret ?_; refine gx_block_ret ?_; refine gx_then_ret ?_; rotate_left; refine gF rfl rfl rfl ?_; apply gw_d; exact w_load_box rfl rfl rfl .here rfl; refine gF rfl rfl rfl ?_; apply gw_d; exact w_load_box rfl rfl rfl (.there (.there (.there .here))) rfl; refine gL rfl rfl rfl ?_; refine gC rfl rfl rfl rfl rfl ?_; apply gw_d; exact det_pick_f (v := .bool _) rfl rfl rfl rfl; refine gO ?_; refine gc_if_dec rfl (fun _ => ?_) (fun _ => ?_); refine gc_seq ?_; refine gc_region ?_; refine gM rfl rfl (by conv => (lhs; whnf)) ?_; refine gM rfl rfl (by conv => (lhs; whnf)) ?_; refine gM rfl rfl (by conv => (lhs; whnf)) ?_; refine gO ?_; refine gc_ret ?_; refine gx_then_ret ?_; refine gx_block_ret ?_; refine gx_then_ret ?_; refine gx_then_ret ?_; refine gx_block_ret ?_; refine gx_then_ret ?_; rotate_left; refine gc_skip ?_; refine gx_next ?_; refine gc_seq ?_; refine gc_region ?_; refine gF rfl rfl rfl ?_; apply gw_d; exact w_load_box rfl rfl rfl (.there (.there (.there .here))) rfl; refine gF rfl rfl rfl ?_; apply gw_d; exact w_load_box rfl rfl rfl .here rfl; apply gw_d; exact w_index (m := ed) rfl rfl rfl rfl hed hel; refine gF rfl rfl rfl ?_; apply gw_d; exact w_load_fld rfl rfl rfl (by assumption) (by assumption); apply gw_d; exact w_call rfl rfl (hLen _) rfl; refine gM rfl rfl (by conv => (lhs; whnf)) ?_; apply gw_d; exact det_extract rfl rfl rfl (by conv => (lhs; whnf)); apply gw_d; exact det_extract rfl rfl rfl (by conv => (lhs; whnf)); refine gM rfl rfl (by conv => (lhs; whnf)) ?_; refine gM rfl rfl (by conv => (lhs; whnf)) ?_; refine gO ?_; refine gc_seq ?_; refine gc_seq ?_; refine gc_region ?_; refine gM rfl rfl (by conv => (lhs; whnf)) ?_; refine gC rfl rfl rfl rfl rfl ?_; refine gO ?_; refine gc_if_dec rfl (fun _ => ?_) (fun _ => ?_); refine gc_seq ?_; refine gc_region ?_; refine gM rfl rfl (by conv => (lhs; whnf)) ?_; refine gM rfl rfl (by conv => (lhs; whnf)) ?_; refine gM rfl rfl (by conv => (lhs; whnf)) ?_; refine gM rfl rfl (by conv => (lhs; whnf)) ?_; refine gO ?_; refine gc_ret ?_; refine gx_then_ret ?_; refine gx_block_ret ?_; refine gx_then_ret ?_; refine gx_then_ret ?_; refine gx_block_ret ?_; refine gx_then_ret ?_; rotate_left; refine gc_skip ?_; refine gx_next ?_; refine gc_seq ?_; refine gc_region ?_; refine gM rfl rfl (by conv => (lhs; whnf)) ?_; refine gF rfl rfl rfl ?_; apply gw_d; exact w_load_box rfl rfl rfl .here rfl; rotate_left)
    all_goals first | (exfalso; omega) | skip
    refine gw_ent (K := Deep x.2.2 rEdge (.slice x.1 l.length x.2.1) l :: Box _ _ _ :: Own _ _ _ _ _ _ :: Box _ _ _ :: []) (Sub.ent (.cons (.there (.there .here)) (.cons .here (.cons .here (.cons .here .nil))))) ?_
    refine gw_pick (fun w' s => deep_at (i := ed) hel w w' s) (fun a ha => ?_)
    obtain ⟨x1, x2, xS⟩ := x
    dsimp only at ha ⊢
    subst ha
    have hLen2 : ∀ (L : List Res) (w' : World), St w (DeepAt xS (.slice (some a.1) l.length x2) l ed a :: L) w' → Ok Tryz.prog 96 [.slice a.2.1 (gE l ed).2.length a.2.2].toArray w' fun r _ => r = .tuple #[.int .i64 (lenL (gE l ed).2), .int .i64 0] := fun L w' s => length_ok w' _ _ (SlS.grow (fun b hb => (s.sep.fp _ List.mem_cons_self b hb).2) s.head.2.2.2.2) (edges_lines h0 ed hel)
    have hcd : ∀ (L : List Res) (w' : World), St w (DeepAt xS (.slice (some a.1) l.length x2) l ed a :: L) w' → w'.cell? ((a.1.add (ed * 2)).add 1) = some (.slice a.2.1 (gE l ed).2.length a.2.2) := fun L w' s => by rw [add_add]; exact s.head.2.2.2.1 1 _ rfl
    have hlr := lenL_range (line_good (edges_lines h0 ed hel))
    focus (apply gw_d; exact w_index (m := ed) rfl rfl rfl rfl hed hel; refine gF rfl rfl rfl ?_; apply gw_d; exact det_load rfl rfl rfl (fun w' s => run_loadVar1 CNotAgg.h (hcd _ w' s)); apply gw_d; exact w_call rfl rfl (hLen2 _) rfl; refine gM rfl rfl (by conv => (lhs; whnf)) ?_; apply gw_d; exact det_extract rfl rfl rfl (by conv => (lhs; whnf)); apply gw_d; exact det_extract rfl rfl rfl (by conv => (lhs; whnf)); refine gM rfl rfl (by conv => (lhs; whnf)) ?_; refine gM rfl rfl (by conv => (lhs; whnf)) ?_; refine gO ?_; refine gc_seq ?_; refine gc_seq ?_; refine gc_region ?_; refine gM rfl rfl (by conv => (lhs; whnf)) ?_; refine gC rfl rfl rfl rfl rfl ?_; refine gO ?_; refine gc_if_dec rfl (fun _ => ?_) (fun _ => ?_); refine gc_seq ?_; refine gc_region ?_; refine gM rfl rfl (by conv => (lhs; whnf)) ?_; refine gM rfl rfl (by conv => (lhs; whnf)) ?_; refine gM rfl rfl (by conv => (lhs; whnf)) ?_; refine gM rfl rfl (by conv => (lhs; whnf)) ?_; refine gO ?_; refine gc_ret ?_; refine gx_then_ret ?_; refine gx_block_ret ?_; refine gx_then_ret ?_; refine gx_then_ret ?_; refine gx_block_ret ?_; refine gx_then_ret ?_; rotate_left; refine gc_skip ?_; refine gx_next ?_; refine gc_seq ?_; refine gc_region ?_; refine gM rfl rfl (by conv => (lhs; whnf)) ?_; refine gM rfl rfl (by conv => (lhs; whnf)) ?_; refine gF rfl rfl rfl ?_; apply gw_d; exact w_load_box rfl rfl rfl (.there .here) rfl; rotate_left)
    all_goals first | (exfalso; omega) | skip
    have htn : nk.1.toNat = ed := by omega
    rw [htn] at hF
    by_cases hat : nk.2 < 0 ∨ nk.2 > lenL (gE l ed).2
    · rw [if_pos hat] at hF
      rw [hstop hF]
      focus (apply gw_d; exact w_call rfl rfl (fun w' _ => partner_bad w' _ _ (by omega) hat) rfl; refine gM rfl rfl (by conv => (lhs; whnf)) ?_; apply gw_d; exact det_extract rfl rfl rfl (by conv => (lhs; whnf)); apply gw_d; exact det_extract rfl rfl rfl (by conv => (lhs; whnf)); refine gM rfl rfl (by conv => (lhs; whnf)) ?_; refine gM rfl rfl (by conv => (lhs; whnf)) ?_; refine gO ?_; refine gc_seq ?_; refine gc_seq ?_; refine gc_region ?_; refine gM rfl rfl (by conv => (lhs; whnf)) ?_; refine gC rfl rfl rfl rfl rfl ?_; refine gO ?_; refine gc_if_dec rfl (fun _ => ?_) (fun _ => ?_); refine gc_seq ?_; refine gc_region ?_; refine gM rfl rfl (by conv => (lhs; whnf)) ?_; refine gM rfl rfl (by conv => (lhs; whnf)) ?_; refine gM rfl rfl (by conv => (lhs; whnf)) ?_; refine gM rfl rfl (by conv => (lhs; whnf)) ?_; refine gO ?_; refine gc_ret ?_; refine gx_then_ret ?_; refine gx_block_ret ?_; refine gx_then_ret ?_; refine gx_then_ret ?_; refine gx_block_ret ?_; refine gx_then_ret ?_; rotate_left; refine gc_skip ?_; refine gx_next ?_; refine gc_region ?_; refine gM rfl rfl (by conv => (lhs; whnf)) ?_; refine gM rfl rfl (by conv => (lhs; whnf)) ?_; rotate_left)
      all_goals first | (exfalso; omega) | skip
      all_goals (refine gx_ret3 (u := .slice _ _ _) (v := .slice _ _ _) (x := .int _ _) rfl rfl rfl rfl (fun _ _ => ?_); exact ⟨((none, 0, 0), (none, 0, 0)), rfl, trivial⟩)
    rw [if_neg hat] at hF
    obtain ⟨LN, hLN⟩ : ∃ n : Nat, lenL (gE l ed).2 = (n : Int) := ⟨(lenL (gE l ed).2).toNat, by omega⟩
    obtain ⟨aN, haN⟩ : ∃ n : Nat, nk.2 = (n : Int) := ⟨nk.2.toNat, by omega⟩
    rw [hLN, haN]
    focus (skip)
    refine gw_callm rfl (fun w s => partner_ok w LN aN (by omega) (by omega)) rfl (fun p => ?_)
    focus (refine gM rfl rfl (by conv => (lhs; whnf)) ?_; apply gw_d; exact det_extract rfl rfl rfl (by conv => (lhs; whnf)); apply gw_d; exact det_extract rfl rfl rfl (by conv => (lhs; whnf)); refine gM rfl rfl (by conv => (lhs; whnf)) ?_; refine gM rfl rfl (by conv => (lhs; whnf)) ?_; refine gO ?_; refine gc_seq ?_; refine gc_seq ?_; refine gc_region ?_; refine gM rfl rfl (by conv => (lhs; whnf)) ?_; refine gC rfl rfl rfl rfl rfl ?_; refine gO ?_; refine gc_if_dec rfl (fun _ => ?_) (fun _ => ?_); refine gc_seq ?_; refine gc_region ?_; refine gM rfl rfl (by conv => (lhs; whnf)) ?_; refine gM rfl rfl (by conv => (lhs; whnf)) ?_; refine gM rfl rfl (by conv => (lhs; whnf)) ?_; refine gM rfl rfl (by conv => (lhs; whnf)) ?_; refine gO ?_; refine gc_ret ?_; refine gx_then_ret ?_; refine gx_block_ret ?_; refine gx_then_ret ?_; refine gx_then_ret ?_; refine gx_block_ret ?_; refine gx_then_ret ?_; rotate_left; refine gc_skip ?_; refine gx_next ?_; refine gc_region ?_; refine gM rfl rfl (by conv => (lhs; whnf)) ?_; refine gM rfl rfl (by conv => (lhs; whnf)) ?_; rotate_left)
    all_goals first | (exfalso; omega) | skip
    refine gw_bslice1 (v := .int .i64 p) rfl rfl rfl rfl rfl (fun bb => ?_)
    refine gw_append (news := [.int .i64 p]) rfl rfl rfl (.there (.there (.there .here))) rfl (fun w' s _ => ?_) (fun u hu => ?_) (by unfold maxLen; omega) (by omega) (by decide) rfl (fun A3 c3 => ?_)
    · refine ⟨⟨bb, 0, none⟩, rfl, fun i u hu => ?_⟩
      rw [add_zero]
      refine (Box.cell s.head i).trans ?_
      change (#[Value.int .i64 p] : Array Value)[i]? = some u
      rw [List.getElem?_toArray]
      exact hu
    · rw [List.mem_singleton] at hu
      subst hu
      rfl
    · focus (refine gM rfl rfl (by conv => (lhs; whnf)) ?_; refine gw_nil ?_; refine gx_block ?_; refine gx_next ?_; refine gc_region ?_; apply gw_d; exact det_ar rfl rfl rfl rfl rfl (by omega); refine gM rfl rfl (by conv => (lhs; whnf)) ?_; refine gw_nil ?_)
      refine gx_roundE (k + 1, A3, c3, pls ++ [p]) ⟨hkn, by simp [hpl], firstE_snoc hI hF⟩ (by dsimp only; omega) (by repeat (first | exact Keeps.refl | refine Keeps.upd rfl ?_ | refine Keeps.sets rfl ?_ | refine Keeps.havoc rfl ?_)) ⟨rfl, by rw [List.length_append]; rfl, trivial⟩ ?_
      dsimp only
      rw [List.length_append, List.map_append]
      exact Ent.trans (Sub.ent (.cons (.there (.there .here)) (.cons .here (.cons (.there (.there .here)) .nil)))) (Ent.trans (fun w0 w s => s.same (q := Deep xS rEdge (.slice (some a.1) l.length x2) l) (fun b hb => hb) s.head.1) (Sub.ent (.cons (.there .here) (.cons .here (.cons .here .nil)))))
  · obtain rfl : k = ns.length := by omega
    focus (refine gc_exit ?_; refine gx_then_exit ?_; refine gx_then_exit ?_; refine gx_block_exit ?_; refine gx_next ?_; refine gc_seq ?_; refine gc_region ?_; refine gM rfl rfl (by conv => (lhs; whnf)) ?_; refine gM rfl rfl (by conv => (lhs; whnf)) ?_; refine gM rfl rfl (by conv => (lhs; whnf)) ?_; refine gM rfl rfl (by conv => (lhs; whnf)) ?_; refine gM rfl rfl (by conv => (lhs; whnf)) ?_; refine gO ?_; refine gc_ret ?_)
    refine gx_ret3 (u := .slice _ _ _) (v := .slice _ _ _) (x := .int _ _) rfl rfl rfl rfl (fun _ _ => ?_)
    exact ⟨((A, pls.length, c), (x.1, l.length, x.2.1)), by rw [hI], trivial⟩
end Go.Proofs.YtljibjlkjelpbaaGreatDoor

/- Contracts: notch.Placed for every piece. -/
namespace Go.Proofs.YtljibjlkjelpbaaGreatDoor
open Go.RowKit
set_option maxRecDepth 100000
set_option maxHeartbeats 4000000

theorem Placed_ok (w : World) (nm : ByteArray) (g : Int) (m : Bool) (Ae An Ac Aw : Option Addr) (ce cn cc nw cw : Nat) (l : List Edg) (cs ns : List (Int × Int))
    (hl : Sl rEdge w w.heap.size (.slice Ae l.length ce) l) (hns : Sl rSpot w w.heap.size (.slice An ns.length cn) ns) (hcs : Sl rSpot w w.heap.size (.slice Ac cs.length cc) cs) :
    OkM Tryz.prog 71 [.agg #[.string nm, .slice Ae l.length ce, .int .i64 g, .slice An ns.length cn, .slice Ac cs.length cc, .slice Aw nw cw, .bool m], .int .i64 0].toArray w
      (fun x : Option Addr × Nat × Nat => .tuple #[.slice x.1 x.2.1 x.2.2, .int .i64 (placedE l cs ns)]) (fun _ => []) := by
  unfold OkM
  refine ok_enter Tryz.func71 rfl Tryz.ntmps71 rfl ?_
  (repeat (first | (apply gw_d; (first | exact det_not rfl | (apply of_move; exact rfl; first | exact det_m rfl rfl (by conv => (lhs; whnf))) | (apply of_field; exact rfl; first | exact w_field rfl rfl rfl) | (apply of_load; exact rfl; first | exact w_load_box rfl rfl rfl .here rfl | exact w_load_box rfl rfl rfl (.there .here) rfl | exact w_load_at rfl rfl rfl (by assumption) (by assumption) | exact w_load_fld rfl rfl rfl (by assumption) (by assumption) | exact w_load_box rfl rfl rfl (.there (.there .here)) rfl | exact w_load_box rfl rfl rfl (.there (.there (.there .here))) rfl | exact w_load_box rfl rfl rfl (.there (.there (.there (.there .here)))) rfl | exact w_load_boxN rfl rfl rfl .here rfl | exact w_load_boxN rfl rfl rfl (.there .here) rfl | exact w_load_boxN rfl rfl rfl (.there (.there .here)) rfl | exact w_load_boxN rfl rfl rfl (.there (.there (.there .here))) rfl | exact w_load_boxN rfl rfl rfl (.there (.there (.there (.there .here)))) rfl | exact w_load_elem rfl rfl rfl (by assumption) (by assumption) (by rfl) | exact w_load_part rfl rfl rfl .here rfl rfl | exact w_load_part rfl rfl rfl (.there .here) rfl rfl | exact w_load_part rfl rfl rfl (.there (.there .here)) rfl rfl | exact w_load_part rfl rfl rfl (.there (.there (.there .here))) rfl rfl | exact w_load_part rfl rfl rfl (.there (.there (.there (.there .here)))) rfl rfl) | (apply of_bin; exact rfl; first | exact det_cmp rfl rfl rfl rfl rfl | exact det_ar rfl rfl rfl rfl rfl (by omega) | exact w_eq2 rfl rfl rfl rfl | exact w_ne2 rfl rfl rfl rfl | exact det_rem rfl rfl rfl rfl (by omega) (by omega) | exact det_quo rfl rfl rfl rfl (by omega) (by omega) (by omega) | exact det_seq rfl rfl rfl rfl | exact det_sne rfl rfl rfl rfl | exact det_beq rfl rfl rfl rfl rfl | exact det_bne rfl rfl rfl rfl rfl) | (apply of_call; exact rfl; first | exact w_len rfl rfl rfl | exact w_len_str rfl rfl rfl | exact w_max rfl rfl rfl rfl | exact w_min rfl rfl rfl rfl) | (apply of_index; exact rfl; first | exact w_index rfl rfl rfl rfl (by first | with_reducible exact rfl | with_reducible exact castA _ | with_reducible exact castS (by omega) | with_reducible exact castM _ _ | with_reducible exact cast0 | with_reducible exact castC _ _ | with_reducible exact castN _ _ | with_reducible exact castR _ _ | with_reducible exact castB _ | with_reducible exact cast1 | exact rfl) (by first | omega | exact Nat.mod_lt _ (by omega))) | (apply of_un; exact rfl; first | exact det_not_dec rfl rfl rfl | exact det_not_ rfl rfl rfl) | (apply of_pick; exact rfl; first | exact det_pick_t (v := .bool _) rfl rfl rfl rfl | exact det_pick_f (v := .bool _) rfl rfl rfl rfl) | (apply of_extract; exact rfl; first | exact det_extract rfl rfl rfl (by conv => (lhs; whnf))) | (apply of_cut; exact rfl; first | exact w_cut_hi rfl rfl rfl rfl (by first | with_reducible exact rfl | with_reducible exact castA _ | with_reducible exact castS (by omega) | with_reducible exact castM _ _ | with_reducible exact cast0 | with_reducible exact castC _ _ | with_reducible exact castN _ _ | with_reducible exact castR _ _ | with_reducible exact castB _ | with_reducible exact cast1 | exact rfl) (by omega)) | (apply of_sidx; exact rfl; first | exact w_sidx rfl rfl rfl rfl (by first | with_reducible exact rfl | with_reducible exact castA _ | with_reducible exact castS (by omega) | with_reducible exact castM _ _ | with_reducible exact cast0 | with_reducible exact castC _ _ | with_reducible exact castN _ _ | with_reducible exact castR _ _ | with_reducible exact castB _ | with_reducible exact cast1 | exact rfl) (by first | omega | exact Nat.mod_lt _ (by omega))))) | (apply gd_d; (first | exact det_not rfl | (apply of_move; exact rfl; first | exact det_m rfl rfl (by conv => (lhs; whnf))) | (apply of_field; exact rfl; first | exact w_field rfl rfl rfl) | (apply of_load; exact rfl; first | exact w_load_box rfl rfl rfl .here rfl | exact w_load_box rfl rfl rfl (.there .here) rfl | exact w_load_at rfl rfl rfl (by assumption) (by assumption) | exact w_load_fld rfl rfl rfl (by assumption) (by assumption) | exact w_load_box rfl rfl rfl (.there (.there .here)) rfl | exact w_load_box rfl rfl rfl (.there (.there (.there .here))) rfl | exact w_load_box rfl rfl rfl (.there (.there (.there (.there .here)))) rfl | exact w_load_boxN rfl rfl rfl .here rfl | exact w_load_boxN rfl rfl rfl (.there .here) rfl | exact w_load_boxN rfl rfl rfl (.there (.there .here)) rfl | exact w_load_boxN rfl rfl rfl (.there (.there (.there .here))) rfl | exact w_load_boxN rfl rfl rfl (.there (.there (.there (.there .here)))) rfl | exact w_load_elem rfl rfl rfl (by assumption) (by assumption) (by rfl) | exact w_load_part rfl rfl rfl .here rfl rfl | exact w_load_part rfl rfl rfl (.there .here) rfl rfl | exact w_load_part rfl rfl rfl (.there (.there .here)) rfl rfl | exact w_load_part rfl rfl rfl (.there (.there (.there .here))) rfl rfl | exact w_load_part rfl rfl rfl (.there (.there (.there (.there .here)))) rfl rfl) | (apply of_bin; exact rfl; first | exact det_cmp rfl rfl rfl rfl rfl | exact det_ar rfl rfl rfl rfl rfl (by omega) | exact w_eq2 rfl rfl rfl rfl | exact w_ne2 rfl rfl rfl rfl | exact det_rem rfl rfl rfl rfl (by omega) (by omega) | exact det_quo rfl rfl rfl rfl (by omega) (by omega) (by omega) | exact det_seq rfl rfl rfl rfl | exact det_sne rfl rfl rfl rfl | exact det_beq rfl rfl rfl rfl rfl | exact det_bne rfl rfl rfl rfl rfl) | (apply of_call; exact rfl; first | exact w_len rfl rfl rfl | exact w_len_str rfl rfl rfl | exact w_max rfl rfl rfl rfl | exact w_min rfl rfl rfl rfl) | (apply of_index; exact rfl; first | exact w_index rfl rfl rfl rfl (by first | with_reducible exact rfl | with_reducible exact castA _ | with_reducible exact castS (by omega) | with_reducible exact castM _ _ | with_reducible exact cast0 | with_reducible exact castC _ _ | with_reducible exact castN _ _ | with_reducible exact castR _ _ | with_reducible exact castB _ | with_reducible exact cast1 | exact rfl) (by first | omega | exact Nat.mod_lt _ (by omega))) | (apply of_un; exact rfl; first | exact det_not_dec rfl rfl rfl | exact det_not_ rfl rfl rfl) | (apply of_pick; exact rfl; first | exact det_pick_t (v := .bool _) rfl rfl rfl rfl | exact det_pick_f (v := .bool _) rfl rfl rfl rfl) | (apply of_extract; exact rfl; first | exact det_extract rfl rfl rfl (by conv => (lhs; whnf))) | (apply of_cut; exact rfl; first | exact w_cut_hi rfl rfl rfl rfl (by first | with_reducible exact rfl | with_reducible exact castA _ | with_reducible exact castS (by omega) | with_reducible exact castM _ _ | with_reducible exact cast0 | with_reducible exact castC _ _ | with_reducible exact castN _ _ | with_reducible exact castR _ _ | with_reducible exact castB _ | with_reducible exact cast1 | exact rfl) (by omega)) | (apply of_sidx; exact rfl; first | exact w_sidx rfl rfl rfl rfl (by first | with_reducible exact rfl | with_reducible exact castA _ | with_reducible exact castS (by omega) | with_reducible exact castM _ _ | with_reducible exact cast0 | with_reducible exact castC _ _ | with_reducible exact castN _ _ | with_reducible exact castR _ _ | with_reducible exact castB _ | with_reducible exact cast1 | exact rfl) (by first | omega | exact Nat.mod_lt _ (by omega))))) | refine gw_nil ?_ | refine gx_next ?_ | refine gc_seq ?_ | refine gc_region ?_ | refine gc_block ?_ | refine gc_skip ?_ | refine gc_exit ?_ | refine gc_ret ?_ | refine gx_block ?_ | refine gx_block_exit ?_ | refine gx_block_ret ?_ | refine gx_then_ret ?_ | refine gx_then_exit ?_ | refine gx_block_other rfl ?_ | refine gd_nil ?_ | refine gw_boxd (v := .agg _) rfl rfl (fun _ => ?_) | refine w_alloc rfl (fun _ => ?_) | refine w_store_all rfl rfl rfl rfl rfl .here rfl ?_ | refine w_store_all rfl rfl rfl rfl rfl (.there .here) rfl ?_ | refine w_store_all rfl rfl rfl rfl rfl (.there (.there .here)) rfl ?_ | refine w_store_all rfl rfl rfl rfl rfl (.there (.there (.there .here))) rfl ?_ | refine w_store_all rfl rfl rfl rfl rfl (.there (.there (.there (.there .here)))) rfl ?_ | refine w_store rfl rfl rfl rfl rfl .here rfl rfl ?_ | refine w_store rfl rfl rfl rfl rfl (.there .here) rfl rfl ?_ | refine w_store rfl rfl rfl rfl rfl (.there (.there .here)) rfl rfl ?_ | refine w_store rfl rfl rfl rfl rfl (.there (.there (.there .here))) rfl rfl ?_ | refine w_store rfl rfl rfl rfl rfl (.there (.there (.there (.there .here)))) rfl rfl ?_))
  refine gw_callm rfl (fun w s => placed_ok w nm g m _ _ _ _ _ _ _ _ _ l cs ns (hl.later s) (hns.later s) (hcs.later s)) rfl (fun x => ?_)
  (repeat (first | (apply gw_d; (first | exact det_not rfl | (apply of_move; exact rfl; first | exact det_m rfl rfl (by conv => (lhs; whnf))) | (apply of_field; exact rfl; first | exact w_field rfl rfl rfl) | (apply of_load; exact rfl; first | exact w_load_box rfl rfl rfl .here rfl | exact w_load_box rfl rfl rfl (.there .here) rfl | exact w_load_at rfl rfl rfl (by assumption) (by assumption) | exact w_load_fld rfl rfl rfl (by assumption) (by assumption) | exact w_load_box rfl rfl rfl (.there (.there .here)) rfl | exact w_load_box rfl rfl rfl (.there (.there (.there .here))) rfl | exact w_load_box rfl rfl rfl (.there (.there (.there (.there .here)))) rfl | exact w_load_boxN rfl rfl rfl .here rfl | exact w_load_boxN rfl rfl rfl (.there .here) rfl | exact w_load_boxN rfl rfl rfl (.there (.there .here)) rfl | exact w_load_boxN rfl rfl rfl (.there (.there (.there .here))) rfl | exact w_load_boxN rfl rfl rfl (.there (.there (.there (.there .here)))) rfl | exact w_load_elem rfl rfl rfl (by assumption) (by assumption) (by rfl) | exact w_load_part rfl rfl rfl .here rfl rfl | exact w_load_part rfl rfl rfl (.there .here) rfl rfl | exact w_load_part rfl rfl rfl (.there (.there .here)) rfl rfl | exact w_load_part rfl rfl rfl (.there (.there (.there .here))) rfl rfl | exact w_load_part rfl rfl rfl (.there (.there (.there (.there .here)))) rfl rfl) | (apply of_bin; exact rfl; first | exact det_cmp rfl rfl rfl rfl rfl | exact det_ar rfl rfl rfl rfl rfl (by omega) | exact w_eq2 rfl rfl rfl rfl | exact w_ne2 rfl rfl rfl rfl | exact det_rem rfl rfl rfl rfl (by omega) (by omega) | exact det_quo rfl rfl rfl rfl (by omega) (by omega) (by omega) | exact det_seq rfl rfl rfl rfl | exact det_sne rfl rfl rfl rfl | exact det_beq rfl rfl rfl rfl rfl | exact det_bne rfl rfl rfl rfl rfl) | (apply of_call; exact rfl; first | exact w_len rfl rfl rfl | exact w_len_str rfl rfl rfl | exact w_max rfl rfl rfl rfl | exact w_min rfl rfl rfl rfl) | (apply of_index; exact rfl; first | exact w_index rfl rfl rfl rfl (by first | with_reducible exact rfl | with_reducible exact castA _ | with_reducible exact castS (by omega) | with_reducible exact castM _ _ | with_reducible exact cast0 | with_reducible exact castC _ _ | with_reducible exact castN _ _ | with_reducible exact castR _ _ | with_reducible exact castB _ | with_reducible exact cast1 | exact rfl) (by first | omega | exact Nat.mod_lt _ (by omega))) | (apply of_un; exact rfl; first | exact det_not_dec rfl rfl rfl | exact det_not_ rfl rfl rfl) | (apply of_pick; exact rfl; first | exact det_pick_t (v := .bool _) rfl rfl rfl rfl | exact det_pick_f (v := .bool _) rfl rfl rfl rfl) | (apply of_extract; exact rfl; first | exact det_extract rfl rfl rfl (by conv => (lhs; whnf))) | (apply of_cut; exact rfl; first | exact w_cut_hi rfl rfl rfl rfl (by first | with_reducible exact rfl | with_reducible exact castA _ | with_reducible exact castS (by omega) | with_reducible exact castM _ _ | with_reducible exact cast0 | with_reducible exact castC _ _ | with_reducible exact castN _ _ | with_reducible exact castR _ _ | with_reducible exact castB _ | with_reducible exact cast1 | exact rfl) (by omega)) | (apply of_sidx; exact rfl; first | exact w_sidx rfl rfl rfl rfl (by first | with_reducible exact rfl | with_reducible exact castA _ | with_reducible exact castS (by omega) | with_reducible exact castM _ _ | with_reducible exact cast0 | with_reducible exact castC _ _ | with_reducible exact castN _ _ | with_reducible exact castR _ _ | with_reducible exact castB _ | with_reducible exact cast1 | exact rfl) (by first | omega | exact Nat.mod_lt _ (by omega))))) | (apply gd_d; (first | exact det_not rfl | (apply of_move; exact rfl; first | exact det_m rfl rfl (by conv => (lhs; whnf))) | (apply of_field; exact rfl; first | exact w_field rfl rfl rfl) | (apply of_load; exact rfl; first | exact w_load_box rfl rfl rfl .here rfl | exact w_load_box rfl rfl rfl (.there .here) rfl | exact w_load_at rfl rfl rfl (by assumption) (by assumption) | exact w_load_fld rfl rfl rfl (by assumption) (by assumption) | exact w_load_box rfl rfl rfl (.there (.there .here)) rfl | exact w_load_box rfl rfl rfl (.there (.there (.there .here))) rfl | exact w_load_box rfl rfl rfl (.there (.there (.there (.there .here)))) rfl | exact w_load_boxN rfl rfl rfl .here rfl | exact w_load_boxN rfl rfl rfl (.there .here) rfl | exact w_load_boxN rfl rfl rfl (.there (.there .here)) rfl | exact w_load_boxN rfl rfl rfl (.there (.there (.there .here))) rfl | exact w_load_boxN rfl rfl rfl (.there (.there (.there (.there .here)))) rfl | exact w_load_elem rfl rfl rfl (by assumption) (by assumption) (by rfl) | exact w_load_part rfl rfl rfl .here rfl rfl | exact w_load_part rfl rfl rfl (.there .here) rfl rfl | exact w_load_part rfl rfl rfl (.there (.there .here)) rfl rfl | exact w_load_part rfl rfl rfl (.there (.there (.there .here))) rfl rfl | exact w_load_part rfl rfl rfl (.there (.there (.there (.there .here)))) rfl rfl) | (apply of_bin; exact rfl; first | exact det_cmp rfl rfl rfl rfl rfl | exact det_ar rfl rfl rfl rfl rfl (by omega) | exact w_eq2 rfl rfl rfl rfl | exact w_ne2 rfl rfl rfl rfl | exact det_rem rfl rfl rfl rfl (by omega) (by omega) | exact det_quo rfl rfl rfl rfl (by omega) (by omega) (by omega) | exact det_seq rfl rfl rfl rfl | exact det_sne rfl rfl rfl rfl | exact det_beq rfl rfl rfl rfl rfl | exact det_bne rfl rfl rfl rfl rfl) | (apply of_call; exact rfl; first | exact w_len rfl rfl rfl | exact w_len_str rfl rfl rfl | exact w_max rfl rfl rfl rfl | exact w_min rfl rfl rfl rfl) | (apply of_index; exact rfl; first | exact w_index rfl rfl rfl rfl (by first | with_reducible exact rfl | with_reducible exact castA _ | with_reducible exact castS (by omega) | with_reducible exact castM _ _ | with_reducible exact cast0 | with_reducible exact castC _ _ | with_reducible exact castN _ _ | with_reducible exact castR _ _ | with_reducible exact castB _ | with_reducible exact cast1 | exact rfl) (by first | omega | exact Nat.mod_lt _ (by omega))) | (apply of_un; exact rfl; first | exact det_not_dec rfl rfl rfl | exact det_not_ rfl rfl rfl) | (apply of_pick; exact rfl; first | exact det_pick_t (v := .bool _) rfl rfl rfl rfl | exact det_pick_f (v := .bool _) rfl rfl rfl rfl) | (apply of_extract; exact rfl; first | exact det_extract rfl rfl rfl (by conv => (lhs; whnf))) | (apply of_cut; exact rfl; first | exact w_cut_hi rfl rfl rfl rfl (by first | with_reducible exact rfl | with_reducible exact castA _ | with_reducible exact castS (by omega) | with_reducible exact castM _ _ | with_reducible exact cast0 | with_reducible exact castC _ _ | with_reducible exact castN _ _ | with_reducible exact castR _ _ | with_reducible exact castB _ | with_reducible exact cast1 | exact rfl) (by omega)) | (apply of_sidx; exact rfl; first | exact w_sidx rfl rfl rfl rfl (by first | with_reducible exact rfl | with_reducible exact castA _ | with_reducible exact castS (by omega) | with_reducible exact castM _ _ | with_reducible exact cast0 | with_reducible exact castC _ _ | with_reducible exact castN _ _ | with_reducible exact castR _ _ | with_reducible exact castB _ | with_reducible exact cast1 | exact rfl) (by first | omega | exact Nat.mod_lt _ (by omega))))) | refine gw_nil ?_ | refine gx_next ?_ | refine gc_seq ?_ | refine gc_region ?_ | refine gc_block ?_ | refine gc_skip ?_ | refine gc_exit ?_ | refine gc_ret ?_ | refine gx_block ?_ | refine gx_block_exit ?_ | refine gx_block_ret ?_ | refine gx_then_ret ?_ | refine gx_then_exit ?_ | refine gx_block_other rfl ?_ | refine gd_nil ?_ | refine gw_boxd (v := .agg _) rfl rfl (fun _ => ?_) | refine w_alloc rfl (fun _ => ?_) | refine w_store_all rfl rfl rfl rfl rfl .here rfl ?_ | refine w_store_all rfl rfl rfl rfl rfl (.there .here) rfl ?_ | refine w_store_all rfl rfl rfl rfl rfl (.there (.there .here)) rfl ?_ | refine w_store_all rfl rfl rfl rfl rfl (.there (.there (.there .here))) rfl ?_ | refine w_store_all rfl rfl rfl rfl rfl (.there (.there (.there (.there .here)))) rfl ?_ | refine w_store rfl rfl rfl rfl rfl .here rfl rfl ?_ | refine w_store rfl rfl rfl rfl rfl (.there .here) rfl rfl ?_ | refine w_store rfl rfl rfl rfl rfl (.there (.there .here)) rfl rfl ?_ | refine w_store rfl rfl rfl rfl rfl (.there (.there (.there .here))) rfl rfl ?_ | refine w_store rfl rfl rfl rfl rfl (.there (.there (.there (.there .here)))) rfl rfl ?_))
  refine gx_ret2 (u := .slice _ _ _) (v := .int _ _) rfl rfl rfl (fun _ _ => ?_)
  exact ⟨x.1, rfl, trivial⟩
end Go.Proofs.YtljibjlkjelpbaaGreatDoor
