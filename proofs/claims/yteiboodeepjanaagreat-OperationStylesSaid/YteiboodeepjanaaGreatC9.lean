/- Contracts: outlines. -/
import Derived.Test.YteiboodeepjanaaGreatC8
import Derived.Test.YteiboodeepjanaaGreatFwH
namespace Go.Proofs.YteiboodeepjanaaGreat
open Go.RowKit
set_option maxRecDepth 100000
set_option maxHeartbeats 2000000


/-- The first error of f 0, f 1, .. -/
def firstE (f : Nat → Int) : Nat → Int
  | 0 => 0
  | n + 1 => if firstE f n = 0 then f n else firstE f n
theorem firstE_snoc {f : Nat → Int} {k : Nat} (h : firstE f k = 0) (hf : f k = 0) : firstE f (k + 1) = 0 := by
  show (if firstE f k = 0 then f k else firstE f k) = 0
  rw [if_pos h, hf]
theorem firstE_stop {f : Nat → Int} {k : Nat} (h : firstE f k = 0) (hf : ¬ f k = 0) : ∀ {n}, k < n → firstE f n = f k
  | 0, hn => by omega
  | n + 1, hn => by
    show (if firstE f n = 0 then f n else firstE f n) = f k
    by_cases he : n = k
    · subst he; rw [if_pos h]
    · have := firstE_stop h hf (n := n) (by omega)
      rw [this, if_neg hf]
theorem firstE_at {f : Nat → Int} : ∀ {n}, firstE f n = 0 → ∀ k, k < n → f k = 0
  | 0, _, k, hk => by omega
  | n + 1, h, k, hk => by
    have h' : (if firstE f n = 0 then f n else firstE f n) = 0 := h
    split at h'
    · rename_i h0
      by_cases he : k = n
      · rw [he]; exact h'
      · exact firstE_at h0 k (by omega)
    · rename_i h0; exact absurd h' h0

/-! ### Edges -/
abbrev Edg := ByteArray × List (Int × Int)
def rEdge : Rp Edg where
  size := 2
  rep w S p cs := ∃ v, cs = [.string p.1, v] ∧ p.1.size ≤ maxLen ∧ SlS rSpot w S v p.2
  len h := by obtain ⟨v, rfl, _⟩ := h; rfl
  mono hb h := by obtain ⟨v, h0, h1, h2⟩ := h; exact ⟨v, h0, h1, h2.mono hb⟩
  grow hB h := by obtain ⟨v, h0, h1, h2⟩ := h; exact ⟨v, h0, h1, h2.grow hB⟩
def gE (l : List Edg) (k : Nat) : Edg := l.getD k (ByteArray.empty, [])
theorem gE_get {l : List Edg} {k : Nat} (hk : k < l.length) : gE l k = l[k] := by
  unfold gE
  simp [hk]
theorem Sl.edge' {w : World} {B : Nat} {v : Value} {l : List Edg} (h : Sl rEdge w B v l) (hl : 0 < l.length) : ∃ ad c, v = .slice (some ad) l.length c ∧ l.length ≤ c ∧ l.length ≤ 9223372036854775807 ∧ ad.block < B ∧
    ∀ k (_ : k < l.length), ∃ A' c', (∀ j u, [Value.string (gE l k).1, Value.slice A' (gE l k).2.length c'][j]? = some u → w.cell? (ad.add (k * 2 + j)) = some u) ∧ (gE l k).1.size ≤ 9223372036854775807 ∧
      (gE l k).2.length ≤ c' ∧ (gE l k).2.length ≤ 9223372036854775807 ∧ Sl rSpot w B (.slice A' (gE l k).2.length c') (gE l k).2 := by
  obtain ⟨A, c, hv, h1, h2, h3⟩ := h
  obtain ⟨ad, _, ha, hlt, _⟩ := h3 0 hl
  subst ha
  refine ⟨ad, c, hv, h1, by unfold maxLen at h2; omega, hlt, fun k hk => ?_⟩
  obtain ⟨ad', cs, ha, _, hc, u, rfl, hs, hsl⟩ := h3 k hk
  injection ha with ha
  subst ha
  rw [gE_get hk]
  obtain ⟨A', c', rfl, h4, h5⟩ := len_small hsl
  exact ⟨A', c', hc, by unfold maxLen at hs; omega, h4, h5, hsl⟩
theorem Sl.spots_in {w : World} {B : Nat} {v : Value} {l : List (Int × Int)} (h : Sl rSpot w B v l) : ∀ p ∈ l, inI64 p.1 ∧ inI64 p.2 := fun p hp => by
  obtain ⟨A, c, _, _, _, h3⟩ := h
  obtain ⟨k, hk, rfl⟩ := List.getElem_of_mem hp
  obtain ⟨_, _, _, _, _, hr⟩ := h3 k hk
  exact hr.2
theorem Sl.edges_in {w : World} {B : Nat} {v : Value} {l : List Edg} (h : Sl rEdge w B v l) : ∀ x ∈ l, ∃ u, Sl rSpot w B u x.2 := fun p hp => by
  obtain ⟨A, c, _, _, _, h3⟩ := h
  obtain ⟨k, hk, rfl⟩ := List.getElem_of_mem hp
  obtain ⟨_, _, _, _, _, u, _, _, hr⟩ := h3 k hk
  exact ⟨u, hr⟩

/-! ### Slices of spots as one row of cells -/
def encS (p : Int × Int) : List Value := [.int .i64 p.1, .int .i64 p.2]
theorem encS_len (l : List (Int × Int)) : (l.flatMap encS).length = l.length * 2 := by
  induction l with
  | nil => rfl
  | cons p l ih => rw [List.flatMap_cons, List.length_append, ih]; simp [encS]; omega
theorem encS_one (l : List (Int × Int)) : ∀ u ∈ l.flatMap encS, u.oneCell' = true := fun u hu => by
  rw [List.mem_flatMap] at hu
  obtain ⟨p, _, hu⟩ := hu
  simp only [encS, List.mem_cons, List.not_mem_nil, or_false] at hu
  rcases hu with rfl | rfl <;> rfl
theorem Sl.row {w : World} {B : Nat} {A : Option Addr} {n c : Nat} {l : List (Int × Int)} (h : Sl rSpot w B (.slice A n c) l) (hl : 0 < l.length) : ∃ ad, A = some ad ∧ ∀ j u, (l.flatMap encS)[j]? = some u → w.cell? (ad.add j) = some u := by
  obtain ⟨ad, c', hv, _, _, _, hcell⟩ := h.spot' hl
  injection hv with e1 e2 e3
  subst e1
  refine ⟨ad, rfl, fun j u hu => ?_⟩
  have hj : j < (l.flatMap encS).length := (List.getElem?_eq_some_iff.1 hu).1
  rw [encS_len] at hj
  have hk : j / 2 < l.length := by omega
  have h2 := flat_get (enc := encS) (sz := 2) l (fun _ _ => rfl) (j / 2) hk (j % 2) (by omega)
  rw [show j / 2 * 2 + j % 2 = j by omega, hu] at h2
  have h3 := hcell (j / 2) hk (j % 2) u (by rw [gS_get hk]; exact h2.symm)
  rwa [show j / 2 * 2 + j % 2 = j by omega] at h3

/-! ### Vertices -/
def vertsOf (l : List Edg) : List (Int × Int) := l.flatMap fun x => x.2.dropLast
theorem verts_snoc {l : List Edg} {k : Nat} (hk : k < l.length) : vertsOf (l.take (k + 1)) = vertsOf (l.take k) ++ (gE l k).2.dropLast := by
  unfold vertsOf
  rw [List.take_succ_eq_append_getElem hk, List.flatMap_append, gE_get hk]
  simp
theorem verts_le {l : List Edg} (h : ∀ x ∈ l, x.2.length ≤ 40) : (vertsOf l).length ≤ l.length * 40 := by
  induction l with
  | nil => simp [vertsOf]
  | cons x l ih =>
    have h1 := h x List.mem_cons_self
    have h2 := ih fun y hy => h y (List.mem_cons_of_mem _ hy)
    unfold vertsOf at *
    rw [List.flatMap_cons, List.length_append, List.length_dropLast, List.length_cons]
    omega
theorem verts_in {w : World} {B : Nat} {v : Value} {l : List Edg} (h : Sl rEdge w B v l) : ∀ p ∈ vertsOf l, inI64 p.1 ∧ inI64 p.2 := fun p hp => by
  unfold vertsOf at hp
  rw [List.mem_flatMap] at hp
  obtain ⟨x, hx, hp⟩ := hp
  obtain ⟨u, hu⟩ := h.edges_in x hx
  exact hu.spots_in p (List.dropLast_subset _ hp)

theorem vertices_ok (w : World) (v : Value) (l : List Edg) (hl : Sl rEdge w w.heap.size v l) (h0 : 0 < l.length) (h16 : l.length ≤ 16) (hlen : ∀ x ∈ l, 1 ≤ x.2.length ∧ x.2.length ≤ 40) :
    OkM Tryz.prog 89 [v].toArray w (fun x : Option Addr × Nat => .slice x.1 (vertsOf l).length x.2) (fun x => [Own x.1 (vertsOf l).length x.2 69 2 ((vertsOf l).flatMap encS)]) := by
  obtain ⟨ad, c, rfl, hc, hm, hb, hcell⟩ := hl.edge' h0
  unfold OkM
  refine ok_enter Tryz.func89 rfl Tryz.ntmps89 rfl ?_
  refine gc_own0 69 2 ?_
  focus (refine gc_seq ?_; refine gc_region ?_; apply gw_d; exact det_m rfl rfl (by conv => (lhs; whnf)); refine gw_nil ?_; refine gx_next ?_; refine gc_seq ?_; refine gc_region ?_; apply gw_d; exact det_m rfl rfl (by conv => (lhs; whnf)); refine gw_nil ?_; refine gx_next ?_; refine gc_seq ?_; refine gc_seq ?_; refine gc_region ?_; apply gw_d; exact det_m rfl rfl (by conv => (lhs; whnf)); apply gw_d; exact w_len rfl rfl rfl; apply gw_d; exact det_m rfl rfl (by conv => (lhs; whnf)); refine gw_nil ?_; refine gx_next ?_; refine gc_block ?_)
  refine gc_loop (σ := Nat × Option Addr × Nat) [9, 10, 11, 5, 12, 13, 14, 15, 16, 17, 18, 19, 20, 3, 21, 8] (fun s => [(3, .slice s.2.1 (vertsOf (l.take s.1)).length s.2.2), (8, .int .i64 s.1)]) (fun s => [Own s.2.1 (vertsOf (l.take s.1)).length s.2.2 69 2 ((vertsOf (l.take s.1)).flatMap encS)])
    (fun s => s.1 ≤ l.length) (fun s => l.length - s.1) (0, none, 0) (Nat.zero_le _) ⟨rfl, rfl, trivial⟩ (.cons .here .nil) ?_
  rintro ⟨k, A, c2⟩ base hk
  dsimp only at hk ⊢
  focus (refine gc_seq ?_; refine gc_region ?_; apply gw_d; exact det_cmp rfl rfl rfl rfl rfl; refine gw_nil ?_; refine gx_next ?_; refine gc_seq ?_)
  refine gc_if_dec rfl (fun h => ?_) (fun h => ?_)
  · have hlt : k < l.length := by omega
    obtain ⟨A1, c1, hce, hsz, hc1, hm1, hsl⟩ := hcell k hlt
    obtain ⟨h1, h2⟩ := hlen _ (by rw [gE_get hlt]; exact List.getElem_mem hlt : gE l k ∈ l)
    have hv := verts_snoc hlt
    have hn : (vertsOf (l.take (k + 1))).length = (vertsOf (l.take k)).length + ((gE l k).2.length - 1) := by rw [hv, List.length_append, List.length_dropLast]
    have hle := verts_le (l := l.take k) (fun x hx => (hlen x (List.mem_of_mem_take hx)).2)
    rw [List.length_take] at hle
    have hlast : (gE l k).2.dropLast = (gE l k).2.take ((gE l k).2.length - 1) := List.dropLast_eq_take
    have hsl2 := hsl.take (m := (gE l k).2.length - 1) (by omega)
    focus (refine gc_skip ?_; refine gx_next ?_; refine gc_seq ?_; refine gc_block ?_; refine gc_seq ?_; refine gc_region ?_; apply gw_d; exact w_index rfl rfl rfl rfl (by with_reducible exact rfl) (by omega); apply gw_d; exact w_load_elem rfl rfl rfl (by assumption) (by assumption) (by rfl); refine w_alloc rfl (fun _ => ?_); refine w_store_all rfl rfl rfl rfl rfl .here rfl ?_; refine gw_nil ?_; refine gx_next ?_; refine gc_region ?_; apply gw_d; exact det_m rfl rfl (by conv => (lhs; whnf)); apply gw_d; exact w_field rfl rfl rfl; apply gw_d; exact w_load_box rfl rfl rfl .here rfl; apply gw_d; exact w_field rfl rfl rfl; apply gw_d; exact w_load_box rfl rfl rfl .here rfl; apply gw_d; exact w_len rfl rfl rfl; apply gw_d; exact det_ar rfl rfl rfl rfl rfl (by omega); apply gw_d; exact w_cut_hi rfl rfl rfl rfl (by with_reducible exact castS (by omega)) (by omega))
    refine gw_append (news := ((gE l k).2.dropLast).flatMap encS) rfl rfl rfl (.there .here) (by rw [encS_len, List.length_dropLast]) (fun w' s hpos => ?_) (encS_one _) (by unfold maxLen; omega) (by omega) (by decide) rfl (fun A2 c3 => ?_)
    · rw [hlast]
      exact (hsl2.later s).row (by rw [List.length_take]; omega)
    · focus (apply gw_d; exact det_m rfl rfl (by conv => (lhs; whnf)); refine gw_nil ?_; refine gx_block ?_; refine gx_next ?_; refine gc_region ?_; apply gw_d; exact det_ar rfl rfl rfl rfl rfl (by omega); apply gw_d; exact det_m rfl rfl (by conv => (lhs; whnf)); refine gw_nil ?_)
      exact gx_round (k + 1, A2, c3) (by dsimp only; omega) (by dsimp only; omega) (by repeat (first | exact Keeps.refl | refine Keeps.upd rfl ?_ | refine Keeps.sets rfl ?_ | refine Keeps.havoc rfl ?_)) ⟨by rw [hn]; rfl, rfl, trivial⟩ (by rw [hn, hv, List.flatMap_append]; exact .cons .here .nil)
  · obtain rfl : k = l.length := by omega
    rw [List.take_length]
    focus (refine gc_exit ?_; refine gx_then_exit ?_; refine gx_then_exit ?_; refine gx_block_exit ?_; refine gx_next ?_; refine gc_seq ?_; refine gc_region ?_; apply gw_d; exact det_m rfl rfl (by conv => (lhs; whnf)); apply gw_d; exact det_m rfl rfl (by conv => (lhs; whnf)); refine gw_nil ?_; refine gx_next ?_; refine gc_ret ?_)
    exact gx_ret1 rfl rfl fun w s => ⟨(A, c2), rfl, s.sep⟩
end Go.Proofs.YteiboodeepjanaaGreat
