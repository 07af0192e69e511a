/- Contracts: the outline of a piece, graded by a multiple of 0. -/
import Derived.Test.YteiboodeepjanaaGreatC11
namespace Go.Proofs.YteiboodeepjanaaGreat
open Go.RowKit
set_option maxRecDepth 100000
set_option maxHeartbeats 4000000

/-! ### Fresh lines, and edges made of them -/
def linesP (ls : List (List (Int × Int))) (bs : List Nat) (w : World) : Prop :=
  bs.length = ls.length ∧ ∀ (i b : Nat) (l : List (Int × Int)), bs[i]? = some b → ls[i]? = some l → w.heap[b]? = some (Obj.cells (l.flatMap encS).toArray 69 (0, 0))
def LinesR (ls : List (List (Int × Int))) (bs : List Nat) : Res :=
  ⟨fun x => x ∈ bs, linesP ls bs, fun _ _ h ⟨h1, h2⟩ => ⟨h1, fun i b l hb hl => (h b (List.mem_of_getElem? hb)).trans (h2 i b l hb hl)⟩⟩
theorem gc_lines0 {P : Program} {Q : Exit → Act → World → Prop} {N : Nat} {w0 : World} {L : List Res} {e : Env} {c : Code} (k : GC P Q N w0 (LinesR [] [] :: L) c e) : GC P Q N w0 L c e := ⟨fun w s =>
  k.h w (s.add (Ext.refl w) ⟨rfl, fun i b l hb => by simp at hb⟩ fun b hb => by cases hb)⟩
theorem LinesR.snoc {ls : List (List (Int × Int))} {bs : List Nat} {l : List (Int × Int)} {b : Nat} {L : List Res} : Ent (Box b 69 (l.flatMap encS).toArray :: LinesR ls bs :: L) (LinesR (ls ++ [l]) (bs ++ [b]) :: L) := fun w0 w s => by
  have h1 : w.heap[b]? = some (.cells (l.flatMap encS).toArray 69 (0, 0)) := s.head
  obtain ⟨h2, h3⟩ := s.drop.head
  refine s.merge (fun x hx => ?_) ⟨by simp [h2], fun i b' l' hb' hl' => ?_⟩
  · rcases List.mem_append.1 hx with h | h
    · exact .inr h
    · exact .inl (List.mem_singleton.1 h)
  · rcases Nat.lt_or_ge i bs.length with hi | hi
    · rw [List.getElem?_append_left hi] at hb'
      rw [List.getElem?_append_left (by omega)] at hl'
      exact h3 i b' l' hb' hl'
    · rw [List.getElem?_append_right hi] at hb'
      rw [List.getElem?_append_right (by omega), ← h2] at hl'
      cases hk : i - bs.length with
      | zero =>
        rw [hk] at hb' hl'
        simp at hb' hl'
        subst hb' hl'
        exact h1
      | succ m => rw [hk] at hb'; simp at hb'

def encE (p : Edg × Nat) : List Value := [.string p.1.1, .slice (some ⟨p.2, 0, none⟩) p.1.2.length p.1.2.length]
def rowE (l : List Edg) (bs : List Nat) : List Value := (l.zip bs).flatMap encE
theorem rowE_snoc {l : List Edg} {bs : List Nat} {x : Edg} {b : Nat} (h : l.length = bs.length) : rowE (l ++ [x]) (bs ++ [b]) = rowE l bs ++ encE (x, b) := by
  unfold rowE
  rw [List.zip_append h, List.flatMap_append]
  simp

theorem deep_edges {A : Option Addr} {n c : Nat} {l : List Edg} {bs : List Nat} {L : List Res} (hn : n = l.length) (hin : ∀ x ∈ l, x.1.size ≤ maxLen ∧ x.2.length ≤ 40 ∧ ∀ p ∈ x.2, inI64 p.1 ∧ inI64 p.2) :
    Ent (Own A n c 71 2 (rowE l bs) :: LinesR (l.map (·.2)) bs :: L) (Deep (fun x => (Value.slice A n c).ownBlock = some x ∨ x ∈ bs) rEdge (.slice A n c) l :: L) := fun w0 w s => by
  have hown : w.ownsRow 0 71 2 (.slice A n c) n (rowE l bs) := s.head
  obtain ⟨h2, h3⟩ := s.drop.head
  rw [List.length_map] at h2
  refine s.merge (fun x hx => hx) ?_
  subst hn
  change SlS rEdge w (fun x => (Value.slice A l.length c).ownBlock = some x ∨ x ∈ bs) (.slice A l.length c) l
  rcases hown.2 with ⟨hv, h0⟩ | ⟨g, cap, cur, hv, _, hg, h1, h2', _⟩
  · injection hv with e1 e2 e3
    subst e1 e3
    exact ⟨none, 0, rfl, by omega, Nat.zero_le _, fun k hk => by omega⟩
  · injection hv with e1 e2 e3
    subst e1 e3
    refine ⟨_, _, rfl, h1, h2', fun k hk => ?_⟩
    have hkb : k < bs.length := by omega
    have hz : (l.zip bs)[k]? = some (l[k], bs[k]) := by rw [List.getElem?_zip_eq_some]; exact ⟨List.getElem?_eq_getElem hk, List.getElem?_eq_getElem hkb⟩
    have hkz : k < (l.zip bs).length := (List.getElem?_eq_some_iff.1 hz).1
    have hzz : (l.zip bs)[k] = (l[k], bs[k]) := (List.getElem?_eq_some_iff.1 hz).2
    have hline := h3 k bs[k] l[k].2 (List.getElem?_eq_getElem hkb) (by rw [List.getElem?_map, List.getElem?_eq_getElem hk]; rfl)
    obtain ⟨q1, q2, q3⟩ := hin l[k] (List.getElem_mem hk)
    refine ⟨⟨g, 0, none⟩, encE (l[k], bs[k]), rfl, .inl rfl, fun j u hu => ?_, _, rfl, q1, ?_⟩
    · refine hown.cells rfl _ u ?_
      have hj : j < 2 := (List.getElem?_eq_some_iff.1 hu).1
      have := flat_get (enc := encE) (sz := 2) (l.zip bs) (fun _ _ => rfl) k hkz j hj
      rw [hzz] at this
      exact this.trans hu
    · refine ⟨some ⟨bs[k], 0, none⟩, l[k].2.length, rfl, Nat.le_refl _, by unfold maxLen; omega, fun i hi => ⟨⟨bs[k], 0, none⟩, encS l[k].2[i], rfl, .inr (List.getElem_mem hkb), fun j u hu => ?_, rfl, q3 _ (List.getElem_mem hi)⟩⟩
      have hj : j < 2 := (List.getElem?_eq_some_iff.1 hu).1
      have := flat_get (enc := encS) (sz := 2) l[k].2 (fun _ _ => rfl) i hi j hj
      rw [show rSpot.size = 2 from rfl, add_zero]
      simp only [World.cell?, hline]
      simpa using this.trans hu

/-! ### Graded -/
def farB (p : Int × Int) : Bool := !decide (-1000 ≤ p.1 ∧ p.1 ≤ 1000) || !decide (-1000 ≤ p.2 ∧ p.2 ≤ 1000)
def gradedE (l : List Edg) (cs : List (Int × Int)) : Int := if ¬ cs.length = l.length then 1 else if cs.any farB = true then 3 else outlineE l
theorem outline_good {l : List Edg} (h : outlineE l = 0) : 2 ≤ l.length ∧ l.length ≤ 16 ∧ ∀ k, k < l.length → 2 ≤ (gE l k).2.length ∧ (gE l k).2.length ≤ 40 := by
  unfold outlineE at h
  split at h
  · cases h
  · split at h
    · cases h
    · split at h
      · rename_i h1
        exact ⟨by omega, by omega, fun k hk => pline_len (edge_pline (firstE_at h1 k hk))⟩
      · rename_i h1; exact absurd h h1

theorem graded_ok (w : World) (nm : ByteArray) (g : Int) (m : Bool) (Ae An Ac Aw : Option Addr) (ce nn cn cc nw cw : Nat) (l : List Edg) (cs : List (Int × Int))
    (hl : Sl rEdge w w.heap.size (.slice Ae l.length ce) l) (hcs : Sl rSpot w w.heap.size (.slice Ac cs.length cc) cs) :
    OkM Tryz.prog 56 [.agg #[.string nm, .slice Ae l.length ce, .int .i64 g, .slice An nn cn, .slice Ac cs.length cc, .slice Aw nw cw, .bool m], .int .i64 0].toArray w
      (fun x : Option Addr × Nat × (Nat → Prop) => .tuple #[.slice x.1 (if gradedE l cs = 0 then l.length else 0) x.2.1, .int .i64 (gradedE l cs)])
      (fun x => if gradedE l cs = 0 then [Deep x.2.2 rEdge (.slice x.1 l.length x.2.1) l] else []) := by
  obtain ⟨A', c', hv, hcc, hcm, hccell⟩ := hcs.spot
  injection hv with e1 e2 e3
  subst e1 e3
  have hll := len_small hl
  obtain ⟨A', c', hv, hlc, hlm⟩ := hll
  injection hv with e1 e2 e3
  subst e1 e3
  have bad : ∀ k : Int, ¬ k = 0 → gradedE l cs = k → ∀ w' : World, ∃ x : Option Addr × Nat × (Nat → Prop), Value.tuple #[.slice none 0 0, .int .i64 k] = .tuple #[.slice x.1 (if gradedE l cs = 0 then l.length else 0) x.2.1, .int .i64 (gradedE l cs)] ∧
      Made w (if gradedE l cs = 0 then [Deep x.2.2 rEdge (.slice x.1 l.length x.2.1) l] else []) w' := fun k hk he w' => ⟨(none, 0, fun _ => False), by rw [he, if_neg hk], by rw [he, if_neg hk]; exact Made.nil _ _⟩
  unfold OkM
  refine ok_enter Tryz.func56 rfl Tryz.ntmps56 rfl ?_
  focus (refine gc_seq ?_; refine gc_region ?_; refine gw_boxd (v := .agg _) rfl rfl (fun _ => ?_); apply gw_d; exact det_m rfl rfl (by conv => (lhs; whnf)); apply gw_d; exact det_m rfl rfl (by conv => (lhs; whnf)); refine gw_nil ?_; refine gx_next ?_; refine gc_seq ?_; refine gc_seq ?_; refine gc_region ?_; apply gw_d; exact det_m rfl rfl (by conv => (lhs; whnf)); apply gw_d; exact w_call rfl rfl (fun w s => within_ok w _ _ (by decide)) rfl; apply gw_d; exact det_not_dec rfl rfl rfl; refine gw_nil ?_; refine gx_next ?_)
  rename_i bp
  refine gc_if_dec rfl (fun h => absurd (by decide) h) (fun _ => ?_)
  focus (refine gc_skip ?_; refine gx_next ?_; refine gc_seq ?_; refine gc_seq ?_; refine gc_region ?_; apply gw_d; exact w_field rfl rfl rfl; apply gw_d; exact w_load_box rfl rfl rfl .here rfl; apply gw_d; exact w_len rfl rfl rfl; apply gw_d; exact w_field rfl rfl rfl; apply gw_d; exact w_load_box rfl rfl rfl .here rfl; apply gw_d; exact w_len rfl rfl rfl; apply gw_d; exact det_cmp rfl rfl rfl rfl rfl; refine gw_nil ?_; refine gx_next ?_)
  refine gc_if_dec rfl (fun h => ?_) (fun h => ?_)
  · focus (refine gc_seq ?_; refine gc_region ?_; apply gw_d; exact det_m rfl rfl (by conv => (lhs; whnf)); apply gw_d; exact det_m rfl rfl (by conv => (lhs; whnf)); refine gw_nil ?_; refine gx_next ?_; refine gc_ret ?_; refine gx_then_ret ?_)
    refine gx_ret2 (u := .slice _ _ _) (v := .int _ _) rfl rfl rfl (fun _ _ => ?_)
    exact bad 1 (by decide) (by unfold gradedE; rw [if_pos (by omega)]) _
  have hlen : cs.length = l.length := by omega
  focus (refine gc_skip ?_; refine gx_next ?_; refine gc_seq ?_; refine gc_seq ?_; refine gc_region ?_; apply gw_d; exact w_field rfl rfl rfl; apply gw_d; exact w_load_box rfl rfl rfl .here rfl; apply gw_d; exact w_len rfl rfl rfl; apply gw_d; exact det_m rfl rfl (by conv => (lhs; whnf)); refine gw_nil ?_; refine gx_next ?_; refine gc_block ?_)
  refine gc_loopK (σ := Nat) [28, 29, 30, 7, 31, 32, 33, 34, 35, 36, 37, 38, 39, 40, 4, 5, 41, 27] (fun k => [(27, .int .i64 k)]) (fun k => k ≤ cs.length ∧ (cs.take k).any farB = false) (fun k => cs.length - k) 0 ⟨Nat.zero_le _, rfl⟩ ⟨rfl, trivial⟩ ?_
  rintro k base ⟨hk, hI⟩
  focus (refine gc_seq ?_; refine gc_region ?_; apply gw_d; exact det_cmp rfl rfl rfl rfl rfl; refine gw_nil ?_; refine gx_next ?_; refine gc_seq ?_)
  refine gc_if_dec rfl (fun h => ?_) (fun h => ?_)
  · have hlt : k < cs.length := by omega
    obtain ⟨ad, rfl, hb, hce, _⟩ := hccell k hlt
    have hfar : farB cs[k] = true → cs.any farB = true := fun h => List.any_eq_true.2 ⟨_, List.getElem_mem hlt, h⟩
    have hsn : farB cs[k] = false → (cs.take (k + 1)).any farB = false := fun h => by rw [List.take_succ_eq_append_getElem hlt, List.any_append, hI]; simp [h]
    focus (refine gc_skip ?_; refine gx_next ?_; refine gc_seq ?_; refine gc_block ?_; refine gc_seq ?_; refine gc_region ?_; apply gw_d; exact w_index rfl rfl rfl rfl (by with_reducible exact rfl) (by omega); apply gw_d; exact w_load_elem rfl rfl rfl (by assumption) (by assumption) (by rfl); refine w_alloc rfl (fun _ => ?_); refine w_store_all rfl rfl rfl rfl rfl .here rfl ?_; refine gw_nil ?_; refine gx_next ?_; refine gc_seq ?_; refine gc_region ?_; apply gw_d; exact w_field rfl rfl rfl; apply gw_d; exact w_load_box rfl rfl rfl .here rfl; apply gw_d; exact w_call rfl rfl (fun w s => within_ok w _ _ (by decide)) rfl; apply gw_d; exact det_not_dec rfl rfl rfl; apply gw_d; exact det_m rfl rfl (by conv => (lhs; whnf)); refine gw_guard_dec rfl rfl (fun _ => ?_) (fun _ => ?_); apply gw_d; exact det_not rfl; apply gw_d; exact det_not rfl; apply gw_d; exact det_not rfl; apply gw_d; exact det_not rfl; apply gw_d; exact det_pick_t (v := .bool _) rfl rfl rfl rfl; refine gw_nil ?_; refine gx_next ?_; refine gc_if_true rfl ?_; refine gc_seq ?_; refine gc_region ?_; apply gw_d; exact det_m rfl rfl (by conv => (lhs; whnf)); apply gw_d; exact det_m rfl rfl (by conv => (lhs; whnf)); refine gw_nil ?_; refine gx_next ?_; refine gc_ret ?_; refine gx_block_ret ?_; refine gx_then_ret ?_; refine gx_then_ret ?_; refine gx_block_ret ?_; refine gx_then_ret ?_; rotate_left; apply gw_d; exact w_field rfl rfl rfl; apply gw_d; exact w_load_box rfl rfl rfl .here rfl; apply gw_d; exact w_call rfl rfl (fun w s => within_ok w _ _ (by decide)) rfl; apply gw_d; exact det_not_dec rfl rfl rfl; apply gw_d; exact det_pick_f (v := .bool _) rfl rfl rfl rfl; refine gw_nil ?_; refine gx_next ?_; refine gc_if_dec rfl (fun _ => ?_) (fun _ => ?_); refine gc_seq ?_; refine gc_region ?_; apply gw_d; exact det_m rfl rfl (by conv => (lhs; whnf)); apply gw_d; exact det_m rfl rfl (by conv => (lhs; whnf)); refine gw_nil ?_; refine gx_next ?_; refine gc_ret ?_; refine gx_block_ret ?_; refine gx_then_ret ?_; refine gx_then_ret ?_; refine gx_block_ret ?_; refine gx_then_ret ?_; rotate_left; refine gc_skip ?_; refine gx_block ?_; refine gx_next ?_; refine gc_region ?_; apply gw_d; exact det_ar rfl rfl rfl rfl rfl (by omega); apply gw_d; exact det_m rfl rfl (by conv => (lhs; whnf)); refine gw_nil ?_; rotate_left)
    · refine gx_ret2 (u := .slice _ _ _) (v := .int _ _) rfl rfl rfl (fun _ _ => ?_)
      exact bad 3 (by decide) (by unfold gradedE; rw [if_neg (by omega), if_pos (hfar (by unfold farB; simp only [Bool.or_eq_true, Bool.not_eq_true', decide_eq_false_iff_not]; left; assumption))]) _
    · refine gx_ret2 (u := .slice _ _ _) (v := .int _ _) rfl rfl rfl (fun _ _ => ?_)
      exact bad 3 (by decide) (by unfold gradedE; rw [if_neg (by omega), if_pos (hfar (by unfold farB; simp only [Bool.or_eq_true, Bool.not_eq_true', decide_eq_false_iff_not]; right; assumption))]) _
    · exact gx_round (k + 1) ⟨by omega, hsn (by unfold farB; simp only [Bool.or_eq_false_iff, Bool.not_eq_false', decide_eq_true_eq]; constructor <;> (apply Classical.not_not.1; assumption))⟩ (by omega) (by repeat (first | exact Keeps.refl | refine Keeps.upd rfl ?_ | refine Keeps.sets rfl ?_ | refine Keeps.havoc rfl ?_)) ⟨rfl, trivial⟩ Sub.tail
  obtain rfl : k = cs.length := by omega
  rw [List.take_length] at hI
  have hE : gradedE l cs = outlineE l := by unfold gradedE; rw [if_neg (by omega), if_neg (by rw [hI]; decide)]
  focus (refine gc_exit ?_; refine gx_then_exit ?_; refine gx_then_exit ?_; refine gx_block_exit ?_; refine gx_next ?_; refine gc_seq ?_; refine gc_seq ?_; refine gc_region ?_; apply gw_d; exact w_field rfl rfl rfl; apply gw_d; exact w_load_box rfl rfl rfl .here rfl; apply gw_d; exact w_call rfl rfl (fun w s => outline_ok w _ l (hl.later s)) rfl; apply gw_d; exact det_m rfl rfl (by conv => (lhs; whnf)); refine gw_nil ?_; refine gx_next ?_; refine gc_seq ?_; refine gc_region ?_; apply gw_d; exact det_m rfl rfl (by conv => (lhs; whnf)); apply gw_d; exact det_cmp rfl rfl rfl rfl rfl; refine gw_nil ?_; refine gx_next ?_)
  refine gc_if_dec rfl (fun h => ?_) (fun h => ?_)
  · focus (refine gc_seq ?_; refine gc_region ?_; apply gw_d; exact det_m rfl rfl (by conv => (lhs; whnf)); apply gw_d; exact det_m rfl rfl (by conv => (lhs; whnf)); apply gw_d; exact det_m rfl rfl (by conv => (lhs; whnf)); refine gw_nil ?_; refine gx_next ?_; refine gc_ret ?_; refine gx_then_ret ?_)
    refine gx_ret2 (u := .slice _ _ _) (v := .int _ _) rfl rfl rfl (fun _ _ => ?_)
    exact bad _ h hE _
  have hE0 : outlineE l = 0 := by simpa using h
  obtain ⟨hl2, hl16, hlines⟩ := outline_good hE0
  obtain ⟨ade, ce', hv, _, _, hbe, hecell⟩ := hl.edge' (by omega)
  injection hv with e1 e2 e3
  subst e1 e3
  have hin : ∀ x ∈ l, x.1.size ≤ maxLen ∧ x.2.length ≤ 40 ∧ ∀ p ∈ x.2, inI64 p.1 ∧ inI64 p.2 := fun x hx => by
    obtain ⟨u, hu⟩ := hl.edges_in x hx
    obtain ⟨i, hi, rfl⟩ := List.getElem_of_mem hx
    obtain ⟨_, _, _, hs, _⟩ := hecell i hi
    have := hlines i hi
    rw [gE_get hi] at this hs
    refine ⟨?_, this.2, hu.spots_in⟩
    obtain ⟨_, _, _, _, _, h3⟩ := hl
    obtain ⟨_, _, _, _, _, _, _, h4, _⟩ := h3 i hi
    exact h4
  focus (refine gc_skip ?_; refine gx_next ?_; refine gc_seq ?_; refine gc_region ?_; apply gw_d; exact w_field rfl rfl rfl; apply gw_d; exact w_load_box rfl rfl rfl .here rfl; apply gw_d; exact det_m rfl rfl (by conv => (lhs; whnf)); apply gw_d; exact w_build (cells := #[.slice Ac cs.length cc, .int .i64 0]) rfl rfl (by rfl); apply gw_d; exact det_func rfl rfl rfl rfl; apply gw_d; exact det_m rfl rfl (by conv => (lhs; whnf)); refine gw_nil ?_; refine gx_next ?_; refine gc_seq ?_; refine gc_region ?_; apply gw_d; exact det_m rfl rfl (by conv => (lhs; whnf)); refine gw_nil ?_; refine gx_next ?_; refine gc_seq ?_; refine gc_seq ?_; refine gc_region ?_; apply gw_d; exact w_field rfl rfl rfl; apply gw_d; exact w_load_box rfl rfl rfl .here rfl; apply gw_d; exact w_len rfl rfl rfl; apply gw_d; exact det_m rfl rfl (by conv => (lhs; whnf)); refine gw_nil ?_; refine gx_next ?_; refine gc_block ?_)
  refine gc_own0 71 2 (gc_lines0 ?_)
  refine gc_loop (σ := Nat × Option Addr × Nat × List Nat) [57, 58, 59, 60, 12, 11, 61, 62, 63, 64, 65, 66, 67, 68, 69, 70, 71, 72, 73, 74, 75, 76, 10, 77, 56] (fun s => [(10, .slice s.2.1 s.1 s.2.2.1), (56, .int .i64 s.1)])
    (fun s => [Own s.2.1 s.1 s.2.2.1 71 2 (rowE (l.take s.1) s.2.2.2), LinesR ((l.take s.1).map (·.2)) s.2.2.2])
    (fun s => s.1 ≤ l.length ∧ s.2.2.2.length = s.1) (fun s => l.length - s.1) (0, none, 0, []) ⟨Nat.zero_le _, rfl⟩ ⟨rfl, rfl, trivial⟩ (.cons (.there .here) (.cons .here .nil)) ?_
  rintro ⟨k, A, c2, bs⟩ base ⟨hk, hbs⟩
  dsimp only at hk hbs ⊢
  focus (refine gc_seq ?_; refine gc_region ?_; apply gw_d; exact det_cmp rfl rfl rfl rfl rfl; refine gw_nil ?_; refine gx_next ?_; refine gc_seq ?_)
  refine gc_if_dec rfl (fun h => ?_) (fun h => ?_)
  · have hlt : k < l.length := by omega
    obtain ⟨A1, c1, hce, hsz, hc1, hm1, hsl⟩ := hecell k hlt
    obtain ⟨hn2, hn40⟩ := hlines k hlt
    focus (refine gc_skip ?_; refine gx_next ?_; refine gc_seq ?_; refine gc_block ?_; refine gc_seq ?_; refine gc_region ?_; apply gw_d; exact det_m rfl rfl (by conv => (lhs; whnf)); apply gw_d; exact w_index rfl rfl rfl rfl (by with_reducible exact rfl) (by omega); apply gw_d; exact w_load_elem rfl rfl rfl (by assumption) (by assumption) (by rfl); refine w_alloc rfl (fun _ => ?_); apply gw_d; exact det_m rfl rfl (by conv => (lhs; whnf)); refine w_store_all rfl rfl rfl rfl rfl .here rfl ?_; refine gw_nil ?_; refine gx_next ?_)
    rename_i bv
    refine gc_block_draw Nat 15 (fun i => ([[], [], [1], [], [3], [], [], [5, 6], [], [], [9], [5, 6, 7, 8, 9, 10], [3, 4, 5, 6, 7, 8, 9, 10, 11], [1, 2, 3, 4, 5, 6, 7, 8, 9, 10, 11, 12], [1, 2, 3, 4, 5, 6, 7, 8, 9, 10, 11, 12, 13]] : List (List Nat)).getD i []) rfl (by kernel_rfl) ?_
    focus (apply gb_d; (intro γ; exact det_m rfl rfl (by conv => (lhs; whnf))); (intros; rfl); (intros; rfl); apply gb_d; (intro γ; exact w_field rfl rfl rfl); (intros; rfl); (intros; rfl); apply gb_d; (intro γ; exact w_load_box rfl rfl rfl .here rfl); (intros; rfl); (intros; rfl); apply gb_d; (intro γ; exact w_field rfl rfl rfl); (intros; rfl); (intros; rfl); apply gb_d; (intro γ; exact w_load_box rfl rfl rfl .here rfl); (intros; rfl); (intros; rfl); apply gb_d; (intro γ; exact det_m rfl rfl (by conv => (lhs; whnf))); (intros; rfl); (intros; rfl); apply gb_d; (intro γ; exact det_m rfl rfl (by conv => (lhs; whnf))); (intros; rfl); (intros; rfl); apply gb_d; (intro γ; exact w_callv rfl rfl rfl (fun w s => corner0_ok w _ _ cs _ (hcs.later s) (by omega) (by omega)) rfl); (intros; rfl); (intros; rfl); apply gb_d; (intro γ; exact det_m rfl rfl (by conv => (lhs; whnf))); (intros; rfl); (intros; rfl); apply gb_d; (intro γ; exact det_m rfl rfl (by conv => (lhs; whnf))); (intros; rfl); (intros; rfl); apply gb_d; (intro γ; exact det_ar rfl rfl rfl rfl rfl (by omega)); (intros; rfl); (intros; rfl); apply gb_d; (intro γ; exact w_callv rfl rfl rfl (fun w s => corner0_ok w _ _ cs _ (hcs.later s) (by omega) (by omega)) rfl); (intros; rfl); (intros; rfl))
    refine gb_call (l := fun _ => [.slice A1 (gE l k).2.length c1, .agg #[.int .i64 0, .int .i64 0], .agg #[.int .i64 0, .int .i64 0]]) (fun _ b => .slice (some ⟨b, 0, none⟩) (gE l k).2.length (gE l k).2.length) (fun _ b => [Box b 69 ((gE l k).2.flatMap encS).toArray]) (fun _ => rfl) (fun _ w s => moved0_ok w _ _ _ (hsl.later s) hn2 hn40) (fun _ => rfl) (fun _ _ => ⟨rfl, rfl⟩) (fun _ => ⟨rfl, rfl⟩) ?_
    refine gb_d (V := fun γ => .agg #[.string (gE l k).1, .slice (some ⟨γ 12, 0, none⟩) (gE l k).2.length (gE l k).2.length]) (fun γ => w_build rfl rfl (by rfl)) (fun _ _ => rfl) (fun _ => rfl) ?_
    refine gb_bslice1 (fun γ => .agg #[.string (gE l k).1, .slice (some ⟨γ 12, 0, none⟩) (gE l k).2.length (gE l k).2.length]) id id (fun _ => rfl) (fun _ => rfl) (fun _ => rfl) (fun _ => rfl) rfl rfl (fun _ _ => rfl) (fun _ => rfl) ?_
    refine GB.nil (fun β => ?_)
    have hr1 : rowE (l.take (k + 1)) (bs ++ [β 12]) = rowE (l.take k) bs ++ encE (gE l k, β 12) := by rw [List.take_succ_eq_append_getElem hlt, gE_get hlt]; exact rowE_snoc (by rw [List.length_take]; omega)
    have hr2 : (l.take (k + 1)).map (·.2) = (l.take k).map (·.2) ++ [(gE l k).2] := by rw [List.take_succ_eq_append_getElem hlt, gE_get hlt, List.map_append]; rfl
    refine gw_append (news := encE (gE l k, β 12)) rfl rfl rfl (.there (.there (.there .here))) rfl (fun w' s _ => ?_) (fun u hu => ?_) (by unfold maxLen; omega) (by omega) (by decide) rfl (fun A2 c3 => ?_)
    · refine ⟨⟨β 14, 0, none⟩, rfl, fun j u hu => ?_⟩
      have hbx := Box.cell (s.pick (.there .here)).head j
      rw [add_zero]
      refine Eq.trans hbx ?_
      change (#[Value.string (gE l k).1, Value.slice (some ⟨β 12, 0, none⟩) (gE l k).2.length (gE l k).2.length] : Array Value)[j]? = some u
      rw [List.getElem?_toArray]
      exact hu
    · simp only [encE, List.mem_cons, List.not_mem_nil, or_false] at hu
      rcases hu with rfl | rfl <;> rfl
    · focus (apply gw_d; exact det_m rfl rfl (by conv => (lhs; whnf)); refine gw_nil ?_; refine gx_block ?_; refine gx_next ?_; refine gc_region ?_; apply gw_d; exact det_ar rfl rfl rfl rfl rfl (by omega); apply gw_d; exact det_m rfl rfl (by conv => (lhs; whnf)); refine gw_nil ?_)
      refine gx_roundE (k + 1, A2, c3, bs ++ [β 12]) ⟨hlt, by simp [hbs]⟩ (by dsimp only; omega) (by repeat (first | exact Keeps.refl | refine Keeps.upd rfl ?_ | refine Keeps.sets rfl ?_ | refine Keeps.havoc rfl ?_)) ⟨rfl, rfl, trivial⟩ ?_
      dsimp only
      rw [hr1, hr2]
      refine Ent.trans (Sub.ent (.cons .here (.cons .here (.cons (.there (.there .here)) .nil)))) (Ent.cons LinesR.snoc ?_)
      intro q hq b hb
      rw [List.mem_singleton] at hq
      subst hq
      rcases List.mem_append.1 hb with h | h
      · exact ⟨_, List.mem_cons_of_mem _ List.mem_cons_self, h⟩
      · exact ⟨_, List.mem_cons_self, List.mem_singleton.1 h⟩
  · obtain rfl : k = l.length := by omega
    rw [List.take_length]
    refine gc_ent (deep_edges rfl hin) ?_
    focus (refine gc_exit ?_; refine gx_then_exit ?_; refine gx_then_exit ?_; refine gx_block_exit ?_; refine gx_next ?_; refine gc_seq ?_; refine gc_seq ?_; refine gc_region ?_; apply gw_d; exact det_m rfl rfl (by conv => (lhs; whnf)); apply gw_d; exact w_call rfl rfl (fun w s => outline_ok w _ l (Sl.deep s .here)) rfl; apply gw_d; exact det_m rfl rfl (by conv => (lhs; whnf)); refine gw_nil ?_; refine gx_next ?_; refine gc_seq ?_; refine gc_region ?_; apply gw_d; exact det_m rfl rfl (by conv => (lhs; whnf)); apply gw_d; exact det_cmp rfl rfl rfl rfl rfl; refine gw_nil ?_; refine gx_next ?_)
    refine gc_if_dec rfl (fun h => absurd hE0 h) (fun _ => ?_)
    focus (refine gc_skip ?_; refine gx_next ?_; refine gc_seq ?_; refine gc_region ?_; apply gw_d; exact det_m rfl rfl (by conv => (lhs; whnf)); apply gw_d; exact det_m rfl rfl (by conv => (lhs; whnf)); apply gw_d; exact det_m rfl rfl (by conv => (lhs; whnf)); refine gw_nil ?_; refine gx_next ?_; refine gc_ret ?_)
    refine gx_ret2 (u := .slice _ _ _) (v := .int _ _) rfl rfl rfl (fun w' s => ?_)
    exact ⟨(A, c2, _), by rw [hE, hE0, if_pos rfl], by rw [hE, hE0, if_pos rfl]; exact s.sep⟩
end Go.Proofs.YteiboodeepjanaaGreat
