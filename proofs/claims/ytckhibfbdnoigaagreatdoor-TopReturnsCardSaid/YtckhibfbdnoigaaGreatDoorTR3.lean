/- Texts in one file: C3 C4 N3 N4 C5 C6 C1 C7 C8 C9 C10 C11 C12 C13. -/
import Derived.Test.YtckhibfbdnoigaaGreatDoorTR2
import Derived.Test.YtckhibfbdnoigaaGreatDoorTR1
import Derived.Laws.Strings
/- Contracts: lists of spots: search, polylines, polygons. -/
namespace Go.Proofs.YtckhibfbdnoigaaGreatDoor
open Go.RowKit
set_option maxRecDepth 100000

/-! ### Search -/
section
variable {α : Type}
def idxI (p : α → Bool) (l : List α) : Int := (l.findIdx? p).elim (-1) fun i => (i : Int)
theorem idx_found {p : α → Bool} {l : List α} {k : Nat} (hk : k < l.length) (h : (l.take k).any p = false) (hp : p l[k] = true) : idxI p l = k := by
  have : l.findIdx? p = some k := by
    rw [List.findIdx?_eq_some_iff_getElem]
    refine ⟨hk, hp, fun j hj => ?_⟩
    have h1 := List.any_eq_false.1 h l[j] (by
      rw [List.mem_take_iff_getElem]
      exact ⟨j, by omega, rfl⟩)
    simpa using h1
  unfold idxI
  rw [this]
  rfl
theorem idx_none {p : α → Bool} {l : List α} (h : l.any p = false) : idxI p l = -1 := by
  have : l.findIdx? p = none := by
    rw [List.findIdx?_eq_none_iff]
    intro x hx
    simpa using List.any_eq_false.1 h x hx
  unfold idxI
  rw [this]
  rfl
theorem idx_nonneg (p : α → Bool) (l : List α) : (0 ≤ idxI p l) ↔ l.any p = true := by
  unfold idxI
  cases h : l.findIdx? p with
  | none =>
    rw [List.findIdx?_eq_none_iff] at h
    simp only [Option.elim]
    constructor
    · intro h'; omega
    · intro h'
      obtain ⟨x, hx, hp⟩ := List.any_eq_true.1 h'
      rw [h x hx] at hp
      cases hp
  | some i =>
    simp only [Option.elim]
    obtain ⟨hi, hp, _⟩ := List.findIdx?_eq_some_iff_getElem.1 h
    constructor
    · intro _; exact List.any_eq_true.2 ⟨_, List.getElem_mem hi, hp⟩
    · intro _; omega
theorem any_snoc {p : α → Bool} {l : List α} {k : Nat} (hk : k < l.length) (h : (l.take k).any p = false) (hp : p l[k] = false) : (l.take (k + 1)).any p = false := by
  rw [List.take_succ_eq_append_getElem hk, List.any_append, h]
  simp [hp]
end

def outP (p : Int × Int) : Bool := outB p.1 p.2

theorem pl_outside_ok (w : World) (x y : Int) : Ok Tryz.prog 166 [.agg #[.int .i64 x, .int .i64 y]].toArray w fun r _ => r = .bool (outB x y) := by
  refine ok_enter Tryz.func166 rfl Tryz.ntmps166 rfl ?_
  focus (refine gc_seq ?_; refine gc_region ?_; refine gw_boxd (v := .agg _) rfl rfl (fun _ => ?_); refine gM rfl rfl (by conv => (lhs; whnf)) ?_; refine gN ?_; refine gF rfl rfl rfl ?_; apply gw_d; exact w_load_box rfl rfl rfl .here rfl; refine gC rfl rfl rfl rfl rfl ?_; refine gM rfl rfl (by conv => (lhs; whnf)) ?_; refine gw_guard_dec rfl rfl (fun _ => ?_) (fun _ => ?_); refine gU rfl ?_; refine gU rfl ?_; refine gU rfl ?_; apply gw_d; exact det_pick_t (v := .bool _) rfl rfl rfl rfl; refine gM rfl rfl (by conv => (lhs; whnf)) ?_; refine gU rfl ?_; refine gU rfl ?_; refine gU rfl ?_; apply gw_d; exact det_pick_t (v := .bool _) rfl rfl rfl rfl; refine gM rfl rfl (by conv => (lhs; whnf)) ?_; refine gU rfl ?_; refine gU rfl ?_; refine gU rfl ?_; apply gw_d; exact det_pick_t (v := .bool _) rfl rfl rfl rfl; refine gM rfl rfl (by conv => (lhs; whnf)) ?_; refine gO ?_; refine gc_ret ?_; rotate_left; refine gF rfl rfl rfl ?_; apply gw_d; exact w_load_box rfl rfl rfl .here rfl; refine gC rfl rfl rfl rfl rfl ?_; apply gw_d; exact det_pick_f (v := .bool _) rfl rfl rfl rfl; refine gM rfl rfl (by conv => (lhs; whnf)) ?_; refine gw_guard_dec rfl rfl (fun _ => ?_) (fun _ => ?_); refine gU rfl ?_; refine gU rfl ?_; refine gU rfl ?_; apply gw_d; exact det_pick_t (v := .bool _) rfl rfl rfl rfl; refine gM rfl rfl (by conv => (lhs; whnf)) ?_; refine gU rfl ?_; refine gU rfl ?_; refine gU rfl ?_; apply gw_d; exact det_pick_t (v := .bool _) rfl rfl rfl rfl; refine gM rfl rfl (by conv => (lhs; whnf)) ?_; refine gO ?_; refine gc_ret ?_; rotate_left; refine gF rfl rfl rfl ?_; apply gw_d; exact w_load_box rfl rfl rfl .here rfl; refine gC rfl rfl rfl rfl rfl ?_; apply gw_d; exact det_pick_f (v := .bool _) rfl rfl rfl rfl; refine gM rfl rfl (by conv => (lhs; whnf)) ?_; refine gw_guard_dec rfl rfl (fun _ => ?_) (fun _ => ?_); refine gU rfl ?_; refine gU rfl ?_; refine gU rfl ?_; apply gw_d; exact det_pick_t (v := .bool _) rfl rfl rfl rfl; refine gM rfl rfl (by conv => (lhs; whnf)) ?_; refine gO ?_; refine gc_ret ?_; rotate_left; refine gF rfl rfl rfl ?_; apply gw_d; exact w_load_box rfl rfl rfl .here rfl; refine gC rfl rfl rfl rfl rfl ?_; apply gw_d; exact det_pick_f (v := .bool _) rfl rfl rfl rfl; refine gM rfl rfl (by conv => (lhs; whnf)) ?_; refine gO ?_; refine gc_ret ?_; rotate_left)
  all_goals (refine gx_ret1 (v := .bool _) rfl rfl (fun _ _ => ?_); simp [outB, *])

set_option maxHeartbeats 1000000 in
theorem indexFunc_ok (f : Nat) [CCall Tryz.prog f] (hf : ∀ w x y, Ok Tryz.prog f [.agg #[.int .i64 x, .int .i64 y]].toArray w fun r _ => r = .bool (outB x y)) (w : World) (v : Value) (l : List (Int × Int)) (hl : Sl rSpot w w.heap.size v l) :
    Ok Tryz.prog 191 [v, .func (.func f) #[] #[]].toArray w fun r _ => r = .int .i64 (idxI outP l) := by
  obtain ⟨A, c, rfl, hc, hm, hcell⟩ := hl.spot
  refine ok_enter Tryz.func191 rfl Tryz.ntmps191 rfl ?_
  focus (refine gc_seq ?_; refine gc_region ?_; refine gM rfl rfl (by conv => (lhs; whnf)) ?_; refine gO ?_; refine gc_seq ?_; refine gc_seq ?_; refine gc_region ?_; refine gM rfl rfl (by conv => (lhs; whnf)) ?_; refine gL rfl rfl rfl ?_; refine gM rfl rfl (by conv => (lhs; whnf)) ?_; refine gO ?_; refine gc_block ?_)
  refine gc_loop (σ := Nat) [9, 10, 5, 11, 12, 13, 14, 15, 16, 17, 4, 18, 8] (fun k => [(8, .int .i64 k)]) (fun _ => []) (fun k => k ≤ l.length ∧ (l.take k).any outP = false) (fun k => l.length - k) 0 ⟨Nat.zero_le _, rfl⟩ ⟨rfl, trivial⟩ .nil ?_
  rintro k base ⟨hk, hI⟩
  focus (refine gc_seq ?_; refine gc_region ?_; refine gC rfl rfl rfl rfl rfl ?_; refine gO ?_; refine gc_seq ?_)
  refine gc_if_dec rfl (fun h => ?_) (fun h => ?_)
  · obtain ⟨ad, rfl, hb, hce, hi⟩ := hcell k (by omega)
    have hlt : k < l.length := by omega
    focus (refine gc_skip ?_; refine gx_next ?_; refine gc_seq ?_; refine gc_block ?_; refine gc_seq ?_; refine gc_region ?_; refine gM rfl rfl (by conv => (lhs; whnf)) ?_; refine gM rfl rfl (by conv => (lhs; whnf)) ?_; refine gN ?_; refine gM rfl rfl (by conv => (lhs; whnf)) ?_; refine gM rfl rfl (by conv => (lhs; whnf)) ?_; refine gM rfl rfl (by conv => (lhs; whnf)) ?_; apply gw_d; exact w_index rfl rfl rfl rfl (by with_reducible exact rfl) (by omega); apply gw_d; exact w_load_elem rfl rfl rfl (by assumption) (by assumption) (by rfl); apply gw_d; exact w_callv rfl rfl rfl (fun w _ => hf w _ _) rfl; refine gO ?_; refine gc_if rfl (fun _ => ?_) (fun _ => ?_); refine gc_seq ?_; refine gc_region ?_; refine gM rfl rfl (by conv => (lhs; whnf)) ?_; refine gM rfl rfl (by conv => (lhs; whnf)) ?_; refine gO ?_; refine gc_ret ?_; refine gx_block_ret ?_; refine gx_then_ret ?_; refine gx_then_ret ?_; refine gx_block_ret ?_; refine gx_then_ret ?_; rotate_left; refine gc_skip ?_; refine gx_block ?_; refine gx_next ?_; refine gc_region ?_; apply gw_d; exact det_ar rfl rfl rfl rfl rfl (by omega); refine gM rfl rfl (by conv => (lhs; whnf)) ?_; refine gw_nil ?_; rotate_left)
    · refine gx_ret1 (v := .int _ _) rfl rfl (fun _ _ => ?_)
      rw [idx_found hlt hI ‹_›]
    · exact gx_round (k + 1) ⟨by omega, any_snoc hlt hI ‹_›⟩ (by omega) (by repeat (first | exact Keeps.refl | refine Keeps.upd rfl ?_ | refine Keeps.sets rfl ?_ | refine Keeps.havoc rfl ?_)) ⟨rfl, trivial⟩ .nil
  · focus (refine gc_exit ?_; refine gx_then_exit ?_; refine gx_then_exit ?_; refine gx_block_exit ?_; refine gx_next ?_; refine gc_seq ?_; refine gc_region ?_; refine gM rfl rfl (by conv => (lhs; whnf)) ?_; refine gO ?_; refine gc_ret ?_)
    refine gx_ret1 (v := .int _ _) rfl rfl (fun _ _ => ?_)
    rw [List.take_of_length_le (by omega)] at hI
    rw [idx_none hI]

theorem containsFunc_ok (f : Nat) [CCall Tryz.prog f] (hf : ∀ w x y, Ok Tryz.prog f [.agg #[.int .i64 x, .int .i64 y]].toArray w fun r _ => r = .bool (outB x y)) (w : World) (v : Value) (l : List (Int × Int)) (hl : Sl rSpot w w.heap.size v l) :
    Ok Tryz.prog 165 [v, .func (.func f) #[] #[]].toArray w fun r _ => r = .bool (l.any outP) := by
  obtain ⟨A, c, rfl, _⟩ := hl.spot
  refine ok_enter Tryz.func165 rfl Tryz.ntmps165 rfl ?_
  focus (refine gc_seq ?_; refine gc_region ?_; refine gM rfl rfl (by conv => (lhs; whnf)) ?_; refine gN ?_; refine gM rfl rfl (by conv => (lhs; whnf)) ?_; refine gM rfl rfl (by conv => (lhs; whnf)) ?_; apply gw_d; exact w_call rfl rfl (fun w s => indexFunc_ok f hf w _ l (hl.later s)) rfl; refine gC rfl rfl rfl rfl rfl ?_; refine gM rfl rfl (by conv => (lhs; whnf)) ?_; refine gO ?_; refine gc_ret ?_)
  refine gx_ret1 (v := .bool _) rfl rfl (fun _ _ => ?_)
  congr 1
  have := idx_nonneg outP l
  by_cases h : l.any outP = true
  · rw [h]; simp [this.2 h]
  · have h2 : ¬ 0 ≤ idxI outP l := fun h' => h (this.1 h')
    simp only [Bool.not_eq_true] at h
    rw [h]; simp; omega

def isP (q : Int × Int) (p : Int × Int) : Bool := decide (q = p)
set_option maxHeartbeats 1000000 in
theorem indexSpot_ok (w : World) (v : Value) (l : List (Int × Int)) (x y : Int) (hl : Sl rSpot w w.heap.size v l) :
    Ok Tryz.prog 212 [v, .agg #[.int .i64 x, .int .i64 y]].toArray w fun r _ => r = .int .i64 (idxI (isP (x, y)) l) := by
  obtain ⟨A, c, rfl, hc, hm, hcell⟩ := hl.spot
  refine ok_enter Tryz.func212 rfl Tryz.ntmps212 rfl ?_
  focus (refine gc_seq ?_; refine gc_region ?_; refine gw_boxd (v := .agg _) rfl rfl (fun _ => ?_); refine gM rfl rfl (by conv => (lhs; whnf)) ?_; refine gO ?_; refine gc_seq ?_; refine gc_seq ?_; refine gc_region ?_; refine gM rfl rfl (by conv => (lhs; whnf)) ?_; refine gL rfl rfl rfl ?_; refine gM rfl rfl (by conv => (lhs; whnf)) ?_; refine gO ?_; refine gc_block ?_)
  rename_i b
  refine gc_loop (σ := Nat) [9, 10, 5, 11, 12, 13, 14, 15, 16, 17, 4, 18, 8] (fun k => [(8, .int .i64 k)]) (fun _ => [Box b 106 #[.int .i64 x, .int .i64 y]]) (fun k => k ≤ l.length ∧ (l.take k).any (isP (x, y)) = false) (fun k => l.length - k) 0 ⟨Nat.zero_le _, rfl⟩ ⟨rfl, trivial⟩ (.cons .here .nil) ?_
  rintro k base ⟨hk, hI⟩
  focus (refine gc_seq ?_; refine gc_region ?_; refine gC rfl rfl rfl rfl rfl ?_; refine gO ?_; refine gc_seq ?_)
  refine gc_if_dec rfl (fun h => ?_) (fun h => ?_)
  · obtain ⟨ad, rfl, hb, hce, hi⟩ := hcell k (by omega)
    have hlt : k < l.length := by omega
    focus (refine gc_skip ?_; refine gx_next ?_; refine gc_seq ?_; refine gc_block ?_; refine gc_seq ?_; refine gc_region ?_; refine gM rfl rfl (by conv => (lhs; whnf)) ?_; refine gM rfl rfl (by conv => (lhs; whnf)) ?_; refine gO ?_; refine gc_seq ?_)
    refine gc_draw 6 (by kernel_rfl) (by kernel_rfl) ?_
    focus (apply gd_d; exact w_load_boxN rfl rfl rfl .here rfl; apply gd_d; exact det_m rfl rfl (by conv => (lhs; whnf)); apply gd_d; exact det_m rfl rfl (by conv => (lhs; whnf)); apply gd_d; exact w_index rfl rfl rfl rfl (by with_reducible exact rfl) (by omega); apply gd_d; exact w_load_elem rfl rfl rfl (by assumption) (by assumption) (by rfl); apply gd_d; exact w_eq2 rfl rfl rfl rfl; refine gd_nil ?_; refine gO ?_; refine gc_if_dec rfl (fun _ => ?_) (fun _ => ?_); refine gc_seq ?_; refine gc_region ?_; refine gM rfl rfl (by conv => (lhs; whnf)) ?_; refine gM rfl rfl (by conv => (lhs; whnf)) ?_; refine gO ?_; refine gc_ret ?_; refine gx_block_ret ?_; refine gx_then_ret ?_; refine gx_then_ret ?_; refine gx_block_ret ?_; refine gx_then_ret ?_; rotate_left; refine gc_skip ?_; refine gx_block ?_; refine gx_next ?_; refine gc_region ?_; apply gw_d; exact det_ar rfl rfl rfl rfl rfl (by omega); refine gM rfl rfl (by conv => (lhs; whnf)) ?_; refine gw_nil ?_; rotate_left)
    · refine gx_ret1 (v := .int _ _) rfl rfl (fun _ _ => ?_)
      rw [idx_found hlt hI (by simpa [isP] using ‹(x, y) = _›)]
    · exact gx_round (k + 1) ⟨by omega, any_snoc hlt hI (by simpa [isP] using ‹¬ (x, y) = _›)⟩ (by omega) (by repeat (first | exact Keeps.refl | refine Keeps.upd rfl ?_ | refine Keeps.sets rfl ?_ | refine Keeps.havoc rfl ?_)) ⟨rfl, trivial⟩ (.cons .here .nil)
  · focus (refine gc_exit ?_; refine gx_then_exit ?_; refine gx_then_exit ?_; refine gx_block_exit ?_; refine gx_next ?_; refine gc_seq ?_; refine gc_region ?_; refine gM rfl rfl (by conv => (lhs; whnf)) ?_; refine gO ?_; refine gc_ret ?_)
    refine gx_ret1 (v := .int _ _) rfl rfl (fun _ _ => ?_)
    rw [List.take_of_length_le (by omega)] at hI
    rw [idx_none hI]
end Go.Proofs.YtckhibfbdnoigaaGreatDoor

/- Contracts: polylines and polygons. -/
namespace Go.Proofs.YtckhibfbdnoigaaGreatDoor
open Go.RowKit
set_option maxRecDepth 100000

def gS (l : List (Int × Int)) (k : Nat) : Int × Int := l.getD k (0, 0)
theorem gS_get {l : List (Int × Int)} {k : Nat} (hk : k < l.length) : gS l k = l[k] := by
  unfold gS
  simp [hk]
theorem Sl.spot' {w : World} {B : Nat} {v : Value} {l : List (Int × Int)} (h : Sl rSpot w B v l) (hl : 0 < l.length) : ∃ ad c, v = .slice (some ad) l.length c ∧ l.length ≤ c ∧ l.length ≤ 9223372036854775807 ∧ ad.block < B ∧
    ∀ k (_ : k < l.length), ∀ j u, [Value.int .i64 (gS l k).1, Value.int .i64 (gS l k).2][j]? = some u → w.cell? (ad.add (k * 2 + j)) = some u := by
  obtain ⟨A, c, rfl, h1, h2, h3⟩ := h.spot
  obtain ⟨ad, rfl, hb, _⟩ := h3 0 hl
  refine ⟨ad, c, rfl, h1, h2, hb, fun k hk => ?_⟩
  obtain ⟨ad', he, _, hc, _⟩ := h3 k hk
  injection he with he
  subst he
  rw [gS_get hk]
  exact hc

theorem containsSpot_ok (w : World) (v : Value) (l : List (Int × Int)) (x y : Int) (hl : Sl rSpot w w.heap.size v l) :
    Ok Tryz.prog 192 [v, .agg #[.int .i64 x, .int .i64 y]].toArray w fun r _ => r = .bool (l.any (isP (x, y))) := by
  obtain ⟨A, c, rfl, _⟩ := hl.spot
  refine ok_enter Tryz.func192 rfl Tryz.ntmps192 rfl ?_
  focus (refine gc_seq ?_; refine gc_region ?_; refine gw_boxd (v := .agg _) rfl rfl (fun _ => ?_); refine gM rfl rfl (by conv => (lhs; whnf)) ?_; refine gN ?_; refine gM rfl rfl (by conv => (lhs; whnf)) ?_; apply gw_d; exact w_load_boxN rfl rfl rfl .here rfl; apply gw_d; exact w_call rfl rfl (fun w s => indexSpot_ok w _ l _ _ (hl.later s)) rfl; refine gC rfl rfl rfl rfl rfl ?_; refine gM rfl rfl (by conv => (lhs; whnf)) ?_; refine gO ?_; refine gc_ret ?_)
  refine gx_ret1 (v := .bool _) rfl rfl (fun _ _ => ?_)
  congr 1
  have := idx_nonneg (isP (x, y)) l
  by_cases h : l.any (isP (x, y)) = true
  · rw [h]; simp [this.2 h]
  · have h2 : ¬ 0 ≤ idxI (isP (x, y)) l := fun h' => h (this.1 h')
    simp only [Bool.not_eq_true] at h
    rw [h]; simp; omega

/-! ### Polylines -/
def stillB (l : List (Int × Int)) (n : Nat) : Bool := (List.range n).any fun i => decide (gS l i = gS l (i + 1))
def plineE (l : List (Int × Int)) : Int := if 40 < l.length then 5 else if l.length < 2 then 11 else if l.any outP = true then 3 else if stillB l (l.length - 1) = true then 11 else 0
theorem still_snoc {l : List (Int × Int)} {k : Nat} (h : stillB l k = false) (hp : ¬ gS l k = gS l (k + 1)) : stillB l (k + 1) = false := by
  unfold stillB at *
  rw [List.range_succ, List.any_append, h]
  simp [hp]
theorem still_yes {l : List (Int × Int)} {k n : Nat} (hk : k < n) (hp : gS l k = gS l (k + 1)) : stillB l n = true := by
  unfold stillB
  rw [List.any_eq_true]
  exact ⟨k, List.mem_range.2 hk, by simp [hp]⟩
theorem len_small {α : Type} {R : Rp α} {w : World} {B : Nat} {v : Value} {l : List α} (h : Sl R w B v l) : ∃ A c, v = .slice A l.length c ∧ l.length ≤ c ∧ l.length ≤ 9223372036854775807 := by
  obtain ⟨A, c, hv, h1, h2, _⟩ := h
  exact ⟨A, c, hv, h1, by unfold maxLen at h2; omega⟩

set_option maxHeartbeats 1000000 in
theorem polyline_ok (w : World) (v : Value) (l : List (Int × Int)) (hl : Sl rSpot w w.heap.size v l) : Ok Tryz.prog 139 [v].toArray w fun r _ => r = .int .i64 (plineE l) := by
  by_cases hlen : 2 ≤ l.length
  · obtain ⟨ad, c, rfl, hc, hm, hb, hcell⟩ := hl.spot' (by omega)
    refine ok_enter Tryz.func139 rfl Tryz.ntmps139 rfl ?_
    focus (refine gc_seq ?_; refine gc_region ?_; refine gM rfl rfl (by conv => (lhs; whnf)) ?_; refine gO ?_; refine gc_seq ?_; refine gc_seq ?_; refine gc_region ?_; refine gM rfl rfl (by conv => (lhs; whnf)) ?_; refine gL rfl rfl rfl ?_; refine gC rfl rfl rfl rfl rfl ?_; refine gO ?_; refine gc_if_dec rfl (fun _ => ?_) (fun _ => ?_); refine gc_seq ?_; refine gc_region ?_; refine gM rfl rfl (by conv => (lhs; whnf)) ?_; refine gO ?_; refine gc_ret ?_; refine gx_then_ret ?_; rotate_left; refine gc_skip ?_; refine gx_next ?_; refine gc_seq ?_; refine gc_seq ?_; refine gc_region ?_; refine gM rfl rfl (by conv => (lhs; whnf)) ?_; refine gL rfl rfl rfl ?_; refine gC rfl rfl rfl rfl rfl ?_; refine gO ?_; refine gc_if_dec rfl (fun _ => ?_) (fun _ => ?_); refine gc_seq ?_; refine gc_region ?_; refine gM rfl rfl (by conv => (lhs; whnf)) ?_; refine gO ?_; refine gc_ret ?_; refine gx_then_ret ?_; rotate_left; refine gc_skip ?_; refine gx_next ?_; refine gc_seq ?_; refine gc_seq ?_; refine gc_region ?_; refine gM rfl rfl (by conv => (lhs; whnf)) ?_; apply gw_d; exact w_call rfl rfl (fun w s => containsFunc_ok 166 pl_outside_ok w _ l (hl.later s)) rfl; refine gO ?_; refine gc_if rfl (fun _ => ?_) (fun _ => ?_); refine gc_seq ?_; refine gc_region ?_; refine gM rfl rfl (by conv => (lhs; whnf)) ?_; refine gO ?_; refine gc_ret ?_; refine gx_then_ret ?_; rotate_left; refine gc_skip ?_; refine gx_next ?_; refine gc_seq ?_; refine gc_seq ?_; refine gc_region ?_; refine gM rfl rfl (by conv => (lhs; whnf)) ?_; refine gL rfl rfl rfl ?_; apply gw_d; exact det_ar rfl rfl rfl rfl rfl (by omega); refine gM rfl rfl (by conv => (lhs; whnf)) ?_; refine gO ?_; refine gc_block ?_; rotate_left)
    · refine gx_ret1 (v := .int _ _) rfl rfl (fun _ _ => ?_)
      have : 40 < l.length := by omega
      simp [plineE, this]
    · omega
    · refine gx_ret1 (v := .int _ _) rfl rfl (fun _ _ => ?_)
      have h1 : ¬ 40 < l.length := by omega
      have h2 : ¬ l.length < 2 := by omega
      simp only [plineE, h1, h2, if_false]
      rw [if_pos ‹_›]
    · refine gc_loop (σ := Nat) [16, 17, 3, 18, 19, 20, 21, 22, 23, 24, 25, 26, 27, 2, 28, 15] (fun k => [(15, .int .i64 k)]) (fun _ => []) (fun k => k ≤ l.length - 1 ∧ stillB l k = false) (fun k => l.length - k) 0 ⟨Nat.zero_le _, rfl⟩ ⟨rfl, trivial⟩ .nil ?_
      rintro k base ⟨hk, hI⟩
      focus (refine gc_seq ?_; refine gc_region ?_; refine gC rfl rfl rfl rfl rfl ?_; refine gO ?_; refine gc_seq ?_)
      refine gc_if_dec rfl (fun h => ?_) (fun h => ?_)
      · have hce0 := hcell k (by omega)
        have hce1 := hcell (k + 1) (by omega)
        focus (refine gc_skip ?_; refine gx_next ?_; refine gc_seq ?_; refine gc_block ?_; refine gc_seq ?_; refine gc_region ?_; refine gM rfl rfl (by conv => (lhs; whnf)) ?_; refine gM rfl rfl (by conv => (lhs; whnf)) ?_; refine gO ?_; refine gc_seq ?_)
        refine gc_draw 10 (by kernel_rfl) (by kernel_rfl) ?_
        focus (apply gd_d; exact det_m rfl rfl (by conv => (lhs; whnf)); apply gd_d; exact det_m rfl rfl (by conv => (lhs; whnf)); apply gd_d; exact w_index rfl rfl rfl rfl (by with_reducible exact rfl) (by omega); apply gd_d; exact w_load_elem rfl rfl rfl (by assumption) (by assumption) (by rfl); apply gd_d; exact det_m rfl rfl (by conv => (lhs; whnf)); apply gd_d; exact det_m rfl rfl (by conv => (lhs; whnf)); apply gd_d; exact det_ar rfl rfl rfl rfl rfl (by omega); apply gd_d; exact w_index rfl rfl rfl rfl (by with_reducible exact castA _) (by omega); apply gd_d; exact w_load_elem rfl rfl rfl (by assumption) (by assumption) (by rfl); apply gd_d; exact w_eq2 rfl rfl rfl rfl; refine gd_nil ?_; refine gO ?_; refine gc_if_dec rfl (fun _ => ?_) (fun _ => ?_); refine gc_seq ?_; refine gc_region ?_; refine gM rfl rfl (by conv => (lhs; whnf)) ?_; refine gO ?_; refine gc_ret ?_; refine gx_block_ret ?_; refine gx_then_ret ?_; refine gx_then_ret ?_; refine gx_block_ret ?_; refine gx_then_ret ?_; rotate_left; refine gc_skip ?_; refine gx_block ?_; refine gx_next ?_; refine gc_region ?_; apply gw_d; exact det_ar rfl rfl rfl rfl rfl (by omega); refine gM rfl rfl (by conv => (lhs; whnf)) ?_; refine gw_nil ?_; rotate_left)
        · refine gx_ret1 (v := .int _ _) rfl rfl (fun _ _ => ?_)
          have h1 : ¬ 40 < l.length := by omega
          have h2 : ¬ l.length < 2 := by omega
          simp only [plineE, h1, h2, if_false]
          rw [if_neg (by simpa using ‹l.any outP = false›), if_pos (still_yes (k := k) (by omega) ‹_›)]
        · exact gx_round (k + 1) ⟨by omega, still_snoc hI ‹_›⟩ (by omega) (by repeat (first | exact Keeps.refl | refine Keeps.upd rfl ?_ | refine Keeps.sets rfl ?_ | refine Keeps.havoc rfl ?_)) ⟨rfl, trivial⟩ .nil
      · focus (refine gc_exit ?_; refine gx_then_exit ?_; refine gx_then_exit ?_; refine gx_block_exit ?_; refine gx_next ?_; refine gc_seq ?_; refine gc_region ?_; refine gM rfl rfl (by conv => (lhs; whnf)) ?_; refine gO ?_; refine gc_ret ?_)
        refine gx_ret1 (v := .int _ _) rfl rfl (fun _ _ => ?_)
        have h1 : ¬ 40 < l.length := by omega
        have h2 : ¬ l.length < 2 := by omega
        obtain rfl : k = l.length - 1 := by omega
        simp only [plineE, h1, h2, if_false]
        rw [if_neg (by simpa using ‹l.any outP = false›), if_neg (by simpa using hI)]
  · obtain ⟨A, c, rfl, hc, hm⟩ := len_small hl
    refine ok_enter Tryz.func139 rfl Tryz.ntmps139 rfl ?_
    focus (refine gc_seq ?_; refine gc_region ?_; refine gM rfl rfl (by conv => (lhs; whnf)) ?_; refine gO ?_; refine gc_seq ?_; refine gc_seq ?_; refine gc_region ?_; refine gM rfl rfl (by conv => (lhs; whnf)) ?_; refine gL rfl rfl rfl ?_; refine gC rfl rfl rfl rfl rfl ?_; refine gO ?_)
    refine gc_if_dec rfl (fun h => by omega) (fun h => ?_)
    focus (refine gc_skip ?_; refine gx_next ?_; refine gc_seq ?_; refine gc_seq ?_; refine gc_region ?_; refine gM rfl rfl (by conv => (lhs; whnf)) ?_; refine gL rfl rfl rfl ?_; refine gC rfl rfl rfl rfl rfl ?_; refine gO ?_)
    refine gc_if_dec rfl (fun h => ?_) (fun h => by omega)
    focus (refine gc_seq ?_; refine gc_region ?_; refine gM rfl rfl (by conv => (lhs; whnf)) ?_; refine gO ?_; refine gc_ret ?_; refine gx_then_ret ?_)
    refine gx_ret1 (v := .int _ _) rfl rfl (fun _ _ => ?_)
    have h1 : ¬ 40 < l.length := by omega
    have h2 : l.length < 2 := by omega
    simp [plineE, h1, h2]
end Go.Proofs.YtckhibfbdnoigaaGreatDoor

/- Contracts: square roots and lengths of polylines. -/
namespace Go.Proofs.YtckhibfbdnoigaaGreatDoor
open Go.RowKit
set_option maxRecDepth 100000
set_option maxHeartbeats 4000000

section
variable {P : Program} {ops : Array Oper} {N : Nat} {w0 : World} {L : List Res} {e : Env} {o : Oper} {t : TypeId} {x y : Operand}
theorem det_shl {k k' : IntKind} {i j r : Int} {yt : TypeId} (hop : o.op = .binOp .shl t x y yt) (hw : wantedE N ops e o = true) (hx : ev N e x = .int k i) (hy : ev N e y = .int k' j) (hj : 0 ≤ j) (hr : k.wrap (i * 2 ^ (min j.toNat k.bits)) = r) : Det P ops N w0 L o e (.int k r) :=
  det_pure hw fun w => by
    have : ¬ j < 0 := by omega
    unfold execOp
    simp [hop, hx, hy, binOp, Op.shift, this, hr, eqGuard]
end
theorem two_pow_cast (k : Nat) : (2 : Int) ^ k = ((2 ^ k : Nat) : Int) := by
  rw [Int.natCast_pow]
  rfl
theorem isq_small {n : Nat} (h : n < 2) : isq n = n := by
  obtain rfl | rfl : n = 0 ∨ n = 1 := by omega
  · rfl
  · rfl
/-- The first x is above the root. -/
theorem first_x {n : Nat} (h : n < 18446744073709551616) : isq n ≤ 2 ^ ((l64 n + 1) / 2) ∧ (l64 n + 1) / 2 ≤ 32 := by
  obtain ⟨h1, h2⟩ := l64_lt h
  refine ⟨isq_le ?_, by omega⟩
  have h3 : 2 ^ l64 n ≤ 2 ^ ((l64 n + 1) / 2) * 2 ^ ((l64 n + 1) / 2) := by
    rw [← Nat.pow_add]
    exact Nat.pow_le_pow_right (by decide) (by omega)
  have h4 : 2 ^ ((l64 n + 1) / 2) * 2 ^ ((l64 n + 1) / 2) ≤ (2 ^ ((l64 n + 1) / 2) + 1) * (2 ^ ((l64 n + 1) / 2) + 1) := Nat.mul_le_mul (by omega) (by omega)
  omega
theorem root_ok (w : World) (n : Nat) (hn : n ≤ 9223372036854775807) : Ok Tryz.prog 195 [.int .i64 (n : Int)].toArray w fun r _ => r = .int .i64 (isq n : Int) := by
  obtain ⟨f1, f2⟩ := first_x (n := n) (by omega)
  have hl := (l64_lt (z := n) (by omega)).2
  have hp32 : 2 ^ ((l64 n + 1) / 2) ≤ 2 ^ 32 := Nat.pow_le_pow_right (by decide) f2
  have hp0 : 0 < 2 ^ ((l64 n + 1) / 2) := Nat.two_pow_pos _
  have hshl : IntKind.i64.wrap (1 * 2 ^ (min (((l64 n : Int) + 1) / 2).toNat IntKind.i64.bits)) = ((2 ^ ((l64 n + 1) / 2) : Nat) : Int) := by
    have e1 : (((l64 n : Int) + 1) / 2).toNat = (l64 n + 1) / 2 := by omega
    have e2 : IntKind.i64.bits = 64 := rfl
    rw [e1, e2, Nat.min_eq_left (by omega), Int.one_mul, two_pow_cast, IntKind.wrap_i64]
    have : (2 : Nat) ^ 32 = 4294967296 := rfl
    omega
  have hw64 : IntKind.u64.wrap (n : Int) = (n : Int) := by
    have : IntKind.u64.wrap (n : Int) = (n : Int) % 18446744073709551616 := rfl
    rw [this]
    omega
  refine ok_enter Tryz.func195 rfl Tryz.ntmps195 rfl ?_
  focus (refine gc_seq ?_; refine gc_region ?_; refine gM rfl rfl (by conv => (lhs; whnf)) ?_; refine gO ?_; refine gc_seq ?_; refine gc_seq ?_; refine gc_region ?_; refine gM rfl rfl (by conv => (lhs; whnf)) ?_; refine gC rfl rfl rfl rfl rfl ?_; refine gO ?_)
  refine gc_if_dec rfl (fun h => ?_) (fun h => ?_)
  · focus (refine gc_seq ?_; refine gc_region ?_; refine gM rfl rfl (by conv => (lhs; whnf)) ?_; refine gM rfl rfl (by conv => (lhs; whnf)) ?_; refine gO ?_; refine gc_ret ?_; refine gx_then_ret ?_)
    refine gx_ret1 (v := .int _ _) rfl rfl (fun _ _ => ?_)
    rw [isq_small (by omega)]
  focus (refine gc_skip ?_; refine gx_next ?_; refine gc_seq ?_; refine gc_region ?_; refine gM rfl rfl (by conv => (lhs; whnf)) ?_; apply gw_d; exact det_conv rfl rfl rfl hw64; apply gw_d; exact w_call rfl rfl (fun w _ => len_ok w n (by omega)) rfl; apply gw_d; exact det_ar rfl rfl rfl rfl rfl (by omega); apply gw_d; exact det_quo rfl rfl rfl rfl (by omega) (by omega) (by omega); apply gw_d; exact det_shl rfl rfl rfl rfl (by omega) hshl; refine gM rfl rfl (by conv => (lhs; whnf)) ?_; refine gO ?_; refine gc_block ?_)
  refine gc_loopK (σ := Nat) [14, 15, 16, 17, 18, 19, 4, 20, 21, 22, 23, 2, 24, 3] (fun x => [(3, .int .i64 (x : Int))]) (fun x => isq n ≤ x ∧ 0 < x ∧ x ≤ 4294967296) (fun x => x) (2 ^ ((l64 n + 1) / 2)) ⟨f1, hp0, hp32⟩ ⟨rfl, trivial⟩ ?_
  rintro x base ⟨hx1, hx2, hx3⟩
  obtain ⟨s1, s2⟩ := nt_step hx2 hx1
  have hdiv : (n : Int) / (x : Int) = ((n / x : Nat) : Int) := rfl
  have hq : n / x ≤ x + 2 := by
    have h1 := (isq_spec n).2
    have h2 : (isq n + 1) * (isq n + 1) ≤ (x + 1) * (x + 1) := Nat.mul_le_mul (by omega) (by omega)
    have h3 : (x + 1) * (x + 1) = x * (x + 2) + 1 := by
      simp only [Nat.add_mul, Nat.mul_add]
      omega
    exact Nat.div_le_of_le_mul (by omega)
  have hi1 : 1 ≤ isq n := le_isq (by omega)
  have hqi : (n : Int) / (x : Int) ≤ x + 2 ∧ 0 ≤ (n : Int) / (x : Int) := by
    rw [hdiv]
    exact ⟨Int.ofNat_le.2 hq, Int.natCast_nonneg _⟩
  have hy : ((x : Int) + (n : Int) / (x : Int)) / 2 = (((x + n / x) / 2 : Nat) : Int) := by
    rw [hdiv]
    omega
  focus (refine gc_block ?_; refine gc_seq ?_; refine gc_region ?_; refine gM rfl rfl (by conv => (lhs; whnf)) ?_; refine gM rfl rfl (by conv => (lhs; whnf)) ?_; refine gM rfl rfl (by conv => (lhs; whnf)) ?_; apply gw_d; exact det_quo rfl rfl rfl rfl (by omega) (by omega) (by omega); apply gw_d; exact det_ar rfl rfl rfl rfl rfl (by omega); apply gw_d; exact det_quo rfl rfl rfl rfl (by omega) (by omega) (by omega); refine gM rfl rfl (by conv => (lhs; whnf)) ?_; refine gO ?_; refine gc_seq ?_; refine gc_seq ?_; refine gc_region ?_; refine gM rfl rfl (by conv => (lhs; whnf)) ?_; refine gM rfl rfl (by conv => (lhs; whnf)) ?_; refine gC rfl rfl rfl rfl rfl ?_; refine gO ?_)
  refine gc_if_dec rfl (fun h2 => ?_) (fun h2 => ?_)
  · focus (refine gc_seq ?_; refine gc_region ?_; refine gM rfl rfl (by conv => (lhs; whnf)) ?_; refine gM rfl rfl (by conv => (lhs; whnf)) ?_; refine gO ?_; refine gc_ret ?_; refine gx_then_ret ?_; refine gx_block_ret ?_; refine gx_then_ret ?_; refine gx_block_ret ?_)
    refine gx_ret1 (v := .int _ _) rfl rfl (fun _ _ => ?_)
    rw [hy] at h2
    have := s2 (by omega)
    rw [← this]
  · rw [hy] at h2 ⊢
    focus (refine gc_skip ?_; refine gx_next ?_; refine gc_region ?_; refine gM rfl rfl (by conv => (lhs; whnf)) ?_; refine gM rfl rfl (by conv => (lhs; whnf)) ?_; refine gw_nil ?_; refine gx_block ?_)
    exact gx_round ((x + n / x) / 2) ⟨s1, by omega, by omega⟩ (by omega) (by repeat (first | exact Keeps.refl | refine Keeps.upd rfl ?_ | refine Keeps.sets rfl ?_ | refine Keeps.havoc rfl ?_)) ⟨rfl, trivial⟩ (Sub.all _)
/-! ### Segments and polylines -/
def segN (p q : Int × Int) : Nat := (1000000 * ((q.1 - p.1) * (q.1 - p.1) + (q.2 - p.2) * (q.2 - p.2))).toNat
def segL (p q : Int × Int) : Int := (isq (segN p q) : Int)
theorem sq_range {d : Int} (h : -2097152 ≤ d ∧ d ≤ 2097152) : 0 ≤ d * d ∧ d * d ≤ 4398046511104 := by
  rcases Int.le_total 0 d with h1 | h1
  · have a := Int.mul_nonneg h1 h1
    have b : d * d ≤ 2097152 * 2097152 := Int.mul_le_mul h.2 h.2 h1 (by decide)
    omega
  · have e : d * d = (-d) * (-d) := by rw [Int.neg_mul_neg]
    have h2 : 0 ≤ -d := by omega
    have a := Int.mul_nonneg h2 h2
    have b : (-d) * (-d) ≤ 2097152 * 2097152 := Int.mul_le_mul (by omega) (by omega) h2 (by decide)
    omega
def nearP (p : Int × Int) : Prop := (-1048576 ≤ p.1 ∧ p.1 ≤ 1048576) ∧ (-1048576 ≤ p.2 ∧ p.2 ≤ 1048576)
theorem segment_ok (w : World) (p q : Int × Int) (hp : nearP p) (hq : nearP q) : Ok Tryz.prog 169 [.agg #[.int .i64 p.1, .int .i64 p.2], .agg #[.int .i64 q.1, .int .i64 q.2]].toArray w fun r _ => r = .int .i64 (segL p q) := by
  obtain ⟨p1, p2⟩ := hp
  obtain ⟨q1, q2⟩ := hq
  have s1 := sq_range (d := q.1 - p.1) (by omega)
  have s2 := sq_range (d := q.2 - p.2) (by omega)
  have hv : ((segN p q : Nat) : Int) = 1000000 * ((q.1 - p.1) * (q.1 - p.1) + (q.2 - p.2) * (q.2 - p.2)) := by
    unfold segN
    omega
  have hR : ∀ (L : List Res) (w' : World), St w L w' → Ok Tryz.prog 195 [.int .i64 (1000000 * ((q.1 - p.1) * (q.1 - p.1) + (q.2 - p.2) * (q.2 - p.2)))].toArray w' fun r _ => r = .int .i64 (segL p q) := fun L w' _ => by
    have := root_ok w' (segN p q) (by omega)
    rw [hv] at this
    exact this
  refine ok_enter Tryz.func169 rfl Tryz.ntmps169 rfl ?_
  focus (refine gc_seq ?_; refine gc_region ?_; refine gw_boxd (v := .agg _) rfl rfl (fun _ => ?_); refine gw_boxd (v := .agg _) rfl rfl (fun _ => ?_); refine gM rfl rfl (by conv => (lhs; whnf)) ?_; refine gO ?_; refine gc_seq ?_)
  refine gc_draw2 11 (by kernel_rfl) (by kernel_rfl) ?_
  focus (apply gd_d; exact w_field rfl rfl rfl; apply gd_d; exact w_load_box rfl rfl rfl .here rfl; apply gd_d; exact w_field rfl rfl rfl; apply gd_d; exact w_load_box rfl rfl rfl (.there .here) rfl; apply gd_d; exact det_ar rfl rfl rfl rfl rfl (by omega); apply gd_d; exact w_field rfl rfl rfl; apply gd_d; exact w_load_box rfl rfl rfl .here rfl; apply gd_d; exact w_field rfl rfl rfl; apply gd_d; exact w_load_box rfl rfl rfl (.there .here) rfl; apply gd_d; exact det_ar rfl rfl rfl rfl rfl (by omega); apply gd_d; exact det_m rfl rfl (by conv => (lhs; whnf)); refine gd_nil ?_; refine gM rfl rfl (by conv => (lhs; whnf)) ?_; refine gN ?_; refine gM rfl rfl (by conv => (lhs; whnf)) ?_; refine gM rfl rfl (by conv => (lhs; whnf)) ?_; apply gw_d; exact det_ar rfl rfl rfl rfl rfl (by omega); refine gM rfl rfl (by conv => (lhs; whnf)) ?_; refine gM rfl rfl (by conv => (lhs; whnf)) ?_; apply gw_d; exact det_ar rfl rfl rfl rfl rfl (by omega); apply gw_d; exact det_ar rfl rfl rfl rfl rfl (by omega); apply gw_d; exact det_ar rfl rfl rfl rfl rfl (by omega); apply gw_d; exact w_call rfl rfl (hR _) rfl; refine gM rfl rfl (by conv => (lhs; whnf)) ?_; refine gO ?_; refine gc_ret ?_)
  refine gx_ret1 (v := .int _ _) rfl rfl (fun _ _ => ?_)
  rfl
end Go.Proofs.YtckhibfbdnoigaaGreatDoor

/- Contracts: lengths of polylines. -/
namespace Go.Proofs.YtckhibfbdnoigaaGreatDoor
open Go.RowKit
set_option maxRecDepth 100000
set_option maxHeartbeats 4000000

theorem segN_range {p q : Int × Int} (hp : nearP p) (hq : nearP q) : segN p q ≤ 8796093022208000000 ∧ ((segN p q : Nat) : Int) = 1000000 * ((q.1 - p.1) * (q.1 - p.1) + (q.2 - p.2) * (q.2 - p.2)) := by
  obtain ⟨p1, p2⟩ := hp
  obtain ⟨q1, q2⟩ := hq
  have s1 := sq_range (d := q.1 - p.1) (by omega)
  have s2 := sq_range (d := q.2 - p.2) (by omega)
  unfold segN
  omega
theorem segL_range {p q : Int × Int} (hp : nearP p) (hq : nearP q) : 0 ≤ segL p q ∧ segL p q ≤ 4294967296 := by
  have h := (segN_range hp hq).1
  refine ⟨Int.natCast_nonneg _, ?_⟩
  have : isq (segN p q) ≤ 4294967296 := isq_le (by omega)
  unfold segL
  omega
theorem sq_pos {d : Int} (h : ¬ d = 0) : 1 ≤ d * d := by
  rcases Int.lt_or_gt_of_ne h with h1 | h1
  · have := Int.mul_pos_of_neg_of_neg h1 h1
    omega
  · have := Int.mul_pos h1 h1
    omega
theorem segL_pos {p q : Int × Int} (hp : nearP p) (hq : nearP q) (hne : ¬ p = q) : 1 ≤ segL p q := by
  have h := (segN_range hp hq).2
  have hd : ¬ (q.1 - p.1 = 0) ∨ ¬ (q.2 - p.2 = 0) := by
    by_cases h1 : q.1 - p.1 = 0
    · right
      intro h2
      exact hne (Prod.ext (by omega) (by omega))
    · exact .inl h1
  have s1 : 0 ≤ (q.1 - p.1) * (q.1 - p.1) := (sq_range (d := q.1 - p.1) (by obtain ⟨a, b⟩ := hp; obtain ⟨c, d⟩ := hq; omega)).1
  have s2 : 0 ≤ (q.2 - p.2) * (q.2 - p.2) := (sq_range (d := q.2 - p.2) (by obtain ⟨a, b⟩ := hp; obtain ⟨c, d⟩ := hq; omega)).1
  have h3 : 1 ≤ segN p q := by
    rcases hd with h1 | h1
    · have := sq_pos h1
      omega
    · have := sq_pos h1
      omega
  have : 1 ≤ isq (segN p q) := le_isq (by omega)
  unfold segL
  omega
def lenS (l : List (Int × Int)) : Nat → Int
  | 0 => 0
  | k + 1 => lenS l k + segL (gS l k) (gS l (k + 1))
def lenL (l : List (Int × Int)) : Int := lenS l (l.length - 1)
structure Line (l : List (Int × Int)) : Prop where
  two : 2 ≤ l.length
  le : l.length ≤ 40
  near : ∀ k, k < l.length → nearP (gS l k)
  moves : ∀ k, k + 1 < l.length → ¬ gS l k = gS l (k + 1)
theorem line_good {l : List (Int × Int)} (h : plineE l = 0) : Line l := by
  unfold plineE at h
  split at h
  · cases h
  rename_i h1
  split at h
  · cases h
  rename_i h2
  split at h
  · cases h
  rename_i h3
  split at h
  · cases h
  rename_i h4
  refine ⟨by omega, by omega, fun k hk => ?_, fun k hk hc => ?_⟩
  · have h5 : l.any outP = false := by simpa using h3
    have h6 := List.any_eq_false.1 h5 l[k] (List.getElem_mem hk)
    rw [gS_get hk]
    unfold nearP
    simp [outP, outB] at h6
    omega
  · exact h4 (still_yes (by omega) hc)
theorem lenS_range {l : List (Int × Int)} (h : Line l) : ∀ k, k < l.length → 0 ≤ lenS l k ∧ lenS l k ≤ 4294967296 * k
  | 0, _ => ⟨Int.le_refl _, Int.le_refl _⟩
  | k + 1, hk => by
    have h1 := lenS_range h k (by omega)
    have h2 := segL_range (h.near k (by omega)) (h.near (k + 1) hk)
    show 0 ≤ lenS l k + segL (gS l k) (gS l (k + 1)) ∧ lenS l k + segL (gS l k) (gS l (k + 1)) ≤ _
    omega
theorem lenL_range {l : List (Int × Int)} (h : Line l) : 1 ≤ lenL l ∧ lenL l ≤ 1099511627776 := by
  have h2 := h.two
  have h3 := h.le
  obtain ⟨m, hm⟩ : ∃ m, l.length - 1 = m + 1 := ⟨l.length - 2, by omega⟩
  unfold lenL
  rw [hm]
  have h1 := lenS_range h m (by omega)
  have h5 := segL_range (h.near m (by omega)) (h.near (m + 1) (by omega))
  have h6 := segL_pos (h.near m (by omega)) (h.near (m + 1) (by omega)) (h.moves m (by omega))
  show 1 ≤ lenS l m + segL (gS l m) (gS l (m + 1)) ∧ lenS l m + segL (gS l m) (gS l (m + 1)) ≤ _
  omega
theorem length_ok (w : World) (v : Value) (l : List (Int × Int)) (hl : Sl rSpot w w.heap.size v l) (hp : plineE l = 0) : Ok Tryz.prog 143 [v].toArray w fun r _ => r = .tuple #[.int .i64 (lenL l), .int .i64 0] := by
  have hG := line_good hp
  have h2 := hG.two
  have h40 := hG.le
  have hC : ∀ (L : List Res) (w' : World), St w L w' → Ok Tryz.prog 139 [v].toArray w' fun r _ => r = .int .i64 0 := fun L w' s => by
    have := polyline_ok w' v l (hl.later s)
    rw [hp] at this
    exact this
  obtain ⟨ad, c, rfl, hc, hm, hb, hcell⟩ := hl.spot' (by omega)
  refine ok_enter Tryz.func143 rfl Tryz.ntmps143 rfl ?_
  focus (refine gc_seq ?_; refine gc_region ?_; refine gM rfl rfl (by conv => (lhs; whnf)) ?_; refine gM rfl rfl (by conv => (lhs; whnf)) ?_; refine gO ?_; refine gc_seq ?_; refine gc_seq ?_; refine gc_region ?_; refine gM rfl rfl (by conv => (lhs; whnf)) ?_; apply gw_d; exact w_call rfl rfl (hC _) rfl; refine gM rfl rfl (by conv => (lhs; whnf)) ?_; refine gN ?_; refine gM rfl rfl (by conv => (lhs; whnf)) ?_; refine gC rfl rfl rfl rfl rfl ?_; refine gO ?_)
  refine gc_if_dec rfl (fun h => absurd rfl h) (fun _ => ?_)
  focus (refine gc_skip ?_; refine gx_next ?_; refine gc_seq ?_; refine gc_region ?_; refine gM rfl rfl (by conv => (lhs; whnf)) ?_; refine gO ?_; refine gc_seq ?_; refine gc_seq ?_; refine gc_region ?_; refine gM rfl rfl (by conv => (lhs; whnf)) ?_; refine gL rfl rfl rfl ?_; apply gw_d; exact det_ar rfl rfl rfl rfl rfl (by omega); refine gM rfl rfl (by conv => (lhs; whnf)) ?_; refine gO ?_; refine gc_block ?_)
  refine gc_loopK (σ := Nat) [16, 17, 6, 18, 19, 20, 21, 22, 23, 24, 25, 26, 27, 28, 29, 5, 30, 15] (fun k => [(15, .int .i64 k), (5, .int .i64 (lenS l k))]) (fun k => k ≤ l.length - 1) (fun k => l.length - k) 0 (Nat.zero_le _) ⟨rfl, rfl, trivial⟩ ?_
  rintro k base hk
  focus (refine gc_seq ?_; refine gc_region ?_; refine gC rfl rfl rfl rfl rfl ?_; refine gO ?_; refine gc_seq ?_)
  refine gc_if_dec rfl (fun h => ?_) (fun h => ?_)
  · have hk1 : k + 1 < l.length := by omega
    have hr := lenS_range hG k (by omega)
    have hsr := segL_range (hG.near k (by omega)) (hG.near (k + 1) hk1)
    have hc0 := hcell k (by omega)
    have hc1 := hcell (k + 1) hk1
    have hsg : ∀ (L : List Res) (w' : World), St w L w' → Ok Tryz.prog 169 [.agg #[.int .i64 (gS l k).1, .int .i64 (gS l k).2], .agg #[.int .i64 (gS l (k + 1)).1, .int .i64 (gS l (k + 1)).2]].toArray w' fun r _ => r = .int .i64 (segL (gS l k) (gS l (k + 1))) := fun L w' _ => segment_ok w' _ _ (hG.near k (by omega)) (hG.near (k + 1) hk1)
    focus (refine gc_skip ?_; refine gx_next ?_; refine gc_seq ?_; refine gc_block ?_; refine gc_seq ?_; refine gc_region ?_; refine gM rfl rfl (by conv => (lhs; whnf)) ?_; refine gM rfl rfl (by conv => (lhs; whnf)) ?_; refine gO ?_)
    refine gc_draw 12 (by kernel_rfl) (by kernel_rfl) ?_
    focus (apply gd_d; exact det_m rfl rfl (by conv => (lhs; whnf)); apply gd_d; exact det_m rfl rfl (by conv => (lhs; whnf)); apply gd_d; exact det_m rfl rfl (by conv => (lhs; whnf)); apply gd_d; exact w_index rfl rfl rfl rfl (by with_reducible exact rfl) (by omega); apply gd_d; exact w_load_elem rfl rfl rfl (by assumption) (by assumption) (by rfl); apply gd_d; exact det_m rfl rfl (by conv => (lhs; whnf)); apply gd_d; exact det_m rfl rfl (by conv => (lhs; whnf)); apply gd_d; exact det_ar rfl rfl rfl rfl rfl (by omega); apply gd_d; exact w_index rfl rfl rfl rfl (by with_reducible exact castA _) (by omega); apply gd_d; exact w_load_elem rfl rfl rfl (by assumption) (by assumption) (by rfl); apply gd_d; exact w_call rfl rfl (hsg _) rfl; apply gd_d; exact det_ar rfl rfl rfl rfl rfl (by omega); refine gd_nil ?_; refine gM rfl rfl (by conv => (lhs; whnf)) ?_; refine gw_nil ?_; refine gx_block ?_; refine gx_next ?_; refine gc_region ?_; apply gw_d; exact det_ar rfl rfl rfl rfl rfl (by omega); refine gM rfl rfl (by conv => (lhs; whnf)) ?_; refine gw_nil ?_)
    exact gx_round (k + 1) (by omega) (by omega) (by repeat (first | exact Keeps.refl | refine Keeps.upd rfl ?_ | refine Keeps.sets rfl ?_ | refine Keeps.havoc rfl ?_)) ⟨rfl, rfl, trivial⟩ (Sub.all _)
  · obtain rfl : k = l.length - 1 := by omega
    focus (refine gc_exit ?_; refine gx_then_exit ?_; refine gx_then_exit ?_; refine gx_block_exit ?_; refine gx_next ?_; refine gc_seq ?_; refine gc_region ?_; refine gM rfl rfl (by conv => (lhs; whnf)) ?_; refine gM rfl rfl (by conv => (lhs; whnf)) ?_; refine gM rfl rfl (by conv => (lhs; whnf)) ?_; refine gO ?_; refine gc_ret ?_)
    refine gx_ret2 (u := .int _ _) (v := .int _ _) rfl rfl rfl (fun _ _ => ?_)
    rfl
end Go.Proofs.YtckhibfbdnoigaaGreatDoor

/- Contracts: simple polygons. -/
namespace Go.Proofs.YtckhibfbdnoigaaGreatDoor
open Go.RowKit
set_option maxRecDepth 100000

def dupB (l : List (Int × Int)) (n : Nat) : Bool := (List.range n).any fun i => (l.take i).any (isP ((gS l i).1, (gS l i).2))
def foldAt (l : List (Int × Int)) (i : Nat) : Bool :=
  foldB (gS l i).1 (gS l i).2 (gS l ((i + 1) % l.length)).1 (gS l ((i + 1) % l.length)).2 (gS l ((i + 2) % l.length)).1 (gS l ((i + 2) % l.length)).2
def meetAt (l : List (Int × Int)) (i k : Nat) : Bool :=
  meetB (gS l i).1 (gS l i).2 (gS l ((i + 1) % l.length)).1 (gS l ((i + 1) % l.length)).2 (gS l k).1 (gS l k).2 (gS l ((k + 1) % l.length)).1 (gS l ((k + 1) % l.length)).2
def meetsB (l : List (Int × Int)) (i n : Nat) : Bool := (List.range n).any fun k => decide (i + 2 ≤ k) && decide ((k + 1) % l.length ≠ i) && meetAt l i k
def badB (l : List (Int × Int)) (n : Nat) : Bool := (List.range n).any fun i => foldAt l i || meetsB l i l.length
def simpleB (l : List (Int × Int)) : Bool := !dupB l l.length && !badB l l.length

theorem range_any_no {n k : Nat} {p : Nat → Bool} (hk : k < n) (h : p k = true) : (List.range n).any p = true := by
  rw [List.any_eq_true]
  exact ⟨k, List.mem_range.2 hk, h⟩
theorem range_any_snoc {k : Nat} {p : Nat → Bool} (h : (List.range k).any p = false) (hp : p k = false) : (List.range (k + 1)).any p = false := by
  rw [List.range_succ, List.any_append, h]
  simp [hp]

theorem mod_last {n i k : Nat} (hk : k < n) (hi : i + 2 ≤ k) (h : (k + 1) % n = i) : k + 1 = n := by
  rcases Nat.lt_or_ge (k + 1) n with h1 | h1
  · rw [Nat.mod_eq_of_lt h1] at h; omega
  · omega
theorem meets_end {l : List (Int × Int)} {i k : Nat} (h : meetsB l i k = false) (hk : ¬ (k < l.length ∧ (k + 1) % l.length ≠ i)) (hi : i + 2 ≤ k) (hkn : k ≤ max l.length (i + 2)) : meetsB l i l.length = false := by
  unfold meetsB at *
  rw [List.any_eq_false] at *
  intro m hm
  rw [List.mem_range] at hm
  by_cases hmk : m < k
  · exact h m (List.mem_range.2 hmk)
  · by_cases hmi : i + 2 ≤ m
    · have hlt : k < l.length := by omega
      have h2 : (k + 1) % l.length = i := by
        rcases Classical.em ((k + 1) % l.length = i) with h3 | h3
        · exact h3
        · exact absurd ⟨hlt, h3⟩ hk
      have := mod_last hlt hi h2
      have : m = k := by omega
      subst this
      simp [h2]
    · simp [hmi]

theorem meets_start (l : List (Int × Int)) (i : Nat) : meetsB l i (i + 2) = false := by
  unfold meetsB
  rw [List.any_eq_false]
  intro m hm
  rw [List.mem_range] at hm
  have : ¬ i + 2 ≤ m := by omega
  simp [this]

theorem bd_of {l : List (Int × Int)} (h : l.any outP = false) {k : Nat} (hk : k < l.length) : Bd (gS l k).1 ∧ Bd (gS l k).2 := by
  have := List.any_eq_false.1 h l[k] (List.getElem_mem hk)
  rw [gS_get hk]
  unfold outP outB at this
  unfold Bd
  simp only [Bool.or_eq_true, decide_eq_true_eq, not_or] at this
  omega

set_option maxHeartbeats 2000000 in
theorem simple_ok (w : World) (v : Value) (l : List (Int × Int)) (hl : Sl rSpot w w.heap.size v l) (hlen : 3 ≤ l.length) (h40 : l.length ≤ 40) (hout : l.any outP = false) : Ok Tryz.prog 168 [v].toArray w fun r _ => r = .bool (simpleB l) := by
  obtain ⟨ad, c, rfl, hc, hm, hb, hcell⟩ := hl.spot' (by omega)
  refine ok_enter Tryz.func168 rfl Tryz.ntmps168 rfl ?_
  focus (refine gc_seq ?_; refine gc_region ?_; refine gM rfl rfl (by conv => (lhs; whnf)) ?_; refine gN ?_; refine gM rfl rfl (by conv => (lhs; whnf)) ?_; refine gL rfl rfl rfl ?_; refine gM rfl rfl (by conv => (lhs; whnf)) ?_; refine gO ?_; refine gc_seq ?_; refine gc_seq ?_; refine gc_region ?_; refine gM rfl rfl (by conv => (lhs; whnf)) ?_; refine gL rfl rfl rfl ?_; refine gM rfl rfl (by conv => (lhs; whnf)) ?_; refine gO ?_; refine gc_block ?_)
  refine gc_loop (σ := Nat) [15, 16, 17, 18, 5, 4, 19, 20, 21, 22, 23, 2, 24, 14] (fun k => [(14, .int .i64 k)]) (fun _ => []) (fun k => k ≤ l.length ∧ dupB l k = false) (fun k => l.length - k) 0 ⟨Nat.zero_le _, rfl⟩ ⟨rfl, trivial⟩ .nil ?_
  rintro k base ⟨hk, hI⟩
  focus (refine gc_seq ?_; refine gc_region ?_; refine gC rfl rfl rfl rfl rfl ?_; refine gO ?_; refine gc_seq ?_)
  refine gc_if_dec rfl (fun h => ?_) (fun h => ?_)
  · have hlt : k < l.length := by omega
    have hce0 := hcell k hlt
    focus (refine gc_skip ?_; refine gx_next ?_; refine gc_seq ?_; refine gc_block ?_; refine gc_seq ?_; refine gc_region ?_; refine gM rfl rfl (by conv => (lhs; whnf)) ?_; apply gw_d; exact w_index rfl rfl rfl rfl (by with_reducible exact rfl) (by omega); apply gw_d; exact w_load_elem rfl rfl rfl (by assumption) (by assumption) (by rfl); refine w_alloc rfl (fun _ => ?_); refine gM rfl rfl (by conv => (lhs; whnf)) ?_; refine w_store_all rfl rfl rfl rfl rfl .here rfl ?_; refine gO ?_; refine gc_seq ?_)
    refine gc_draw 5 (by kernel_rfl) (by kernel_rfl) ?_
    focus (apply gd_d; exact det_m rfl rfl (by conv => (lhs; whnf)); apply gd_d; exact det_m rfl rfl (by conv => (lhs; whnf)); apply gd_d; exact w_cut_hi rfl rfl rfl rfl (by with_reducible exact rfl) (by omega); apply gd_d; exact w_load_boxN rfl rfl rfl .here rfl; apply gd_d; exact w_call rfl rfl (fun w s => containsSpot_ok w _ (l.take k) _ _ ((hl.take (m := k) (by omega)).later s)) rfl; refine gd_nil ?_; refine gO ?_; refine gc_if rfl (fun _ => ?_) (fun _ => ?_); refine gc_seq ?_; refine gc_region ?_; refine gM rfl rfl (by conv => (lhs; whnf)) ?_; refine gO ?_; refine gc_ret ?_; refine gx_block_ret ?_; refine gx_then_ret ?_; refine gx_then_ret ?_; refine gx_block_ret ?_; refine gx_then_ret ?_; rotate_left; refine gc_skip ?_; refine gx_block ?_; refine gx_next ?_; refine gc_region ?_; apply gw_d; exact det_ar rfl rfl rfl rfl rfl (by omega); refine gM rfl rfl (by conv => (lhs; whnf)) ?_; refine gw_nil ?_; rotate_left)
    · refine gx_ret1 (v := .bool _) rfl rfl (fun _ _ => ?_)
      have : dupB l l.length = true := range_any_no hlt ‹_›
      simp [simpleB, this]
    · exact gx_round (k + 1) ⟨by omega, range_any_snoc hI ‹_›⟩ (by omega) (by repeat (first | exact Keeps.refl | refine Keeps.upd rfl ?_ | refine Keeps.sets rfl ?_ | refine Keeps.havoc rfl ?_)) ⟨rfl, trivial⟩ .nil
  · obtain rfl : k = l.length := by omega
    focus (refine gc_exit ?_; refine gx_then_exit ?_; refine gx_then_exit ?_; refine gx_block_exit ?_; refine gx_next ?_; refine gc_seq ?_; refine gc_seq ?_; refine gc_region ?_; refine gM rfl rfl (by conv => (lhs; whnf)) ?_; refine gL rfl rfl rfl ?_; refine gM rfl rfl (by conv => (lhs; whnf)) ?_; refine gO ?_; refine gc_block ?_)
    refine gc_loop (σ := Nat) [28, 29, 30, 31, 7, 6, 32, 33, 34, 35, 36, 37, 38, 8, 39, 40, 41, 42, 43, 44, 45, 46, 47, 48, 2, 49, 50, 9, 51, 52, 53, 54, 55, 56, 57, 58, 59, 60, 61, 64, 65, 66, 67, 68, 69, 70, 71, 72, 73, 74, 75, 76, 77, 62, 63, 78, 27] (fun k => [(27, .int .i64 k)]) (fun _ => []) (fun k => k ≤ l.length ∧ badB l k = false) (fun k => l.length - k) 0 ⟨Nat.zero_le _, rfl⟩ ⟨rfl, trivial⟩ .nil ?_
    rintro i base2 ⟨hi, hJ⟩
    focus (refine gc_seq ?_; refine gc_region ?_; refine gC rfl rfl rfl rfl rfl ?_; refine gO ?_; refine gc_seq ?_)
    refine gc_if_dec rfl (fun h => ?_) (fun h => ?_)
    · have hlt : i < l.length := by omega
      have hp1 : (i + 1) % l.length < l.length := Nat.mod_lt _ (by omega)
      have hp2 : (i + 2) % l.length < l.length := Nat.mod_lt _ (by omega)
      have hce0 := hcell i hlt
      have hce1 := hcell _ hp1
      have hce2 := hcell _ hp2
      obtain ⟨b1, b2⟩ := bd_of hout hlt
      obtain ⟨b3, b4⟩ := bd_of hout hp1
      obtain ⟨b5, b6⟩ := bd_of hout hp2
      focus (refine gc_skip ?_; refine gx_next ?_; refine gc_seq ?_; refine gc_block ?_; refine gc_seq ?_; refine gc_region ?_; refine gM rfl rfl (by conv => (lhs; whnf)) ?_; apply gw_d; exact w_index rfl rfl rfl rfl (by with_reducible exact rfl) (by omega); apply gw_d; exact w_load_elem rfl rfl rfl (by assumption) (by assumption) (by rfl); refine w_alloc rfl (fun _ => ?_); refine gM rfl rfl (by conv => (lhs; whnf)) ?_; refine w_store_all rfl rfl rfl rfl rfl .here rfl ?_; refine gN ?_; refine gM rfl rfl (by conv => (lhs; whnf)) ?_; refine gM rfl rfl (by conv => (lhs; whnf)) ?_; apply gw_d; exact det_ar rfl rfl rfl rfl rfl (by omega); refine gM rfl rfl (by conv => (lhs; whnf)) ?_; apply gw_d; exact det_rem rfl rfl rfl rfl (by omega) (by omega); apply gw_d; exact w_index rfl rfl rfl rfl (by with_reducible exact castM _ _) (by omega); apply gw_d; exact w_load_elem rfl rfl rfl (by assumption) (by assumption) (by rfl); refine w_alloc rfl (fun _ => ?_); refine w_store_all rfl rfl rfl rfl rfl .here rfl ?_; refine gO ?_; refine gc_seq ?_; refine gc_seq ?_)
      refine gc_draw 10 (by kernel_rfl) (by kernel_rfl) ?_
      focus (apply gd_d; exact w_load_boxN rfl rfl rfl (.there .here) rfl; apply gd_d; exact w_load_boxN rfl rfl rfl .here rfl; apply gd_d; exact det_m rfl rfl (by conv => (lhs; whnf)); apply gd_d; exact det_m rfl rfl (by conv => (lhs; whnf)); apply gd_d; exact det_ar rfl rfl rfl rfl rfl (by omega); apply gd_d; exact det_m rfl rfl (by conv => (lhs; whnf)); apply gd_d; exact det_rem rfl rfl rfl rfl (by omega) (by omega); apply gd_d; exact w_index rfl rfl rfl rfl (by with_reducible exact castN _ _) (by omega); apply gd_d; exact w_load_elem rfl rfl rfl (by assumption) (by assumption) (by rfl); apply gd_d; exact w_call rfl rfl (fun w s => folded_ok w _ _ _ _ _ _ b1 b2 b3 b4 b5 b6) rfl; refine gd_nil ?_; refine gO ?_; refine gc_if rfl (fun _ => ?_) (fun _ => ?_); refine gc_seq ?_; refine gc_region ?_; refine gM rfl rfl (by conv => (lhs; whnf)) ?_; refine gO ?_; refine gc_ret ?_; refine gx_then_ret ?_; refine gx_block_ret ?_; refine gx_then_ret ?_; refine gx_then_ret ?_; refine gx_block_ret ?_; refine gx_then_ret ?_; rotate_left; refine gc_skip ?_; refine gx_next ?_; refine gc_seq ?_; refine gc_region ?_; refine gM rfl rfl (by conv => (lhs; whnf)) ?_; apply gw_d; exact det_ar rfl rfl rfl rfl rfl (by omega); refine gM rfl rfl (by conv => (lhs; whnf)) ?_; refine gO ?_; refine gc_block ?_; rotate_left)
      · refine gx_ret1 (v := .bool _) rfl rfl (fun _ _ => ?_)
        have : badB l l.length = true := range_any_no hlt (by
          have : foldAt l i = true := ‹_›
          simp [this])
        simp [simpleB, hI, this]
      · have hfold : foldAt l i = false := ‹_›
        refine gc_loopK (σ := Nat) [51, 52, 53, 54, 55, 56, 57, 58, 59, 60, 61, 64, 65, 66, 67, 68, 69, 70, 71, 72, 73, 74, 75, 76, 77, 2, 62, 63, 9] (fun k => [(9, .int .i64 k)]) (fun k => i + 2 ≤ k ∧ k ≤ max l.length (i + 2) ∧ meetsB l i k = false) (fun k => l.length - k) (i + 2) ⟨Nat.le_refl _, by omega, meets_start l i⟩ ⟨rfl, trivial⟩ ?_
        rintro k base3 ⟨hk1, hk2, hM⟩
        focus (refine gc_seq ?_; refine gc_seq ?_; refine gc_region ?_; refine gM rfl rfl (by conv => (lhs; whnf)) ?_; refine gM rfl rfl (by conv => (lhs; whnf)) ?_; refine gC rfl rfl rfl rfl rfl ?_; refine gM rfl rfl (by conv => (lhs; whnf)) ?_; refine gw_guard_dec rfl rfl (fun _ => ?_) (fun _ => ?_); refine gM rfl rfl (by conv => (lhs; whnf)) ?_; apply gw_d; exact det_ar rfl rfl rfl rfl rfl (by omega); refine gM rfl rfl (by conv => (lhs; whnf)) ?_; apply gw_d; exact det_rem rfl rfl rfl rfl (by omega) (by omega); refine gM rfl rfl (by conv => (lhs; whnf)) ?_; refine gC rfl rfl rfl rfl rfl ?_; apply gw_d; exact det_pick_t (v := .bool _) rfl rfl rfl rfl; refine gO ?_; rotate_left; refine gU rfl ?_; refine gU rfl ?_; refine gU rfl ?_; refine gU rfl ?_; refine gU rfl ?_; refine gU rfl ?_; apply gw_d; exact det_pick_f (v := .bool _) rfl rfl rfl rfl; refine gO ?_; rotate_left)
        · refine gc_if_dec rfl (fun h3 => ?_) (fun h3 => ?_)
          · have hk : k < l.length := by omega
            have hq1 : (k + 1) % l.length < l.length := Nat.mod_lt _ (by omega)
            have hce3 := hcell k hk
            have hce4 := hcell _ hq1
            obtain ⟨b7, b8⟩ := bd_of hout hk
            obtain ⟨b9, b10⟩ := bd_of hout hq1
            have hne : (k + 1) % l.length ≠ i := fun h4 => h3 (by have := congrArg (fun n : Nat => (n : Int)) h4; simpa using this)
            focus (refine gc_skip ?_; refine gx_next ?_; refine gc_seq ?_; refine gc_block ?_; refine gc_seq ?_)
            refine gc_draw 14 (by kernel_rfl) (by kernel_rfl) ?_
            focus (apply gd_d; exact w_load_boxN rfl rfl rfl (.there .here) rfl; apply gd_d; exact w_load_boxN rfl rfl rfl .here rfl; apply gd_d; exact det_m rfl rfl (by conv => (lhs; whnf)); apply gd_d; exact det_m rfl rfl (by conv => (lhs; whnf)); apply gd_d; exact w_index rfl rfl rfl rfl (by with_reducible exact rfl) (by omega); apply gd_d; exact w_load_elem rfl rfl rfl (by assumption) (by assumption) (by rfl); apply gd_d; exact det_m rfl rfl (by conv => (lhs; whnf)); apply gd_d; exact det_m rfl rfl (by conv => (lhs; whnf)); apply gd_d; exact det_ar rfl rfl rfl rfl rfl (by omega); apply gd_d; exact det_m rfl rfl (by conv => (lhs; whnf)); apply gd_d; exact det_rem rfl rfl rfl rfl (by omega) (by omega); apply gd_d; exact w_index rfl rfl rfl rfl (by with_reducible exact castM _ _) (by omega); apply gd_d; exact w_load_elem rfl rfl rfl (by assumption) (by assumption) (by rfl); apply gd_d; exact w_call rfl rfl (fun w s => meet_ok w _ _ _ _ _ _ _ _ b1 b2 b3 b4 b7 b8 b9 b10) rfl; refine gd_nil ?_; refine gO ?_; refine gc_if rfl (fun _ => ?_) (fun _ => ?_); refine gc_seq ?_; refine gc_region ?_; refine gM rfl rfl (by conv => (lhs; whnf)) ?_; refine gO ?_; refine gc_ret ?_; refine gx_block_ret ?_; refine gx_then_ret ?_; refine gx_then_ret ?_; refine gx_block_ret ?_; refine gx_block_ret ?_; refine gx_then_ret ?_; refine gx_then_ret ?_; refine gx_block_ret ?_; refine gx_then_ret ?_; rotate_left; refine gc_skip ?_; refine gx_block ?_; refine gx_next ?_; refine gc_region ?_; refine gM rfl rfl (by conv => (lhs; whnf)) ?_; apply gw_d; exact det_ar rfl rfl rfl rfl rfl (by omega); refine gM rfl rfl (by conv => (lhs; whnf)) ?_; refine gw_nil ?_; rotate_left)
            · refine gx_ret1 (v := .bool _) rfl rfl (fun _ _ => ?_)
              have hm1 : meetAt l i k = true := ‹_›
              have hm2 : meetsB l i l.length = true := range_any_no hk (by simp [hm1, hk1, hne])
              have : badB l l.length = true := range_any_no hlt (by simp [hm2])
              simp [simpleB, hI, this]
            · have hm1 : meetAt l i k = false := ‹_›
              exact gx_round (k + 1) ⟨by omega, by omega, range_any_snoc hM (by simp [hm1])⟩ (by omega) (by repeat (first | exact Keeps.refl | refine Keeps.upd rfl ?_ | refine Keeps.sets rfl ?_ | refine Keeps.havoc rfl ?_)) ⟨rfl, trivial⟩ (Sub.all _)
          · have he : meetsB l i l.length = false := meets_end hM (fun h4 => h3 (fun h5 => h4.2 (Int.ofNat.inj (by simpa using h5)))) hk1 hk2
            focus (refine gc_exit ?_; refine gx_then_exit ?_; refine gx_then_exit ?_; refine gx_block_exit ?_; refine gx_block ?_; refine gx_next ?_; refine gc_region ?_; apply gw_d; exact det_ar rfl rfl rfl rfl rfl (by omega); refine gM rfl rfl (by conv => (lhs; whnf)) ?_; refine gw_nil ?_)
            exact gx_round (i + 1) ⟨by omega, range_any_snoc hJ (by simp [hfold, he])⟩ (by omega) (by repeat (first | exact Keeps.refl | refine Keeps.upd rfl ?_ | refine Keeps.sets rfl ?_ | refine Keeps.havoc rfl ?_)) ⟨rfl, trivial⟩ .nil
        · have he : meetsB l i l.length = false := meets_end hM (fun h4 => by omega) hk1 hk2
          focus (refine gc_if_false rfl ?_; refine gc_exit ?_; refine gx_then_exit ?_; refine gx_then_exit ?_; refine gx_block_exit ?_; refine gx_block ?_; refine gx_next ?_; refine gc_region ?_; apply gw_d; exact det_ar rfl rfl rfl rfl rfl (by omega); refine gM rfl rfl (by conv => (lhs; whnf)) ?_; refine gw_nil ?_)
          exact gx_round (i + 1) ⟨by omega, range_any_snoc hJ (by simp [hfold, he])⟩ (by omega) (by repeat (first | exact Keeps.refl | refine Keeps.upd rfl ?_ | refine Keeps.sets rfl ?_ | refine Keeps.havoc rfl ?_)) ⟨rfl, trivial⟩ .nil
    · focus (refine gc_exit ?_; refine gx_then_exit ?_; refine gx_then_exit ?_; refine gx_block_exit ?_; refine gx_next ?_; refine gc_seq ?_; refine gc_region ?_; refine gM rfl rfl (by conv => (lhs; whnf)) ?_; refine gO ?_; refine gc_ret ?_)
      refine gx_ret1 (v := .bool _) rfl rfl (fun _ _ => ?_)
      obtain rfl : i = l.length := by omega
      simp [simpleB, hI, hJ]

def polyE (l : List (Int × Int)) : Int := if 40 < l.length then 5 else if l.length < 3 then 11 else if l.any outP = true then 3 else if simpleB l = true then 0 else 11
theorem polygon_ok (w : World) (v : Value) (l : List (Int × Int)) (hl : Sl rSpot w w.heap.size v l) : Ok Tryz.prog 140 [v].toArray w fun r _ => r = .int .i64 (polyE l) := by
  obtain ⟨A, c, rfl, hc, hm⟩ := len_small hl
  refine ok_enter Tryz.func140 rfl Tryz.ntmps140 rfl ?_
  focus (refine gc_seq ?_; refine gc_region ?_; refine gM rfl rfl (by conv => (lhs; whnf)) ?_; refine gO ?_; refine gc_seq ?_; refine gc_seq ?_; refine gc_region ?_; refine gM rfl rfl (by conv => (lhs; whnf)) ?_; refine gL rfl rfl rfl ?_; refine gC rfl rfl rfl rfl rfl ?_; refine gO ?_; refine gc_if_dec rfl (fun _ => ?_) (fun _ => ?_); refine gc_seq ?_; refine gc_region ?_; refine gM rfl rfl (by conv => (lhs; whnf)) ?_; refine gO ?_; refine gc_ret ?_; refine gx_then_ret ?_; rotate_left; refine gc_skip ?_; refine gx_next ?_; refine gc_seq ?_; refine gc_seq ?_; refine gc_region ?_; refine gM rfl rfl (by conv => (lhs; whnf)) ?_; refine gL rfl rfl rfl ?_; refine gC rfl rfl rfl rfl rfl ?_; refine gO ?_; refine gc_if_dec rfl (fun _ => ?_) (fun _ => ?_); refine gc_seq ?_; refine gc_region ?_; refine gM rfl rfl (by conv => (lhs; whnf)) ?_; refine gO ?_; refine gc_ret ?_; refine gx_then_ret ?_; rotate_left; refine gc_skip ?_; refine gx_next ?_; refine gc_seq ?_; refine gc_seq ?_; refine gc_region ?_; refine gM rfl rfl (by conv => (lhs; whnf)) ?_; apply gw_d; exact w_call rfl rfl (fun w s => containsFunc_ok 167 outside_ok w _ l (hl.later s)) rfl; refine gO ?_; refine gc_if rfl (fun _ => ?_) (fun _ => ?_); refine gc_seq ?_; refine gc_region ?_; refine gM rfl rfl (by conv => (lhs; whnf)) ?_; refine gO ?_; refine gc_ret ?_; refine gx_then_ret ?_; rotate_left; refine gc_skip ?_; refine gx_next ?_; refine gc_seq ?_; refine gc_seq ?_; refine gc_region ?_; refine gM rfl rfl (by conv => (lhs; whnf)) ?_; apply gw_d; exact w_call rfl rfl (fun w s => simple_ok w _ l (hl.later s) (by omega) (by omega) ‹_›) rfl; apply gw_d; exact det_not_ rfl rfl rfl; refine gO ?_; refine gc_if rfl (fun _ => ?_) (fun _ => ?_); refine gc_seq ?_; refine gc_region ?_; refine gM rfl rfl (by conv => (lhs; whnf)) ?_; refine gO ?_; refine gc_ret ?_; refine gx_then_ret ?_; rotate_left; refine gc_skip ?_; refine gx_next ?_; refine gc_seq ?_; refine gc_region ?_; refine gM rfl rfl (by conv => (lhs; whnf)) ?_; refine gO ?_; refine gc_ret ?_; rotate_left)
  all_goals
    refine gx_ret1 (v := .int _ _) rfl rfl (fun _ _ => ?_)
    congr 1
    unfold polyE
    repeat' split
    all_goals first | rfl | (exfalso; omega) | simp_all
end Go.Proofs.YtckhibfbdnoigaaGreatDoor

/- Contracts: formulas that are names; numbers that are 0. -/
namespace Go.Proofs.YtckhibfbdnoigaaGreatDoor
open Go.RowKit
set_option maxRecDepth 100000
set_option maxHeartbeats 1000000

def rU32 : Rp Int where
  size := 1
  rep _ _ i cs := cs = [.int .u32 i]
  len h := by rw [h]; rfl
  mono _ h := h
  grow _ h := h
theorem Sl.u32 {w : World} {B : Nat} {v : Value} {l : List Int} (h : Sl rU32 w B v l) : ∃ A c, v = .slice A l.length c ∧ l.length ≤ c ∧ l.length ≤ 9223372036854775807 ∧
    ∀ k (hk : k < l.length), ∃ ad, A = some ad ∧ ad.block < B ∧ w.cell? (ad.add (k * 1)) = some (.int .u32 l[k]) := by
  obtain ⟨A, c, hv, h1, h2, h3⟩ := h
  refine ⟨A, c, hv, h1, by unfold maxLen at h2; omega, fun k hk => ?_⟩
  obtain ⟨ad, cs, ha, hlt, hc, hr⟩ := h3 k hk
  obtain rfl := hr
  exact ⟨ad, ha, hlt, hc 0 _ rfl⟩
theorem Sl.none0 {α : Type} (R : Rp α) (w : World) (A : Option Addr) (c : Nat) (hc : c ≤ 1000) : Sl R w w.heap.size (.slice A 0 c) ([] : List α) :=
  ⟨A, c, rfl, Nat.zero_le _, by unfold maxLen; omega, fun k hk => by cases hk⟩

/-- The length without the zeros at the end. -/
def tl (l : List Int) : Nat → Nat
  | 0 => 0
  | n + 1 => if l.getD n 0 = 0 then tl l n else n + 1
theorem trim_ok (w : World) (A : Option Addr) (c : Nat) (l : List Int) (hl : Sl rU32 w w.heap.size (.slice A l.length c) l) :
    Ok Tryz.prog 175 [.slice A l.length c].toArray w fun r _ => r = .slice A (tl l l.length) c := by
  obtain ⟨A', c', hv, hc, hm, hcell⟩ := hl.u32
  injection hv with e1 e2 e3
  subst e1 e3
  refine ok_enter Tryz.func175 rfl Tryz.ntmps175 rfl ?_
  focus (refine gc_seq ?_; refine gc_region ?_; refine gM rfl rfl (by conv => (lhs; whnf)) ?_; refine gN ?_; refine gM rfl rfl (by conv => (lhs; whnf)) ?_; refine gL rfl rfl rfl ?_; refine gM rfl rfl (by conv => (lhs; whnf)) ?_; refine gO ?_; refine gc_seq ?_; refine gc_block ?_)
  refine gc_loop (σ := Nat) [6, 7, 8, 9, 10, 11, 12, 13, 14, 15, 16, 17, 3] (fun k => [(3, .int .i64 k)]) (fun _ => []) (fun k => k ≤ l.length ∧ tl l k = tl l l.length) (fun k => k) l.length ⟨Nat.le_refl _, rfl⟩ ⟨rfl, trivial⟩ .nil ?_
  rintro k base ⟨hk, hI⟩
  focus (refine gc_seq ?_; refine gc_seq ?_; refine gc_region ?_; refine gM rfl rfl (by conv => (lhs; whnf)) ?_; refine gC rfl rfl rfl rfl rfl ?_; refine gM rfl rfl (by conv => (lhs; whnf)) ?_; refine gw_guard_dec rfl rfl (fun _ => ?_) (fun _ => ?_); refine gM rfl rfl (by conv => (lhs; whnf)) ?_; refine gM rfl rfl (by conv => (lhs; whnf)) ?_; apply gw_d; exact det_ar rfl rfl rfl rfl rfl (by omega); rotate_left; refine gU rfl ?_; refine gU rfl ?_; refine gU rfl ?_; refine gU rfl ?_; refine gU rfl ?_; refine gU rfl ?_; apply gw_d; exact det_pick_f (v := .bool _) rfl rfl rfl rfl; refine gO ?_; rotate_left)
  · obtain ⟨ad, rfl, hb, hce⟩ := hcell (k - 1) (by omega)
    obtain ⟨k', rfl⟩ : ∃ k', k = k' + 1 := ⟨k - 1, by omega⟩
    focus (apply gw_d; exact w_index rfl rfl rfl rfl (by with_reducible exact castS (by omega)) (by omega); apply gw_d; exact w_load_at rfl rfl rfl (by assumption) (by assumption); refine gC rfl rfl rfl rfl rfl ?_; apply gw_d; exact det_pick_t (v := .bool _) rfl rfl rfl rfl; refine gO ?_; refine gc_if_dec rfl (fun _ => ?_) (fun _ => ?_); refine gc_skip ?_; refine gx_next ?_; refine gc_block ?_; refine gc_region ?_; refine gM rfl rfl (by conv => (lhs; whnf)) ?_; apply gw_d; exact det_ar rfl rfl rfl rfl rfl (by omega); refine gM rfl rfl (by conv => (lhs; whnf)) ?_; refine gw_nil ?_; refine gx_block ?_; rotate_left; refine gc_exit ?_; refine gx_then_exit ?_; refine gx_then_exit ?_; refine gx_block_exit ?_; refine gx_next ?_; refine gc_seq ?_; refine gc_region ?_; refine gM rfl rfl (by conv => (lhs; whnf)) ?_; refine gM rfl rfl (by conv => (lhs; whnf)) ?_; apply gw_d; exact w_cut_hi rfl rfl rfl rfl (by with_reducible exact rfl) (by omega); refine gM rfl rfl (by conv => (lhs; whnf)) ?_; refine gO ?_; refine gc_ret ?_; rotate_left)
    · rename_i h1 h2
      have h3 : l.getD k' 0 = 0 := by simpa [show k' < l.length by omega] using h2
      exact gx_round k' ⟨by omega, by rw [← hI]; show _ = (if l.getD k' 0 = 0 then tl l k' else k' + 1); rw [if_pos h3]⟩ (by omega) (by repeat (first | exact Keeps.refl | refine Keeps.upd rfl ?_ | refine Keeps.sets rfl ?_ | refine Keeps.havoc rfl ?_)) ⟨(congrArg (Value.int .i64) (show ((k' + 1 : Nat) : Int) - 1 = (k' : Int) by omega)), trivial⟩ .nil
    · rename_i h1 h2
      have h3 : ¬ l.getD k' 0 = 0 := by simpa [show k' < l.length by omega] using h2
      refine gx_ret1 (v := .slice _ _ _) rfl rfl (fun _ _ => ?_)
      rw [← hI]
      show Value.slice _ (k' + 1) _ = .slice _ (if l.getD k' 0 = 0 then tl l k' else k' + 1) _
      rw [if_neg h3]
  · focus (refine gc_if_false rfl ?_; refine gc_exit ?_; refine gx_then_exit ?_; refine gx_then_exit ?_; refine gx_block_exit ?_; refine gx_next ?_; refine gc_seq ?_; refine gc_region ?_; refine gM rfl rfl (by conv => (lhs; whnf)) ?_; refine gM rfl rfl (by conv => (lhs; whnf)) ?_; apply gw_d; exact w_cut_hi rfl rfl rfl rfl (by with_reducible exact rfl) (by omega); refine gM rfl rfl (by conv => (lhs; whnf)) ?_; refine gO ?_; refine gc_ret ?_)
    refine gx_ret1 (v := .slice _ _ _) rfl rfl (fun _ _ => ?_)
    obtain rfl : k = 0 := by omega
    rw [← hI]
    rfl

theorem Sl.box32 {w0 w : World} {L L' : List Res} {b c : Nat} {bt : TypeId} {l : List Int} (s : St w0 L w) (hp : Pick L (Box b bt (l.map (Value.int .u32)).toArray) L') (h1 : l.length ≤ c) (h2 : c ≤ 1000) : Sl rU32 w w.heap.size (.slice (some ⟨b, 0, none⟩) l.length c) l := by
  have hs := s.pick hp
  have hb : b < w.heap.size := (hs.sep.fp _ List.mem_cons_self b rfl).2
  refine ⟨_, c, rfl, h1, by unfold maxLen; omega, fun k hk => ⟨⟨b, 0, none⟩, [.int .u32 l[k]], rfl, hb, fun j u hu => ?_, rfl⟩⟩
  cases j with
  | succ j => simp at hu
  | zero =>
    have hadd : (⟨b, 0, none⟩ : Addr).add (k * rU32.size + 0) = ⟨b, k, none⟩ := by unfold Addr.add rU32; split <;> simp_all
    rw [hadd, Box.cell hs.head k]
    simp at hu
    subst hu
    simp [hk]

theorem of1_ok (w : World) : OkM Tryz.prog 149 [.int .u64 1].toArray w (fun b => .slice (some ⟨b, 0, none⟩) 1 2) (fun b => [Box b 240 #[.int .u32 1, .int .u32 0]]) := by
  unfold OkM
  refine ok_enter Tryz.func149 rfl Tryz.ntmps149 rfl ?_
  focus (refine gc_seq ?_; refine gc_region ?_; refine gM rfl rfl (by conv => (lhs; whnf)) ?_; refine gN ?_; refine gM rfl rfl (by conv => (lhs; whnf)) ?_; apply gw_d; exact det_conv (r := 1) rfl rfl rfl (by rfl); refine gM rfl rfl (by conv => (lhs; whnf)) ?_; apply gw_d; exact det_shr (r := 0) rfl rfl rfl rfl (by decide) (by rfl); apply gw_d; exact det_conv (r := 0) rfl rfl rfl (by rfl))
  refine gw_bslice (cells := #[.int .u32 1, .int .u32 0]) rfl ?_ ?_ ?_ (fun b => ?_)
  · rfl
  · rfl
  · kernel_rfl
  focus (apply gw_d; exact w_call rfl rfl (fun w s => trim_ok w _ _ [1, 0] (Sl.box32 s .here (by decide) (by decide))) rfl; refine gM rfl rfl (by conv => (lhs; whnf)) ?_; refine gO ?_; refine gc_ret ?_)
  refine gx_ret1 rfl rfl fun w s => ⟨b, rfl, s.sep⟩

theorem natCmp0_ok (w : World) (A B : Option Addr) (c d : Nat) (l m : List Int) (hl : Sl rU32 w w.heap.size (.slice A l.length c) l) (hm : Sl rU32 w w.heap.size (.slice B m.length d) m) (h1 : tl l l.length = 0) (h2 : tl m m.length = 0) :
    Ok Tryz.prog 148 [.slice A l.length c, .slice B m.length d].toArray w fun r _ => r = .int .i64 0 := by
  have t1 : ∀ w' L, St w L w' → Ok Tryz.prog 175 [.slice A l.length c].toArray w' fun r _ => r = .slice A 0 c := fun w' L s => by rw [← h1]; exact trim_ok w' A c l (hl.later s)
  have t2 : ∀ w' L, St w L w' → Ok Tryz.prog 175 [.slice B m.length d].toArray w' fun r _ => r = .slice B 0 d := fun w' L s => by rw [← h2]; exact trim_ok w' B d m (hm.later s)
  refine ok_enter Tryz.func148 rfl Tryz.ntmps148 rfl ?_
  focus (refine gc_seq ?_; refine gc_region ?_; refine gM rfl rfl (by conv => (lhs; whnf)) ?_; refine gN ?_; refine gM rfl rfl (by conv => (lhs; whnf)) ?_; apply gw_d; exact w_call rfl rfl (fun w s => t1 w _ s) rfl; refine gM rfl rfl (by conv => (lhs; whnf)) ?_; apply gw_d; exact w_call rfl rfl (fun w s => t2 w _ s) rfl; refine gM rfl rfl (by conv => (lhs; whnf)) ?_; refine gM rfl rfl (by conv => (lhs; whnf)) ?_; refine gO ?_; refine gc_seq ?_; refine gc_seq ?_; refine gc_region ?_; refine gM rfl rfl (by conv => (lhs; whnf)) ?_; refine gL rfl rfl rfl ?_; refine gM rfl rfl (by conv => (lhs; whnf)) ?_; refine gL rfl rfl rfl ?_; apply gw_d; exact w_call rfl rfl (fun w s => compare_ok w _ _) rfl; refine gM rfl rfl (by conv => (lhs; whnf)) ?_; refine gN ?_; refine gM rfl rfl (by conv => (lhs; whnf)) ?_; refine gC rfl rfl rfl rfl rfl ?_; refine gO ?_)
  refine gc_if_dec rfl (fun h => absurd (show signI ((0 : Nat) : Int) ((0 : Nat) : Int) = 0 by rfl) h) (fun _ => ?_)
  focus (refine gc_skip ?_; refine gx_next ?_; refine gc_seq ?_; refine gc_seq ?_; refine gc_region ?_; refine gM rfl rfl (by conv => (lhs; whnf)) ?_; refine gL rfl rfl rfl ?_; apply gw_d; exact det_ar rfl rfl rfl rfl rfl (by omega); refine gM rfl rfl (by conv => (lhs; whnf)) ?_; refine gO ?_; refine gc_block ?_)
  refine gc_loop (σ := Unit) [23, 24, 27, 28, 29, 30, 31, 32, 33, 34, 35, 7, 36, 37, 38, 4, 25, 26, 6] (fun _ => [(6, .int .i64 (((0 : Nat) : Int) - 1))]) (fun _ => []) (fun _ => True) (fun _ => 0) () trivial ⟨rfl, trivial⟩ .nil ?_
  rintro k base -
  focus (refine gc_seq ?_; refine gc_seq ?_; refine gc_region ?_; refine gM rfl rfl (by conv => (lhs; whnf)) ?_; refine gC rfl rfl rfl rfl rfl ?_; refine gO ?_)
  refine gc_if_dec rfl (fun h => absurd h (by omega)) (fun _ => ?_)
  focus (refine gc_exit ?_; refine gx_then_exit ?_; refine gx_then_exit ?_; refine gx_block_exit ?_; refine gx_next ?_; refine gc_seq ?_; refine gc_region ?_; refine gM rfl rfl (by conv => (lhs; whnf)) ?_; refine gO ?_; refine gc_ret ?_)
  refine gx_ret1 (v := .int _ _) rfl rfl (fun _ _ => ?_)
  rfl

/-- Norm of what is 0. -/
theorem natNorm0_ok (w : World) (A : Option Addr) (c : Nat) (l : List Int) (hl : Sl rU32 w w.heap.size (.slice A l.length c) l) (h1 : tl l l.length = 0) :
    OkM Tryz.prog 201 [.slice A l.length c].toArray w (fun b => .slice (some ⟨b, 0, none⟩) 0 0) (fun _ => []) := by
  have t1 : ∀ w' L, St w L w' → Ok Tryz.prog 175 [.slice A l.length c].toArray w' fun r _ => r = .slice A 0 c := fun w' L s => by rw [← h1]; exact trim_ok w' A c l (hl.later s)
  unfold OkM
  refine ok_enter Tryz.func201 rfl Tryz.ntmps201 rfl ?_
  focus (refine gc_seq ?_; refine gc_region ?_; refine gM rfl rfl (by conv => (lhs; whnf)) ?_; refine gN ?_; refine gM rfl rfl (by conv => (lhs; whnf)) ?_; apply gw_d; exact w_call rfl rfl (fun w s => t1 w _ s) rfl; refine gM rfl rfl (by conv => (lhs; whnf)) ?_; refine gN ?_; refine gM rfl rfl (by conv => (lhs; whnf)) ?_; refine gL rfl rfl rfl ?_)
  refine gw_makeN (n := 0) rfl rfl rfl (by rfl) (by rfl) (by decide) (by decide) (fun b => ?_)
  focus (refine gM rfl rfl (by conv => (lhs; whnf)) ?_; refine gN ?_; refine gM rfl rfl (by conv => (lhs; whnf)) ?_; refine gM rfl rfl (by conv => (lhs; whnf)) ?_; apply gw_d; exact det_copy0 rfl rfl rfl rfl; refine gN ?_; refine gM rfl rfl (by conv => (lhs; whnf)) ?_; refine gM rfl rfl (by conv => (lhs; whnf)) ?_; refine gO ?_; refine gc_ret ?_)
  exact gx_ret1 rfl rfl fun w s => ⟨b, rfl, trivial⟩

theorem natMul0_ok (w : World) (A B : Option Addr) (c d : Nat) (l m : List Int) (hl : Sl rU32 w w.heap.size (.slice A l.length c) l) (hm : Sl rU32 w w.heap.size (.slice B m.length d) m) (h1 : tl l l.length = 0) (h2 : tl m m.length = 1) :
    OkM Tryz.prog 174 [.slice A l.length c, .slice B m.length d].toArray w (fun b => .slice (some ⟨b, 0, none⟩) 0 1) (fun _ => []) := by
  have t1 : ∀ w' L, St w L w' → Ok Tryz.prog 175 [.slice A l.length c].toArray w' fun r _ => r = .slice A 0 c := fun w' L s => by rw [← h1]; exact trim_ok w' A c l (hl.later s)
  have t2 : ∀ w' L, St w L w' → Ok Tryz.prog 175 [.slice B m.length d].toArray w' fun r _ => r = .slice B 1 d := fun w' L s => by rw [← h2]; exact trim_ok w' B d m (hm.later s)
  unfold OkM
  refine ok_enter Tryz.func174 rfl Tryz.ntmps174 rfl ?_
  focus (refine gc_seq ?_; refine gc_region ?_; refine gM rfl rfl (by conv => (lhs; whnf)) ?_; refine gN ?_; refine gM rfl rfl (by conv => (lhs; whnf)) ?_; apply gw_d; exact w_call rfl rfl (fun w s => t1 w _ s) rfl; refine gM rfl rfl (by conv => (lhs; whnf)) ?_; apply gw_d; exact w_call rfl rfl (fun w s => t2 w _ s) rfl; refine gM rfl rfl (by conv => (lhs; whnf)) ?_; refine gM rfl rfl (by conv => (lhs; whnf)) ?_; refine gN ?_; refine gM rfl rfl (by conv => (lhs; whnf)) ?_; refine gL rfl rfl rfl ?_; refine gM rfl rfl (by conv => (lhs; whnf)) ?_; refine gL rfl rfl rfl ?_; apply gw_d; exact det_ar rfl rfl rfl rfl rfl (by omega))
  refine gw_makeN (n := 1) rfl rfl rfl (by rfl) (by rfl) (by decide) (by decide) (fun b => ?_)
  rw [show madeCells (Value.int .u32 0).cells (1 * 1) = #[.int .u32 0] by kernel_rfl]
  focus (refine gM rfl rfl (by conv => (lhs; whnf)) ?_; refine gO ?_; refine gc_seq ?_; refine gc_seq ?_; refine gc_region ?_; refine gM rfl rfl (by conv => (lhs; whnf)) ?_; refine gL rfl rfl rfl ?_; refine gM rfl rfl (by conv => (lhs; whnf)) ?_; refine gO ?_; refine gc_block ?_)
  refine gc_loop (σ := Unit) [24, 25, 26, 27, 6, 7, 8, 28, 29, 30, 31, 32, 33, 34, 9, 10, 35, 36, 37, 38, 39, 40, 41, 42, 43, 44, 45, 46, 47, 48, 49, 50, 51, 52, 53, 54, 55, 56, 57, 58, 59, 60, 61, 62, 63, 64, 65, 66, 67, 68, 23] (fun _ => [(23, .int .i64 0)]) (fun _ => [Box b 240 #[.int .u32 0]]) (fun _ => True) (fun _ => 0) () trivial ⟨rfl, trivial⟩ (.cons .here .nil) ?_
  rintro k base -
  focus (refine gc_seq ?_; refine gc_region ?_; refine gC rfl rfl rfl rfl rfl ?_; refine gO ?_; refine gc_seq ?_)
  refine gc_if_dec rfl (fun h => absurd h (by omega)) (fun _ => ?_)
  focus (refine gc_exit ?_; refine gx_then_exit ?_; refine gx_then_exit ?_; refine gx_block_exit ?_; refine gx_next ?_; refine gc_seq ?_; refine gc_region ?_; refine gM rfl rfl (by conv => (lhs; whnf)) ?_; apply gw_d; exact w_call rfl rfl (fun w s => trim_ok w _ _ [0] (Sl.box32 s .here (by decide) (by decide))) rfl; refine gM rfl rfl (by conv => (lhs; whnf)) ?_; refine gO ?_; refine gc_ret ?_)
  exact gx_ret1 rfl rfl fun w s => ⟨b, rfl, trivial⟩

theorem signed0_ok (w : World) (g : Bool) (A : Option Addr) (c : Nat) (l : List Int) (hl : Sl rU32 w w.heap.size (.slice A l.length c) l) (h1 : tl l l.length = 0) :
    OkM Tryz.prog 180 [.bool g, .slice A l.length c].toArray w (fun b => .agg #[.bool false, .slice (some ⟨b, 0, none⟩) 0 0]) (fun _ => []) := by
  unfold OkM
  cases g
  all_goals
    refine ok_enter Tryz.func180 rfl Tryz.ntmps180 rfl ?_
    focus (refine gc_seq ?_; refine gc_region ?_; refine w_alloc rfl (fun _ => ?_); refine gN ?_; refine gM rfl rfl (by conv => (lhs; whnf)) ?_)
    refine gw_callm rfl (fun w s => natNorm0_ok w A c l (hl.later s) h1) rfl (fun b => ?_)
    focus (first | (refine gM rfl rfl (by conv => (lhs; whnf)) ?_; refine gN ?_; refine gM rfl rfl (by conv => (lhs; whnf)) ?_; refine gM rfl rfl (by conv => (lhs; whnf)) ?_; refine gM rfl rfl (by conv => (lhs; whnf)) ?_; refine gL rfl rfl rfl ?_; refine gC rfl rfl rfl rfl rfl ?_; apply gw_d; exact det_pick_t (v := .bool _) rfl rfl rfl rfl; refine gM rfl rfl (by conv => (lhs; whnf)) ?_; apply gw_d; exact w_build (cells := #[.bool false, .slice (some ⟨b, 0, none⟩) 0 0]) rfl rfl (by kernel_rfl); refine w_store_all rfl rfl rfl rfl rfl .here rfl ?_; refine gO ?_; refine gc_ret ?_) | (refine gM rfl rfl (by conv => (lhs; whnf)) ?_; refine gN ?_; refine gM rfl rfl (by conv => (lhs; whnf)) ?_; refine gM rfl rfl (by conv => (lhs; whnf)) ?_; refine gU rfl ?_; refine gU rfl ?_; refine gU rfl ?_; apply gw_d; exact det_pick_f (v := .bool _) rfl rfl rfl rfl; refine gM rfl rfl (by conv => (lhs; whnf)) ?_; apply gw_d; exact w_build (cells := #[.bool false, .slice (some ⟨b, 0, none⟩) 0 0]) rfl rfl (by kernel_rfl); refine w_store_all rfl rfl rfl rfl rfl .here rfl ?_; refine gO ?_; refine gc_ret ?_))
    exact gx_retc rfl rfl .here rfl fun w s => ⟨b, rfl, trivial⟩
theorem positive_ok (w : World) (A : Option Addr) (n c : Nat) :
    Ok Tryz.prog 154 [.slice A n c].toArray w fun r _ => r = .agg #[.bool false, .slice A n c] := by
  refine ok_enter Tryz.func154 rfl Tryz.ntmps154 rfl ?_
  focus (refine gc_seq ?_; refine gc_region ?_; refine w_alloc rfl (fun _ => ?_); refine gN ?_; refine gM rfl rfl (by conv => (lhs; whnf)) ?_; apply gw_d; exact w_build (cells := #[.bool false, .slice A n c]) rfl rfl (by kernel_rfl); refine w_store_all rfl rfl rfl rfl rfl .here rfl ?_; refine gO ?_; refine gc_ret ?_)
  exact gx_retc rfl rfl .here rfl fun w s => rfl
theorem intNorm0_ok (w : World) (g : Bool) (A : Option Addr) (c : Nat) (l : List Int) (hl : Sl rU32 w w.heap.size (.slice A l.length c) l) (h1 : tl l l.length = 0) :
    OkM Tryz.prog 178 [.agg #[.bool g, .slice A l.length c]].toArray w (fun b => .agg #[.bool false, .slice (some ⟨b, 0, none⟩) 0 0]) (fun _ => []) := by
  unfold OkM
  refine ok_enter Tryz.func178 rfl Tryz.ntmps178 rfl ?_
  focus (refine gc_seq ?_; refine gc_region ?_; refine gw_boxd (v := .agg _) rfl rfl (fun _ => ?_); refine w_alloc rfl (fun _ => ?_); refine gN ?_; refine gF rfl rfl rfl ?_; apply gw_d; exact w_load_box rfl rfl rfl (.there .here) rfl; refine gF rfl rfl rfl ?_; apply gw_d; exact w_load_box rfl rfl rfl (.there .here) rfl)
  refine gw_callm rfl (fun w s => signed0_ok w g A c l (hl.later s) h1) rfl (fun b => ?_)
  focus (refine w_store_all rfl rfl rfl rfl rfl .here rfl ?_; refine gO ?_; refine gc_ret ?_)
  exact gx_retc rfl rfl .here rfl fun w s => ⟨b, rfl, trivial⟩
theorem zero0_ok (w : World) : Ok Tryz.prog 179 [.slice none 0 0].toArray w fun r _ => r = .bool true := by
  refine ok_enter Tryz.func179 rfl Tryz.ntmps179 rfl ?_
  focus (refine gc_seq ?_; refine gc_region ?_; refine gM rfl rfl (by conv => (lhs; whnf)) ?_; refine gN ?_; refine gM rfl rfl (by conv => (lhs; whnf)) ?_; apply gw_d; exact w_call rfl rfl (fun w s => natCmp0_ok w none none 0 0 [] [] (Sl.none0 _ w _ _ (by decide)) (Sl.none0 _ w _ _ (by decide)) rfl rfl) rfl; refine gC rfl rfl rfl rfl rfl ?_; refine gM rfl rfl (by conv => (lhs; whnf)) ?_; refine gO ?_; refine gc_ret ?_)
  refine gx_ret1 (v := .bool _) rfl rfl (fun _ _ => ?_)
  rfl
theorem value0_ok (w : World) : OkM Tryz.prog 151 [.agg #[.bool false, .slice none 0 0, .slice none 0 0]].toArray w (fun b => .agg #[.bool false, .slice none 0 0, .slice (some ⟨b, 0, none⟩) 1 2]) (fun b => [Box b 240 #[.int .u32 1, .int .u32 0]]) := by
  unfold OkM
  refine ok_enter Tryz.func151 rfl Tryz.ntmps151 rfl ?_
  focus (refine gc_seq ?_; refine gc_region ?_; refine gw_boxd (v := .agg _) rfl rfl (fun _ => ?_); refine w_alloc rfl (fun _ => ?_); refine gO ?_; refine gc_seq ?_; refine gc_seq ?_; refine gc_region ?_; refine gF rfl rfl rfl ?_; apply gw_d; exact w_load_box rfl rfl rfl (.there .here) rfl; apply gw_d; exact w_call rfl rfl (fun w s => zero0_ok w) rfl; refine gO ?_)
  refine gc_if_true rfl ?_
  focus (refine gc_seq ?_; refine gc_region ?_)
  refine gw_callm rfl (fun w s => of1_ok w) rfl (fun b => ?_)
  focus (apply gw_d; exact w_build (cells := #[.bool false, .slice none 0 0, .slice (some ⟨b, 0, none⟩) 1 2]) rfl rfl (by kernel_rfl); refine w_store_all rfl rfl rfl rfl rfl (.there .here) rfl ?_; refine gO ?_; refine gc_ret ?_; refine gx_then_ret ?_)
  refine gx_retc rfl rfl .here rfl fun w s => ⟨b, rfl, (s.sub (.cons (.there .here) .nil)).sep⟩
theorem intCmp0_ok (w : World) (A B : Nat) : Ok Tryz.prog 152 [.agg #[.bool false, .slice (some ⟨A, 0, none⟩) 0 0], .agg #[.bool false, .slice (some ⟨B, 0, none⟩) 0 0]].toArray w fun r _ => r = .int .i64 0 := by
  refine ok_enter Tryz.func152 rfl Tryz.ntmps152 rfl ?_
  focus (refine gc_seq ?_; refine gc_region ?_; refine gw_boxd (v := .agg _) rfl rfl (fun _ => ?_); refine gw_boxd (v := .agg _) rfl rfl (fun _ => ?_); refine gM rfl rfl (by conv => (lhs; whnf)) ?_; refine gO ?_; refine gc_seq ?_)
  refine gc_block_draw Nat 4 (fun i => ([[], [0], [], [0, 1, 2]] : List (List Nat)).getD i []) rfl (by kernel_rfl) ?_
  focus (apply gb_d; (intro γ; exact w_load_boxN rfl rfl rfl (.there .here) rfl); (intros; rfl); (intros; rfl))
  refine gb_call (l := fun _ => [.agg #[.bool false, .slice (some ⟨A, 0, none⟩) 0 0]]) (fun _ b => .agg #[.bool false, .slice (some ⟨b, 0, none⟩) 0 0]) (fun _ _ => []) (fun _ => rfl) (fun _ w s => intNorm0_ok w _ _ _ [] (Sl.none0 _ w _ _ (by decide)) rfl) (fun _ => rfl) (fun _ _ => ⟨rfl, rfl⟩) (fun _ => ⟨rfl, rfl⟩) ?_
  focus (apply gb_d; (intro γ; exact w_load_boxN rfl rfl rfl .here rfl); (intros; rfl); (intros; rfl))
  refine gb_call (l := fun _ => [.agg #[.bool false, .slice (some ⟨B, 0, none⟩) 0 0]]) (fun _ b => .agg #[.bool false, .slice (some ⟨b, 0, none⟩) 0 0]) (fun _ _ => []) (fun _ => rfl) (fun _ w s => intNorm0_ok w _ _ _ [] (Sl.none0 _ w _ _ (by decide)) rfl) (fun _ => rfl) (fun _ _ => ⟨rfl, rfl⟩) (fun _ => ⟨rfl, rfl⟩) ?_
  focus (skip)
  refine GB.nil (fun β => ?_)
  focus (refine w_store_all rfl rfl rfl rfl rfl (.there .here) rfl ?_; refine w_store_all rfl rfl rfl rfl rfl (.there .here) rfl ?_; refine gO ?_; refine gc_seq ?_; refine gc_block ?_; refine gc_seq ?_; refine gc_region ?_; refine gF rfl rfl rfl ?_; apply gw_d; exact w_load_box rfl rfl rfl (.there .here) rfl; refine gM rfl rfl (by conv => (lhs; whnf)) ?_; refine gU rfl ?_; refine gU rfl ?_; refine gU rfl ?_; apply gw_d; exact det_pick_f (v := .bool _) rfl rfl rfl rfl; refine gM rfl rfl (by conv => (lhs; whnf)) ?_; refine gO ?_; refine gc_if_false rfl ?_; refine gc_seq ?_; refine gc_region ?_; refine gF rfl rfl rfl ?_; apply gw_d; exact w_load_box rfl rfl rfl (.there .here) rfl; apply gw_d; exact det_not_ rfl rfl rfl; refine gM rfl rfl (by conv => (lhs; whnf)) ?_; refine gF rfl rfl rfl ?_; apply gw_d; exact w_load_box rfl rfl rfl .here rfl; apply gw_d; exact det_pick_t (v := .bool _) rfl rfl rfl rfl; refine gM rfl rfl (by conv => (lhs; whnf)) ?_; refine gO ?_; refine gc_if_false rfl ?_; refine gc_seq ?_; refine gc_region ?_; refine gF rfl rfl rfl ?_; apply gw_d; exact w_load_box rfl rfl rfl (.there .here) rfl; refine gM rfl rfl (by conv => (lhs; whnf)) ?_; refine gO ?_; refine gc_if_false rfl ?_; refine gc_skip ?_; refine gx_block ?_; refine gx_next ?_; refine gc_seq ?_; refine gc_region ?_; refine gF rfl rfl rfl ?_; apply gw_d; exact w_load_box rfl rfl rfl (.there .here) rfl; refine gF rfl rfl rfl ?_; apply gw_d; exact w_load_box rfl rfl rfl .here rfl; apply gw_d; exact w_call rfl rfl (fun w s => natCmp0_ok w (some ⟨β 1, 0, none⟩) (some ⟨β 3, 0, none⟩) 0 0 [] [] (Sl.none0 _ w _ _ (by decide)) (Sl.none0 _ w _ _ (by decide)) rfl rfl) rfl; refine gM rfl rfl (by conv => (lhs; whnf)) ?_; refine gO ?_; refine gc_ret ?_)
  refine gx_ret1 (v := .int _ _) rfl rfl (fun _ _ => ?_)
  rfl

theorem intMul0_ok (w : World) (A B : Option Addr) (c d : Nat) (l m : List Int) (hl : Sl rU32 w w.heap.size (.slice A l.length c) l) (hm : Sl rU32 w w.heap.size (.slice B m.length d) m) (h1 : tl l l.length = 0) (h2 : tl m m.length = 1) :
    OkM Tryz.prog 153 [.agg #[.bool false, .slice A l.length c], .agg #[.bool false, .slice B m.length d]].toArray w (fun b => .agg #[.bool false, .slice (some ⟨b, 0, none⟩) 0 0]) (fun _ => []) := by
  unfold OkM
  refine ok_enter Tryz.func153 rfl Tryz.ntmps153 rfl ?_
  focus (refine gc_seq ?_; refine gc_region ?_; refine gw_boxd (v := .agg _) rfl rfl (fun _ => ?_); refine gw_boxd (v := .agg _) rfl rfl (fun _ => ?_); refine w_alloc rfl (fun _ => ?_); refine gO ?_; refine gc_seq ?_)
  refine gc_block_draw Nat 11 (fun i => ([[], [0], [], [2], [0, 1, 2, 3], [], [5], [], [7], [5, 6, 7, 8], [0, 1, 2, 3, 4, 5, 6, 7, 8, 9]] : List (List Nat)).getD i []) rfl (by kernel_rfl) ?_
  focus (apply gb_d; (intro γ; exact w_field rfl rfl rfl); (intros; rfl); (intros; rfl); apply gb_d; (intro γ; exact w_load_box rfl rfl rfl (.there (.there .here)) rfl); (intros; rfl); (intros; rfl); apply gb_d; (intro γ; exact w_field rfl rfl rfl); (intros; rfl); (intros; rfl); apply gb_d; (intro γ; exact w_load_box rfl rfl rfl (.there .here) rfl); (intros; rfl); (intros; rfl); apply gb_d; (intro γ; exact det_bne rfl rfl rfl rfl rfl); (intros; rfl); (intros; rfl); apply gb_d; (intro γ; exact w_field rfl rfl rfl); (intros; rfl); (intros; rfl); apply gb_d; (intro γ; exact w_load_box rfl rfl rfl (.there (.there .here)) rfl); (intros; rfl); (intros; rfl); apply gb_d; (intro γ; exact w_field rfl rfl rfl); (intros; rfl); (intros; rfl); apply gb_d; (intro γ; exact w_load_box rfl rfl rfl (.there .here) rfl); (intros; rfl); (intros; rfl))
  refine gb_call (l := fun _ => [.slice A l.length c, .slice B m.length d]) (fun _ b => .slice (some ⟨b, 0, none⟩) 0 1) (fun _ _ => []) (fun _ => rfl) (fun _ w s => natMul0_ok w A B c d l m (hl.later s) (hm.later s) h1 h2) (fun _ => rfl) (fun _ _ => ⟨rfl, rfl⟩) (fun _ => ⟨rfl, rfl⟩) ?_
  refine gb_call (l := fun γ => [.bool false, .slice (some ⟨γ 9, 0, none⟩) 0 1]) (fun _ b => .agg #[.bool false, .slice (some ⟨b, 0, none⟩) 0 0]) (fun _ _ => []) (fun _ => rfl) (fun γ w s => signed0_ok w false _ 1 [] (Sl.none0 _ w _ _ (by decide)) rfl) (fun _ => rfl) (fun _ _ => ⟨rfl, rfl⟩) (fun _ => ⟨rfl, rfl⟩) ?_
  refine GB.nil (fun β => ?_)
  focus (refine w_store_all rfl rfl rfl rfl rfl .here rfl ?_; refine gO ?_; refine gc_ret ?_)
  exact gx_retc rfl rfl .here rfl fun w s => ⟨β 10, rfl, trivial⟩

theorem ratioCmp0_ok (w : World) : Ok Tryz.prog 124 [.agg #[.bool false, .slice none 0 0, .slice none 0 0], .agg #[.bool false, .slice none 0 0, .slice none 0 0]].toArray w fun r _ => r = .int .i64 0 := by
  refine ok_enter Tryz.func124 rfl Tryz.ntmps124 rfl ?_
  focus (refine gc_seq ?_; refine gc_region ?_; refine gw_boxd (v := .agg _) rfl rfl (fun _ => ?_); refine gw_boxd (v := .agg _) rfl rfl (fun _ => ?_); refine gM rfl rfl (by conv => (lhs; whnf)) ?_; refine gO ?_; refine gc_seq ?_)
  refine gc_block_draw Nat 4 (fun i => ([[], [0], [], [0, 1, 2]] : List (List Nat)).getD i []) rfl (by kernel_rfl) ?_
  focus (apply gb_d; (intro γ; exact w_load_boxN rfl rfl rfl (.there .here) rfl); (intros; rfl); (intros; rfl))
  refine gb_call (l := fun _ => [.agg #[.bool false, .slice none 0 0, .slice none 0 0]]) (fun _ b => .agg #[.bool false, .slice none 0 0, .slice (some ⟨b, 0, none⟩) 1 2]) (fun _ b => [Box b 240 #[.int .u32 1, .int .u32 0]]) (fun _ => rfl) (fun _ w s => value0_ok w) (fun _ => rfl) (fun _ _ => ⟨rfl, rfl⟩) (fun _ => ⟨rfl, rfl⟩) ?_
  focus (apply gb_d; (intro γ; exact w_load_boxN rfl rfl rfl .here rfl); (intros; rfl); (intros; rfl))
  refine gb_call (l := fun _ => [.agg #[.bool false, .slice none 0 0, .slice none 0 0]]) (fun _ b => .agg #[.bool false, .slice none 0 0, .slice (some ⟨b, 0, none⟩) 1 2]) (fun _ b => [Box b 240 #[.int .u32 1, .int .u32 0]]) (fun _ => rfl) (fun _ w s => value0_ok w) (fun _ => rfl) (fun _ _ => ⟨rfl, rfl⟩) (fun _ => ⟨rfl, rfl⟩) ?_
  refine GB.nil (fun β => ?_)
  focus (refine w_store_all rfl rfl rfl rfl rfl (.there (.there (.there .here))) rfl ?_; refine w_store_all rfl rfl rfl rfl rfl (.there (.there (.there .here))) rfl ?_; refine gO ?_; refine gc_seq ?_)
  refine gc_block_draw Nat 13 (fun i => ([[], [0], [], [2], [2, 3], [0, 1, 2, 3, 4], [], [6], [], [8], [0, 1, 2, 3, 4, 5, 8, 9], [0, 1, 2, 3, 4, 5, 6, 7, 8, 9, 10], [0, 1, 2, 3, 4, 5, 6, 7, 8, 9, 10, 11]] : List (List Nat)).getD i []) rfl (by kernel_rfl) ?_
  focus (apply gb_d; (intro γ; exact w_field rfl rfl rfl); (intros; rfl); (intros; rfl); apply gb_d; (intro γ; exact w_load_part rfl rfl rfl (.there .here) rfl rfl); (intros; rfl); (intros; rfl); apply gb_d; (intro γ; exact w_field rfl rfl rfl); (intros; rfl); (intros; rfl); apply gb_d; (intro γ; exact w_load_box rfl rfl rfl .here rfl); (intros; rfl); (intros; rfl); apply gb_d; (intro γ; exact w_call rfl rfl (fun w s => positive_ok w _ _ _) rfl); (intros; rfl); (intros; rfl))
  refine gb_call (l := fun _ => [.agg #[.bool false, .slice none 0 0], .agg #[.bool false, .slice (some ⟨β 3, 0, none⟩) 1 2]]) (fun _ b => .agg #[.bool false, .slice (some ⟨b, 0, none⟩) 0 0]) (fun _ _ => []) (fun _ => rfl) (fun _ w s => intMul0_ok w none (some ⟨β 3, 0, none⟩) 0 2 [] [1] (Sl.none0 _ w _ _ (by decide)) ((Sl.box32 (l := [1, 0]) s (.there (.there (.there .here))) (by decide) (by decide)).take (m := 1) (by decide)) rfl rfl) (fun _ => rfl) (fun _ _ => ⟨rfl, rfl⟩) (fun _ => ⟨rfl, rfl⟩) ?_
  focus (apply gb_d; (intro γ; exact w_field rfl rfl rfl); (intros; rfl); (intros; rfl); apply gb_d; (intro γ; exact w_load_part rfl rfl rfl .here rfl rfl); (intros; rfl); (intros; rfl); apply gb_d; (intro γ; exact w_field rfl rfl rfl); (intros; rfl); (intros; rfl); apply gb_d; (intro γ; exact w_load_box rfl rfl rfl (.there .here) rfl); (intros; rfl); (intros; rfl); apply gb_d; (intro γ; exact w_call rfl rfl (fun w s => positive_ok w _ _ _) rfl); (intros; rfl); (intros; rfl))
  refine gb_call (l := fun _ => [.agg #[.bool false, .slice none 0 0], .agg #[.bool false, .slice (some ⟨β 1, 0, none⟩) 1 2]]) (fun _ b => .agg #[.bool false, .slice (some ⟨b, 0, none⟩) 0 0]) (fun _ _ => []) (fun _ => rfl) (fun _ w s => intMul0_ok w none (some ⟨β 1, 0, none⟩) 0 2 [] [1] (Sl.none0 _ w _ _ (by decide)) ((Sl.box32 (l := [1, 0]) s (.there (.there .here)) (by decide) (by decide)).take (m := 1) (by decide)) rfl rfl) (fun _ => rfl) (fun _ _ => ⟨rfl, rfl⟩) (fun _ => ⟨rfl, rfl⟩) ?_
  focus (apply gb_d; (intro γ; exact w_call rfl rfl (fun w s => intCmp0_ok w _ _) rfl); (intros; rfl); (intros; rfl))
  refine GB.nil (fun β2 => ?_)
  focus (refine gM rfl rfl (by conv => (lhs; whnf)) ?_; refine gO ?_; refine gc_ret ?_)
  refine gx_ret1 (v := .int _ _) rfl rfl (fun _ _ => ?_)
  rfl

end Go.Proofs.YtckhibfbdnoigaaGreatDoor

/- Contracts: names, lists of indices, repetitions. -/
namespace Go.Proofs.YtckhibfbdnoigaaGreatDoor
open Go.RowKit
set_option maxRecDepth 100000

/-! ### Names -/
def letterB (c : Int) : Bool := decide (97 ≤ c) && decide (c ≤ 122)
def furtherB (c : Int) : Bool := (decide (48 ≤ c) && decide (c ≤ 57)) || decide (c = 95)
def charB (s : ByteArray) (i : Nat) : Bool := letterB (bAt s i) || (decide (i ≠ 0) && furtherB (bAt s i))
def nameB (s : ByteArray) : Bool := decide (s.size ≠ 0) && decide (s.size ≤ 24) && !(s.toList == (ByteArray.mk #[109, 105, 110]).toList) && !(s.toList == (ByteArray.mk #[109, 97, 120]).toList) && (List.range s.size).all (charB s)

theorem nameB_no {s : ByteArray} {k : Nat} (hk : k < s.size) (h : charB s k = false) : nameB s = false := by
  unfold nameB
  rw [Bool.and_eq_false_iff]
  right
  rw [List.all_eq_false]
  exact ⟨k, List.mem_range.2 hk, by rw [h]; simp⟩
theorem chars_snoc {s : ByteArray} {k : Nat} (h : (List.range k).all (charB s) = true) (hc : charB s k = true) : (List.range (k + 1)).all (charB s) = true := by
  rw [List.range_succ, List.all_append, h]
  simp [hc]
theorem char_yes {s : ByteArray} {k : Nat} (h : (97 ≤ bAt s k ∧ bAt s k ≤ 122) ∨ (k ≠ 0 ∧ ((48 ≤ bAt s k ∧ bAt s k ≤ 57) ∨ bAt s k = 95))) : charB s k = true := by
  unfold charB letterB furtherB
  simp only [Bool.or_eq_true, Bool.and_eq_true, decide_eq_true_eq]
  exact h
theorem char_no {s : ByteArray} {k : Nat} (h : ¬ ((97 ≤ bAt s k ∧ bAt s k ≤ 122) ∨ (k ≠ 0 ∧ ((48 ≤ bAt s k ∧ bAt s k ≤ 57) ∨ bAt s k = 95)))) : charB s k = false := by
  rw [← Bool.not_eq_true]
  unfold charB letterB furtherB
  simp only [Bool.or_eq_true, Bool.and_eq_true, decide_eq_true_eq]
  exact h
theorem ba_toList (a : ByteArray) : a.toList = a.data.toList :=
  Go.ByteArray.toList_eq a
theorem ba_empty {s : ByteArray} : (s.toList == (ByteArray.mk #[]).toList) = decide (s.size = 0) := by
  rw [ba_toList, ba_toList]
  show (s.data.toList == []) = decide (s.data.size = 0)
  rw [← Array.length_toList]
  cases s.data.toList <;> simp

set_option maxHeartbeats 4000000 in
theorem isName_ok (w : World) (s : ByteArray) (hs : s.size ≤ 9223372036854775807) : Ok Tryz.prog 105 [.string s].toArray w fun r _ => r = .bool (nameB s) := by
  refine ok_enter Tryz.func105 rfl Tryz.ntmps105 rfl ?_
  focus (refine gc_seq ?_; refine gc_region ?_; refine gM rfl rfl (by conv => (lhs; whnf)) ?_; refine gO ?_; refine gc_seq ?_; refine gc_seq ?_; refine gc_region ?_; refine gM rfl rfl (by conv => (lhs; whnf)) ?_; apply gw_d; exact det_seq rfl rfl rfl rfl; refine gM rfl rfl (by conv => (lhs; whnf)) ?_; refine gw_guard rfl rfl (fun _ => ?_) (fun _ => ?_); refine gU rfl ?_; refine gU rfl ?_; refine gU rfl ?_; apply gw_d; exact det_pick_t (v := .bool _) rfl rfl rfl rfl; refine gM rfl rfl (by conv => (lhs; whnf)) ?_; refine gU rfl ?_; refine gU rfl ?_; apply gw_d; exact det_pick_t (v := .bool _) rfl rfl rfl rfl; refine gM rfl rfl (by conv => (lhs; whnf)) ?_; refine gU rfl ?_; refine gU rfl ?_; apply gw_d; exact det_pick_t (v := .bool _) rfl rfl rfl rfl; refine gO ?_; refine gc_if_true rfl ?_; refine gc_seq ?_; refine gc_region ?_; refine gM rfl rfl (by conv => (lhs; whnf)) ?_; refine gO ?_; refine gc_ret ?_; refine gx_then_ret ?_; rotate_left; refine gM rfl rfl (by conv => (lhs; whnf)) ?_; apply gw_d; exact w_len_str rfl rfl rfl; refine gC rfl rfl rfl rfl rfl ?_; apply gw_d; exact det_pick_f (v := .bool _) rfl rfl rfl rfl; refine gM rfl rfl (by conv => (lhs; whnf)) ?_; refine gw_guard_dec rfl rfl (fun _ => ?_) (fun _ => ?_); refine gU rfl ?_; refine gU rfl ?_; apply gw_d; exact det_pick_t (v := .bool _) rfl rfl rfl rfl; refine gM rfl rfl (by conv => (lhs; whnf)) ?_; refine gU rfl ?_; refine gU rfl ?_; apply gw_d; exact det_pick_t (v := .bool _) rfl rfl rfl rfl; refine gO ?_; refine gc_if_true rfl ?_; refine gc_seq ?_; refine gc_region ?_; refine gM rfl rfl (by conv => (lhs; whnf)) ?_; refine gO ?_; refine gc_ret ?_; refine gx_then_ret ?_; rotate_left; refine gM rfl rfl (by conv => (lhs; whnf)) ?_; apply gw_d; exact det_seq rfl rfl rfl rfl; apply gw_d; exact det_pick_f (v := .bool _) rfl rfl rfl rfl; refine gM rfl rfl (by conv => (lhs; whnf)) ?_; refine gw_guard rfl rfl (fun _ => ?_) (fun _ => ?_); refine gU rfl ?_; refine gU rfl ?_; apply gw_d; exact det_pick_t (v := .bool _) rfl rfl rfl rfl; refine gO ?_; refine gc_if_true rfl ?_; refine gc_seq ?_; refine gc_region ?_; refine gM rfl rfl (by conv => (lhs; whnf)) ?_; refine gO ?_; refine gc_ret ?_; refine gx_then_ret ?_; rotate_left; refine gM rfl rfl (by conv => (lhs; whnf)) ?_; apply gw_d; exact det_seq rfl rfl rfl rfl; apply gw_d; exact det_pick_f (v := .bool _) rfl rfl rfl rfl; refine gO ?_; refine gc_if rfl (fun _ => ?_) (fun _ => ?_); refine gc_seq ?_; refine gc_region ?_; refine gM rfl rfl (by conv => (lhs; whnf)) ?_; refine gO ?_; refine gc_ret ?_; refine gx_then_ret ?_; rotate_left; refine gc_skip ?_; refine gx_next ?_; refine gc_seq ?_; refine gc_seq ?_; refine gc_region ?_; refine gM rfl rfl (by conv => (lhs; whnf)) ?_; apply gw_d; exact w_len_str rfl rfl rfl; refine gM rfl rfl (by conv => (lhs; whnf)) ?_; refine gO ?_; refine gc_block ?_; rotate_left)
  · refine gx_ret1 (v := .bool _) rfl rfl (fun _ _ => ?_)
    rename_i h _ _
    rw [ba_empty] at h
    unfold nameB
    simp at h
    simp [h]
  · refine gx_ret1 (v := .bool _) rfl rfl (fun _ _ => ?_)
    rename_i h _ _
    have h' : ¬ s.size ≤ 24 := by omega
    unfold nameB
    simp [h']
  · refine gx_ret1 (v := .bool _) rfl rfl (fun _ _ => ?_)
    rename_i h _ _
    unfold nameB
    rw [h]
    simp
  · refine gx_ret1 (v := .bool _) rfl rfl (fun _ _ => ?_)
    rename_i h _ _
    unfold nameB
    rw [h]
    simp
  · rename_i h1 h2 h3 h4
    refine gc_loop (σ := Nat) [24, 25, 3, 26, 27, 28, 29, 30, 31, 32, 33, 34, 35, 4, 36, 37, 38, 39, 40, 41, 42, 43, 44, 45, 46, 47, 48, 49, 50, 51, 5, 52, 53, 54, 55, 56, 57, 58, 59, 60, 61, 2, 62, 23] (fun k => [(23, .int .i64 k)]) (fun _ => []) (fun k => k ≤ s.size ∧ (List.range k).all (charB s) = true) (fun k => s.size - k) 0 ⟨Nat.zero_le _, rfl⟩ ⟨rfl, trivial⟩ .nil ?_
    rintro k base ⟨hk, hI⟩
    focus (refine gc_seq ?_; refine gc_region ?_; refine gC rfl rfl rfl rfl rfl ?_; refine gO ?_; refine gc_seq ?_; refine gc_if_dec rfl (fun _ => ?_) (fun _ => ?_); refine gc_skip ?_; refine gx_next ?_; refine gc_seq ?_; refine gc_block ?_; refine gc_seq ?_; refine gc_region ?_; refine gM rfl rfl (by conv => (lhs; whnf)) ?_; refine gM rfl rfl (by conv => (lhs; whnf)) ?_; refine gN ?_; refine gM rfl rfl (by conv => (lhs; whnf)) ?_; refine gM rfl rfl (by conv => (lhs; whnf)) ?_; apply gw_d; exact w_sidx rfl rfl rfl rfl (by with_reducible exact rfl) (by omega); refine gC rfl rfl rfl rfl rfl ?_; refine gM rfl rfl (by conv => (lhs; whnf)) ?_; refine gw_guard_dec rfl rfl (fun _ => ?_) (fun _ => ?_); refine gM rfl rfl (by conv => (lhs; whnf)) ?_; refine gM rfl rfl (by conv => (lhs; whnf)) ?_; apply gw_d; exact w_sidx rfl rfl rfl rfl (by with_reducible exact rfl) (by omega); refine gC rfl rfl rfl rfl rfl ?_; apply gw_d; exact det_pick_t (v := .bool _) rfl rfl rfl rfl; refine gM rfl rfl (by conv => (lhs; whnf)) ?_; refine gN ?_; refine gM rfl rfl (by conv => (lhs; whnf)) ?_; refine gM rfl rfl (by conv => (lhs; whnf)) ?_; apply gw_d; exact w_sidx rfl rfl rfl rfl (by with_reducible exact rfl) (by omega); refine gC rfl rfl rfl rfl rfl ?_; refine gM rfl rfl (by conv => (lhs; whnf)) ?_; refine gw_guard_dec rfl rfl (fun _ => ?_) (fun _ => ?_); refine gM rfl rfl (by conv => (lhs; whnf)) ?_; refine gM rfl rfl (by conv => (lhs; whnf)) ?_; apply gw_d; exact w_sidx rfl rfl rfl rfl (by with_reducible exact rfl) (by omega); refine gC rfl rfl rfl rfl rfl ?_; apply gw_d; exact det_pick_t (v := .bool _) rfl rfl rfl rfl; refine gM rfl rfl (by conv => (lhs; whnf)) ?_; refine gw_guard_dec rfl rfl (fun _ => ?_) (fun _ => ?_); refine gU rfl ?_; refine gU rfl ?_; refine gU rfl ?_; refine gU rfl ?_; apply gw_d; exact det_pick_t (v := .bool _) rfl rfl rfl rfl; refine gM rfl rfl (by conv => (lhs; whnf)) ?_; refine gN ?_; refine gM rfl rfl (by conv => (lhs; whnf)) ?_; apply gw_d; exact det_not_dec rfl rfl rfl; refine gM rfl rfl (by conv => (lhs; whnf)) ?_; refine gw_guard_dec rfl rfl (fun _ => ?_) (fun _ => ?_); refine gM rfl rfl (by conv => (lhs; whnf)) ?_; refine gC rfl rfl rfl rfl rfl ?_; refine gM rfl rfl (by conv => (lhs; whnf)) ?_; refine gw_guard_dec rfl rfl (fun _ => ?_) (fun _ => ?_); refine gU rfl ?_; refine gU rfl ?_; apply gw_d; exact det_pick_t (v := .bool _) rfl rfl rfl rfl; apply gw_d; exact det_pick_t (v := .bool _) rfl rfl rfl rfl; refine gO ?_; refine gc_if_true rfl ?_; refine gc_seq ?_; refine gc_region ?_; refine gM rfl rfl (by conv => (lhs; whnf)) ?_; refine gO ?_; refine gc_ret ?_; refine gx_block_ret ?_; refine gx_then_ret ?_; refine gx_then_ret ?_; refine gx_block_ret ?_; refine gx_then_ret ?_; rotate_left; refine gM rfl rfl (by conv => (lhs; whnf)) ?_; apply gw_d; exact det_not_ rfl rfl rfl; apply gw_d; exact det_pick_f (v := .bool _) rfl rfl rfl rfl; apply gw_d; exact det_pick_t (v := .bool _) rfl rfl rfl rfl; refine gO ?_; refine gc_if_false rfl ?_; refine gc_skip ?_; refine gx_block ?_; refine gx_next ?_; refine gc_region ?_; apply gw_d; exact det_ar rfl rfl rfl rfl rfl (by omega); refine gM rfl rfl (by conv => (lhs; whnf)) ?_; refine gw_nil ?_; rotate_left; refine gU rfl ?_; refine gU rfl ?_; refine gU rfl ?_; refine gU rfl ?_; refine gU rfl ?_; refine gU rfl ?_; apply gw_d; exact det_pick_f (v := .bool _) rfl rfl rfl rfl; refine gO ?_; refine gc_if_false rfl ?_; refine gc_skip ?_; refine gx_block ?_; refine gx_next ?_; refine gc_region ?_; apply gw_d; exact det_ar rfl rfl rfl rfl rfl (by omega); refine gM rfl rfl (by conv => (lhs; whnf)) ?_; refine gw_nil ?_; rotate_left; refine gM rfl rfl (by conv => (lhs; whnf)) ?_; refine gM rfl rfl (by conv => (lhs; whnf)) ?_; apply gw_d; exact w_sidx rfl rfl rfl rfl (by with_reducible exact rfl) (by omega); refine gC rfl rfl rfl rfl rfl ?_; apply gw_d; exact det_pick_f (v := .bool _) rfl rfl rfl rfl; refine gM rfl rfl (by conv => (lhs; whnf)) ?_; refine gN ?_; refine gM rfl rfl (by conv => (lhs; whnf)) ?_; apply gw_d; exact det_not_dec rfl rfl rfl; refine gM rfl rfl (by conv => (lhs; whnf)) ?_; refine gw_guard_dec rfl rfl (fun _ => ?_) (fun _ => ?_); refine gM rfl rfl (by conv => (lhs; whnf)) ?_; refine gC rfl rfl rfl rfl rfl ?_; refine gM rfl rfl (by conv => (lhs; whnf)) ?_; refine gw_guard_dec rfl rfl (fun _ => ?_) (fun _ => ?_); refine gU rfl ?_; refine gU rfl ?_; apply gw_d; exact det_pick_t (v := .bool _) rfl rfl rfl rfl; apply gw_d; exact det_pick_t (v := .bool _) rfl rfl rfl rfl; refine gO ?_; refine gc_if_true rfl ?_; refine gc_seq ?_; refine gc_region ?_; refine gM rfl rfl (by conv => (lhs; whnf)) ?_; refine gO ?_; refine gc_ret ?_; refine gx_block_ret ?_; refine gx_then_ret ?_; refine gx_then_ret ?_; refine gx_block_ret ?_; refine gx_then_ret ?_; rotate_left; refine gM rfl rfl (by conv => (lhs; whnf)) ?_; apply gw_d; exact det_not_dec rfl rfl rfl; apply gw_d; exact det_pick_f (v := .bool _) rfl rfl rfl rfl; apply gw_d; exact det_pick_t (v := .bool _) rfl rfl rfl rfl; refine gO ?_; refine gc_if_dec rfl (fun _ => ?_) (fun _ => ?_); refine gc_seq ?_; refine gc_region ?_; refine gM rfl rfl (by conv => (lhs; whnf)) ?_; refine gO ?_; refine gc_ret ?_; refine gx_block_ret ?_; refine gx_then_ret ?_; refine gx_then_ret ?_; refine gx_block_ret ?_; refine gx_then_ret ?_; rotate_left; refine gc_skip ?_; refine gx_block ?_; refine gx_next ?_; refine gc_region ?_; apply gw_d; exact det_ar rfl rfl rfl rfl rfl (by omega); refine gM rfl rfl (by conv => (lhs; whnf)) ?_; refine gw_nil ?_; rotate_left; refine gU rfl ?_; refine gU rfl ?_; refine gU rfl ?_; refine gU rfl ?_; refine gU rfl ?_; refine gU rfl ?_; apply gw_d; exact det_pick_f (v := .bool _) rfl rfl rfl rfl; refine gO ?_; refine gc_if_false rfl ?_; refine gc_skip ?_; refine gx_block ?_; refine gx_next ?_; refine gc_region ?_; apply gw_d; exact det_ar rfl rfl rfl rfl rfl (by omega); refine gM rfl rfl (by conv => (lhs; whnf)) ?_; refine gw_nil ?_; rotate_left; refine gU rfl ?_; refine gU rfl ?_; refine gU rfl ?_; refine gU rfl ?_; apply gw_d; exact det_pick_f (v := .bool _) rfl rfl rfl rfl; refine gM rfl rfl (by conv => (lhs; whnf)) ?_; refine gM rfl rfl (by conv => (lhs; whnf)) ?_; refine gM rfl rfl (by conv => (lhs; whnf)) ?_; apply gw_d; exact w_sidx rfl rfl rfl rfl (by with_reducible exact rfl) (by omega); refine gC rfl rfl rfl rfl rfl ?_; apply gw_d; exact det_pick_f (v := .bool _) rfl rfl rfl rfl; refine gM rfl rfl (by conv => (lhs; whnf)) ?_; refine gN ?_; refine gM rfl rfl (by conv => (lhs; whnf)) ?_; apply gw_d; exact det_not_dec rfl rfl rfl; refine gM rfl rfl (by conv => (lhs; whnf)) ?_; refine gw_guard_dec rfl rfl (fun _ => ?_) (fun _ => ?_); refine gM rfl rfl (by conv => (lhs; whnf)) ?_; refine gC rfl rfl rfl rfl rfl ?_; refine gM rfl rfl (by conv => (lhs; whnf)) ?_; refine gw_guard_dec rfl rfl (fun _ => ?_) (fun _ => ?_); refine gU rfl ?_; refine gU rfl ?_; apply gw_d; exact det_pick_t (v := .bool _) rfl rfl rfl rfl; apply gw_d; exact det_pick_t (v := .bool _) rfl rfl rfl rfl; refine gO ?_; refine gc_if_true rfl ?_; refine gc_seq ?_; refine gc_region ?_; refine gM rfl rfl (by conv => (lhs; whnf)) ?_; refine gO ?_; refine gc_ret ?_; refine gx_block_ret ?_; refine gx_then_ret ?_; refine gx_then_ret ?_; refine gx_block_ret ?_; refine gx_then_ret ?_; rotate_left; refine gM rfl rfl (by conv => (lhs; whnf)) ?_; apply gw_d; exact det_not_dec rfl rfl rfl; apply gw_d; exact det_pick_f (v := .bool _) rfl rfl rfl rfl; apply gw_d; exact det_pick_t (v := .bool _) rfl rfl rfl rfl; refine gO ?_; refine gc_if_dec rfl (fun _ => ?_) (fun _ => ?_); refine gc_seq ?_; refine gc_region ?_; refine gM rfl rfl (by conv => (lhs; whnf)) ?_; refine gO ?_; refine gc_ret ?_; refine gx_block_ret ?_; refine gx_then_ret ?_; refine gx_then_ret ?_; refine gx_block_ret ?_; refine gx_then_ret ?_; rotate_left; refine gc_skip ?_; refine gx_block ?_; refine gx_next ?_; refine gc_region ?_; apply gw_d; exact det_ar rfl rfl rfl rfl rfl (by omega); refine gM rfl rfl (by conv => (lhs; whnf)) ?_; refine gw_nil ?_; rotate_left; refine gU rfl ?_; refine gU rfl ?_; refine gU rfl ?_; refine gU rfl ?_; refine gU rfl ?_; refine gU rfl ?_; apply gw_d; exact det_pick_f (v := .bool _) rfl rfl rfl rfl; refine gO ?_; refine gc_if_false rfl ?_; refine gc_skip ?_; refine gx_block ?_; refine gx_next ?_; refine gc_region ?_; apply gw_d; exact det_ar rfl rfl rfl rfl rfl (by omega); refine gM rfl rfl (by conv => (lhs; whnf)) ?_; refine gw_nil ?_; rotate_left; refine gU rfl ?_; refine gU rfl ?_; refine gU rfl ?_; refine gU rfl ?_; apply gw_d; exact det_pick_f (v := .bool _) rfl rfl rfl rfl; refine gM rfl rfl (by conv => (lhs; whnf)) ?_; refine gN ?_; refine gM rfl rfl (by conv => (lhs; whnf)) ?_; refine gM rfl rfl (by conv => (lhs; whnf)) ?_; apply gw_d; exact w_sidx rfl rfl rfl rfl (by with_reducible exact rfl) (by omega); refine gC rfl rfl rfl rfl rfl ?_; refine gM rfl rfl (by conv => (lhs; whnf)) ?_; refine gw_guard_dec rfl rfl (fun _ => ?_) (fun _ => ?_); refine gM rfl rfl (by conv => (lhs; whnf)) ?_; refine gM rfl rfl (by conv => (lhs; whnf)) ?_; apply gw_d; exact w_sidx rfl rfl rfl rfl (by with_reducible exact rfl) (by omega); refine gC rfl rfl rfl rfl rfl ?_; apply gw_d; exact det_pick_t (v := .bool _) rfl rfl rfl rfl; refine gM rfl rfl (by conv => (lhs; whnf)) ?_; refine gw_guard_dec rfl rfl (fun _ => ?_) (fun _ => ?_); refine gU rfl ?_; refine gU rfl ?_; refine gU rfl ?_; refine gU rfl ?_; apply gw_d; exact det_pick_t (v := .bool _) rfl rfl rfl rfl; refine gM rfl rfl (by conv => (lhs; whnf)) ?_; refine gN ?_; refine gM rfl rfl (by conv => (lhs; whnf)) ?_; apply gw_d; exact det_not_ rfl rfl rfl; refine gM rfl rfl (by conv => (lhs; whnf)) ?_; refine gM rfl rfl (by conv => (lhs; whnf)) ?_; refine gC rfl rfl rfl rfl rfl ?_; refine gM rfl rfl (by conv => (lhs; whnf)) ?_; refine gw_guard_dec rfl rfl (fun _ => ?_) (fun _ => ?_); refine gU rfl ?_; refine gU rfl ?_; apply gw_d; exact det_pick_t (v := .bool _) rfl rfl rfl rfl; apply gw_d; exact det_pick_t (v := .bool _) rfl rfl rfl rfl; refine gO ?_; refine gc_if_true rfl ?_; refine gc_seq ?_; refine gc_region ?_; refine gM rfl rfl (by conv => (lhs; whnf)) ?_; refine gO ?_; refine gc_ret ?_; refine gx_block_ret ?_; refine gx_then_ret ?_; refine gx_then_ret ?_; refine gx_block_ret ?_; refine gx_then_ret ?_; rotate_left; refine gM rfl rfl (by conv => (lhs; whnf)) ?_; apply gw_d; exact det_not_ rfl rfl rfl; apply gw_d; exact det_pick_f (v := .bool _) rfl rfl rfl rfl; apply gw_d; exact det_pick_t (v := .bool _) rfl rfl rfl rfl; refine gO ?_; refine gc_if_false rfl ?_; refine gc_skip ?_; refine gx_block ?_; refine gx_next ?_; refine gc_region ?_; apply gw_d; exact det_ar rfl rfl rfl rfl rfl (by omega); refine gM rfl rfl (by conv => (lhs; whnf)) ?_; refine gw_nil ?_; rotate_left; refine gM rfl rfl (by conv => (lhs; whnf)) ?_; refine gM rfl rfl (by conv => (lhs; whnf)) ?_; apply gw_d; exact w_sidx rfl rfl rfl rfl (by with_reducible exact rfl) (by omega); refine gC rfl rfl rfl rfl rfl ?_; apply gw_d; exact det_pick_f (v := .bool _) rfl rfl rfl rfl; refine gM rfl rfl (by conv => (lhs; whnf)) ?_; refine gN ?_; refine gM rfl rfl (by conv => (lhs; whnf)) ?_; apply gw_d; exact det_not_ rfl rfl rfl; refine gM rfl rfl (by conv => (lhs; whnf)) ?_; refine gM rfl rfl (by conv => (lhs; whnf)) ?_; refine gC rfl rfl rfl rfl rfl ?_; refine gM rfl rfl (by conv => (lhs; whnf)) ?_; refine gw_guard_dec rfl rfl (fun _ => ?_) (fun _ => ?_); refine gU rfl ?_; refine gU rfl ?_; apply gw_d; exact det_pick_t (v := .bool _) rfl rfl rfl rfl; apply gw_d; exact det_pick_t (v := .bool _) rfl rfl rfl rfl; refine gO ?_; refine gc_if_true rfl ?_; refine gc_seq ?_; refine gc_region ?_; refine gM rfl rfl (by conv => (lhs; whnf)) ?_; refine gO ?_; refine gc_ret ?_; refine gx_block_ret ?_; refine gx_then_ret ?_; refine gx_then_ret ?_; refine gx_block_ret ?_; refine gx_then_ret ?_; rotate_left; refine gM rfl rfl (by conv => (lhs; whnf)) ?_; apply gw_d; exact det_not_dec rfl rfl rfl; apply gw_d; exact det_pick_f (v := .bool _) rfl rfl rfl rfl; apply gw_d; exact det_pick_t (v := .bool _) rfl rfl rfl rfl; refine gO ?_; refine gc_if_dec rfl (fun _ => ?_) (fun _ => ?_); refine gc_seq ?_; refine gc_region ?_; refine gM rfl rfl (by conv => (lhs; whnf)) ?_; refine gO ?_; refine gc_ret ?_; refine gx_block_ret ?_; refine gx_then_ret ?_; refine gx_then_ret ?_; refine gx_block_ret ?_; refine gx_then_ret ?_; rotate_left; refine gc_skip ?_; refine gx_block ?_; refine gx_next ?_; refine gc_region ?_; apply gw_d; exact det_ar rfl rfl rfl rfl rfl (by omega); refine gM rfl rfl (by conv => (lhs; whnf)) ?_; refine gw_nil ?_; rotate_left; refine gU rfl ?_; refine gU rfl ?_; refine gU rfl ?_; refine gU rfl ?_; apply gw_d; exact det_pick_f (v := .bool _) rfl rfl rfl rfl; refine gM rfl rfl (by conv => (lhs; whnf)) ?_; refine gM rfl rfl (by conv => (lhs; whnf)) ?_; refine gM rfl rfl (by conv => (lhs; whnf)) ?_; apply gw_d; exact w_sidx rfl rfl rfl rfl (by with_reducible exact rfl) (by omega); refine gC rfl rfl rfl rfl rfl ?_; apply gw_d; exact det_pick_f (v := .bool _) rfl rfl rfl rfl; refine gM rfl rfl (by conv => (lhs; whnf)) ?_; refine gN ?_; refine gM rfl rfl (by conv => (lhs; whnf)) ?_; apply gw_d; exact det_not_ rfl rfl rfl; refine gM rfl rfl (by conv => (lhs; whnf)) ?_; refine gM rfl rfl (by conv => (lhs; whnf)) ?_; refine gC rfl rfl rfl rfl rfl ?_; refine gM rfl rfl (by conv => (lhs; whnf)) ?_; refine gw_guard_dec rfl rfl (fun _ => ?_) (fun _ => ?_); refine gU rfl ?_; refine gU rfl ?_; apply gw_d; exact det_pick_t (v := .bool _) rfl rfl rfl rfl; apply gw_d; exact det_pick_t (v := .bool _) rfl rfl rfl rfl; refine gO ?_; refine gc_if_true rfl ?_; refine gc_seq ?_; refine gc_region ?_; refine gM rfl rfl (by conv => (lhs; whnf)) ?_; refine gO ?_; refine gc_ret ?_; refine gx_block_ret ?_; refine gx_then_ret ?_; refine gx_then_ret ?_; refine gx_block_ret ?_; refine gx_then_ret ?_; rotate_left; refine gM rfl rfl (by conv => (lhs; whnf)) ?_; apply gw_d; exact det_not_dec rfl rfl rfl; apply gw_d; exact det_pick_f (v := .bool _) rfl rfl rfl rfl; apply gw_d; exact det_pick_t (v := .bool _) rfl rfl rfl rfl; refine gO ?_; refine gc_if_dec rfl (fun _ => ?_) (fun _ => ?_); refine gc_seq ?_; refine gc_region ?_; refine gM rfl rfl (by conv => (lhs; whnf)) ?_; refine gO ?_; refine gc_ret ?_; refine gx_block_ret ?_; refine gx_then_ret ?_; refine gx_then_ret ?_; refine gx_block_ret ?_; refine gx_then_ret ?_; rotate_left; refine gc_skip ?_; refine gx_block ?_; refine gx_next ?_; refine gc_region ?_; apply gw_d; exact det_ar rfl rfl rfl rfl rfl (by omega); refine gM rfl rfl (by conv => (lhs; whnf)) ?_; refine gw_nil ?_; rotate_left; refine gc_exit ?_; refine gx_then_exit ?_; refine gx_then_exit ?_; refine gx_block_exit ?_; refine gx_next ?_; refine gc_seq ?_; refine gc_region ?_; refine gM rfl rfl (by conv => (lhs; whnf)) ?_; refine gO ?_; refine gc_ret ?_; rotate_left)
    all_goals first
      | exact gx_round (k + 1) ⟨by omega, chars_snoc hI (char_yes (by omega))⟩ (by omega) (by repeat (first | exact Keeps.refl | refine Keeps.upd rfl ?_ | refine Keeps.sets rfl ?_ | refine Keeps.havoc rfl ?_)) ⟨rfl, trivial⟩ .nil
      | (refine gx_ret1 (v := .bool _) rfl rfl (fun _ _ => ?_); rw [nameB_no (by omega) (char_no (k := k) (by omega))])
      | skip
    refine gx_ret1 (v := .bool _) rfl rfl (fun _ _ => ?_)
    obtain rfl : k = s.size := by omega
    rw [ba_empty] at h1
    simp only [decide_eq_false_iff_not] at h1
    have h2' : s.size ≤ 24 := by omega
    unfold nameB
    rw [h3, h4, hI]
    simp [h1, h2']
end Go.Proofs.YtckhibfbdnoigaaGreatDoor

/- Contracts: formulas that are names. -/
namespace Go.Proofs.YtckhibfbdnoigaaGreatDoor
open Go.RowKit
set_option maxRecDepth 100000
set_option maxHeartbeats 1000000
/-! ### Names -/
theorem isDigit_ok (w : World) (c : Int) : Ok Tryz.prog 145 [.int .u8 c].toArray w fun r _ => r = .bool (decide (48 ≤ c ∧ c ≤ 57)) := by
  refine ok_enter Tryz.func145 rfl Tryz.ntmps145 rfl ?_
  focus (refine gc_seq ?_; refine gc_region ?_; refine gM rfl rfl (by conv => (lhs; whnf)) ?_; refine gN ?_; refine gM rfl rfl (by conv => (lhs; whnf)) ?_; refine gC rfl rfl rfl rfl rfl ?_; refine gM rfl rfl (by conv => (lhs; whnf)) ?_; refine gw_guard_dec rfl rfl (fun _ => ?_) (fun _ => ?_); refine gM rfl rfl (by conv => (lhs; whnf)) ?_; refine gC rfl rfl rfl rfl rfl ?_; apply gw_d; exact det_pick_t (v := .bool _) rfl rfl rfl rfl; refine gM rfl rfl (by conv => (lhs; whnf)) ?_; refine gO ?_; refine gc_ret ?_; rotate_left; refine gU rfl ?_; refine gU rfl ?_; apply gw_d; exact det_pick_f (v := .bool _) rfl rfl rfl rfl; refine gM rfl rfl (by conv => (lhs; whnf)) ?_; refine gO ?_; refine gc_ret ?_; rotate_left)
  all_goals (refine gx_ret1 (v := .bool _) rfl rfl (fun _ _ => ?_); simp [*])
theorem operands2_ok (w : World) : Ok Tryz.prog 121 [.int .i64 2].toArray w fun r _ => r = .tuple #[.int .i64 0, .int .i64 0] := by
  refine ok_enter Tryz.func121 rfl Tryz.ntmps121 rfl ?_
  focus (refine gc_seq ?_; refine gc_region ?_; refine gM rfl rfl (by conv => (lhs; whnf)) ?_; refine gM rfl rfl (by conv => (lhs; whnf)) ?_; refine gO ?_; refine gc_seq ?_; refine gc_seq ?_; refine gc_region ?_; refine gM rfl rfl (by conv => (lhs; whnf)) ?_; refine gO ?_; refine gc_block ?_; refine gc_seq ?_; refine gc_seq ?_; refine gc_region ?_; refine gC rfl rfl rfl rfl rfl ?_; refine gM rfl rfl (by conv => (lhs; whnf)) ?_; refine gO ?_)
  refine gc_if_dec rfl (fun h => absurd h (by decide)) (fun _ => ?_)
  focus (refine gc_region ?_; refine gC rfl rfl rfl rfl rfl ?_; refine gM rfl rfl (by conv => (lhs; whnf)) ?_; refine gO ?_)
  refine gc_if_dec rfl (fun _ => ?_) (fun h => absurd rfl h)
  focus (refine gc_seq ?_; refine gc_region ?_; refine gM rfl rfl (by conv => (lhs; whnf)) ?_; refine gM rfl rfl (by conv => (lhs; whnf)) ?_; refine gO ?_; refine gc_ret ?_; refine gx_block_ret ?_; refine gx_then_ret ?_)
  refine gx_ret2 (u := .int _ _) (v := .int _ _) rfl rfl rfl (fun _ _ => ?_)
  rfl

theorem fname_ok (w : World) (s : ByteArray) (hs : s.size ≤ 9223372036854775807) : Ok Tryz.prog 122 [.string s].toArray w fun r _ => r = .bool (nameB s) := by
  refine ok_enter Tryz.func122 rfl Tryz.ntmps122 rfl ?_
  focus (refine gc_seq ?_; refine gc_region ?_; refine gM rfl rfl (by conv => (lhs; whnf)) ?_; refine gO ?_; refine gc_seq ?_; refine gc_seq ?_; refine gc_region ?_; refine gM rfl rfl (by conv => (lhs; whnf)) ?_; apply gw_d; exact w_len_str rfl rfl rfl; refine gC rfl rfl rfl rfl rfl ?_; refine gM rfl rfl (by conv => (lhs; whnf)) ?_; refine gw_guard_dec rfl rfl (fun _ => ?_) (fun _ => ?_); refine gU rfl ?_; refine gU rfl ?_; refine gU rfl ?_; apply gw_d; exact det_pick_t (v := .bool _) rfl rfl rfl rfl; refine gM rfl rfl (by conv => (lhs; whnf)) ?_; refine gU rfl ?_; refine gU rfl ?_; apply gw_d; exact det_pick_t (v := .bool _) rfl rfl rfl rfl; refine gM rfl rfl (by conv => (lhs; whnf)) ?_; refine gU rfl ?_; refine gU rfl ?_; apply gw_d; exact det_pick_t (v := .bool _) rfl rfl rfl rfl; refine gO ?_; refine gc_if_true rfl ?_; refine gc_seq ?_; refine gc_region ?_; refine gM rfl rfl (by conv => (lhs; whnf)) ?_; refine gO ?_; refine gc_ret ?_; refine gx_then_ret ?_; rotate_left; refine gM rfl rfl (by conv => (lhs; whnf)) ?_; apply gw_d; exact w_len_str rfl rfl rfl; refine gC rfl rfl rfl rfl rfl ?_; apply gw_d; exact det_pick_f (v := .bool _) rfl rfl rfl rfl; refine gM rfl rfl (by conv => (lhs; whnf)) ?_; refine gw_guard_dec rfl rfl (fun _ => ?_) (fun _ => ?_); refine gU rfl ?_; refine gU rfl ?_; apply gw_d; exact det_pick_t (v := .bool _) rfl rfl rfl rfl; refine gM rfl rfl (by conv => (lhs; whnf)) ?_; refine gU rfl ?_; refine gU rfl ?_; apply gw_d; exact det_pick_t (v := .bool _) rfl rfl rfl rfl; refine gO ?_; refine gc_if_true rfl ?_; refine gc_seq ?_; refine gc_region ?_; refine gM rfl rfl (by conv => (lhs; whnf)) ?_; refine gO ?_; refine gc_ret ?_; refine gx_then_ret ?_; rotate_left; refine gM rfl rfl (by conv => (lhs; whnf)) ?_; apply gw_d; exact det_seq rfl rfl rfl rfl; apply gw_d; exact det_pick_f (v := .bool _) rfl rfl rfl rfl; refine gM rfl rfl (by conv => (lhs; whnf)) ?_; refine gw_guard rfl rfl (fun _ => ?_) (fun _ => ?_); refine gU rfl ?_; refine gU rfl ?_; apply gw_d; exact det_pick_t (v := .bool _) rfl rfl rfl rfl; refine gO ?_; refine gc_if_true rfl ?_; refine gc_seq ?_; refine gc_region ?_; refine gM rfl rfl (by conv => (lhs; whnf)) ?_; refine gO ?_; refine gc_ret ?_; refine gx_then_ret ?_; rotate_left; refine gM rfl rfl (by conv => (lhs; whnf)) ?_; apply gw_d; exact det_seq rfl rfl rfl rfl; apply gw_d; exact det_pick_f (v := .bool _) rfl rfl rfl rfl; refine gO ?_; refine gc_if rfl (fun _ => ?_) (fun _ => ?_); refine gc_seq ?_; refine gc_region ?_; refine gM rfl rfl (by conv => (lhs; whnf)) ?_; refine gO ?_; refine gc_ret ?_; refine gx_then_ret ?_; rotate_left; refine gc_skip ?_; refine gx_next ?_; refine gc_seq ?_; refine gc_seq ?_; refine gc_region ?_; refine gM rfl rfl (by conv => (lhs; whnf)) ?_; apply gw_d; exact w_len_str rfl rfl rfl; refine gM rfl rfl (by conv => (lhs; whnf)) ?_; refine gO ?_; refine gc_block ?_; rotate_left)
  · refine gx_ret1 (v := .bool _) rfl rfl (fun _ _ => ?_)
    rename_i h _ _
    unfold nameB
    have h' : s.size = 0 := by omega
    simp [h']
  · refine gx_ret1 (v := .bool _) rfl rfl (fun _ _ => ?_)
    rename_i h _ _
    have h' : ¬ s.size ≤ 24 := by omega
    unfold nameB
    simp [h']
  · refine gx_ret1 (v := .bool _) rfl rfl (fun _ _ => ?_)
    rename_i h _ _
    unfold nameB
    rw [h]
    simp
  · refine gx_ret1 (v := .bool _) rfl rfl (fun _ _ => ?_)
    rename_i h _ _
    unfold nameB
    rw [h]
    simp
  · rename_i h1 h2 h3 h4
    refine gc_loop (σ := Nat) [25, 26, 3, 27, 28, 29, 4, 30, 31, 32, 33, 34, 35, 5, 36, 37, 38, 39, 40, 41, 42, 43, 44, 45, 46, 47, 48, 49, 50, 2, 51, 24] (fun k => [(24, .int .i64 k)]) (fun _ => []) (fun k => k ≤ s.size ∧ (List.range k).all (charB s) = true) (fun k => s.size - k) 0 ⟨Nat.zero_le _, rfl⟩ ⟨rfl, trivial⟩ .nil ?_
    rintro k base ⟨hk, hI⟩
    focus (refine gc_seq ?_; refine gc_region ?_; refine gC rfl rfl rfl rfl rfl ?_; refine gO ?_; refine gc_seq ?_; refine gc_if_dec rfl (fun _ => ?_) (fun _ => ?_); refine gc_skip ?_; refine gx_next ?_; refine gc_seq ?_; refine gc_block ?_; refine gc_seq ?_; refine gc_region ?_; refine gM rfl rfl (by conv => (lhs; whnf)) ?_; refine gM rfl rfl (by conv => (lhs; whnf)) ?_; refine gN ?_; refine gM rfl rfl (by conv => (lhs; whnf)) ?_; refine gM rfl rfl (by conv => (lhs; whnf)) ?_; apply gw_d; exact w_sidx rfl rfl rfl rfl (by with_reducible exact rfl) (by omega); refine gM rfl rfl (by conv => (lhs; whnf)) ?_; refine gN ?_; refine gM rfl rfl (by conv => (lhs; whnf)) ?_; refine gC rfl rfl rfl rfl rfl ?_; refine gM rfl rfl (by conv => (lhs; whnf)) ?_; refine gw_guard_dec rfl rfl (fun _ => ?_) (fun _ => ?_); refine gM rfl rfl (by conv => (lhs; whnf)) ?_; refine gC rfl rfl rfl rfl rfl ?_; apply gw_d; exact det_pick_t (v := .bool _) rfl rfl rfl rfl; refine gM rfl rfl (by conv => (lhs; whnf)) ?_; refine gN ?_; refine gM rfl rfl (by conv => (lhs; whnf)) ?_; apply gw_d; exact det_not_dec rfl rfl rfl; refine gM rfl rfl (by conv => (lhs; whnf)) ?_; refine gw_guard_dec rfl rfl (fun _ => ?_) (fun _ => ?_); refine gM rfl rfl (by conv => (lhs; whnf)) ?_; refine gC rfl rfl rfl rfl rfl ?_; refine gM rfl rfl (by conv => (lhs; whnf)) ?_; refine gw_guard_dec rfl rfl (fun _ => ?_) (fun _ => ?_); refine gU rfl ?_; refine gU rfl ?_; refine gU rfl ?_; refine gU rfl ?_; refine gU rfl ?_; refine gU rfl ?_; refine gU rfl ?_; apply gw_d; exact det_pick_t (v := .bool _) rfl rfl rfl rfl; apply gw_d; exact det_pick_t (v := .bool _) rfl rfl rfl rfl; refine gO ?_; refine gc_if_true rfl ?_; refine gc_seq ?_; refine gc_region ?_; refine gM rfl rfl (by conv => (lhs; whnf)) ?_; refine gO ?_; refine gc_ret ?_; refine gx_block_ret ?_; refine gx_then_ret ?_; refine gx_then_ret ?_; refine gx_block_ret ?_; refine gx_then_ret ?_; rotate_left; refine gM rfl rfl (by conv => (lhs; whnf)) ?_; refine gC rfl rfl rfl rfl rfl ?_; refine gM rfl rfl (by conv => (lhs; whnf)) ?_; refine gw_guard_dec rfl rfl (fun _ => ?_) (fun _ => ?_); refine gM rfl rfl (by conv => (lhs; whnf)) ?_; apply gw_d; exact w_call rfl rfl (fun w s => isDigit_ok w _) rfl; apply gw_d; exact det_not_dec rfl rfl rfl; apply gw_d; exact det_pick_t (v := .bool _) rfl rfl rfl rfl; apply gw_d; exact det_pick_f (v := .bool _) rfl rfl rfl rfl; apply gw_d; exact det_pick_t (v := .bool _) rfl rfl rfl rfl; refine gO ?_; refine gc_if_dec rfl (fun _ => ?_) (fun _ => ?_); refine gc_seq ?_; refine gc_region ?_; refine gM rfl rfl (by conv => (lhs; whnf)) ?_; refine gO ?_; refine gc_ret ?_; refine gx_block_ret ?_; refine gx_then_ret ?_; refine gx_then_ret ?_; refine gx_block_ret ?_; refine gx_then_ret ?_; rotate_left; refine gc_skip ?_; refine gx_block ?_; refine gx_next ?_; refine gc_region ?_; apply gw_d; exact det_ar rfl rfl rfl rfl rfl (by omega); refine gM rfl rfl (by conv => (lhs; whnf)) ?_; refine gw_nil ?_; rotate_left; refine gU rfl ?_; refine gU rfl ?_; refine gU rfl ?_; apply gw_d; exact det_pick_f (v := .bool _) rfl rfl rfl rfl; apply gw_d; exact det_pick_f (v := .bool _) rfl rfl rfl rfl; apply gw_d; exact det_pick_t (v := .bool _) rfl rfl rfl rfl; refine gO ?_; refine gc_if_false rfl ?_; refine gc_skip ?_; refine gx_block ?_; refine gx_next ?_; refine gc_region ?_; apply gw_d; exact det_ar rfl rfl rfl rfl rfl (by omega); refine gM rfl rfl (by conv => (lhs; whnf)) ?_; refine gw_nil ?_; rotate_left; refine gU rfl ?_; refine gU rfl ?_; refine gU rfl ?_; refine gU rfl ?_; refine gU rfl ?_; refine gU rfl ?_; refine gU rfl ?_; refine gU rfl ?_; refine gU rfl ?_; refine gU rfl ?_; refine gU rfl ?_; apply gw_d; exact det_pick_f (v := .bool _) rfl rfl rfl rfl; refine gO ?_; refine gc_if_false rfl ?_; refine gc_skip ?_; refine gx_block ?_; refine gx_next ?_; refine gc_region ?_; apply gw_d; exact det_ar rfl rfl rfl rfl rfl (by omega); refine gM rfl rfl (by conv => (lhs; whnf)) ?_; refine gw_nil ?_; rotate_left; refine gU rfl ?_; refine gU rfl ?_; apply gw_d; exact det_pick_f (v := .bool _) rfl rfl rfl rfl; refine gM rfl rfl (by conv => (lhs; whnf)) ?_; refine gN ?_; refine gM rfl rfl (by conv => (lhs; whnf)) ?_; apply gw_d; exact det_not_ rfl rfl rfl; refine gM rfl rfl (by conv => (lhs; whnf)) ?_; refine gM rfl rfl (by conv => (lhs; whnf)) ?_; refine gC rfl rfl rfl rfl rfl ?_; refine gM rfl rfl (by conv => (lhs; whnf)) ?_; refine gw_guard_dec rfl rfl (fun _ => ?_) (fun _ => ?_); refine gU rfl ?_; refine gU rfl ?_; refine gU rfl ?_; refine gU rfl ?_; refine gU rfl ?_; refine gU rfl ?_; refine gU rfl ?_; apply gw_d; exact det_pick_t (v := .bool _) rfl rfl rfl rfl; apply gw_d; exact det_pick_t (v := .bool _) rfl rfl rfl rfl; refine gO ?_; refine gc_if_true rfl ?_; refine gc_seq ?_; refine gc_region ?_; refine gM rfl rfl (by conv => (lhs; whnf)) ?_; refine gO ?_; refine gc_ret ?_; refine gx_block_ret ?_; refine gx_then_ret ?_; refine gx_then_ret ?_; refine gx_block_ret ?_; refine gx_then_ret ?_; rotate_left; refine gM rfl rfl (by conv => (lhs; whnf)) ?_; refine gC rfl rfl rfl rfl rfl ?_; refine gM rfl rfl (by conv => (lhs; whnf)) ?_; refine gw_guard_dec rfl rfl (fun _ => ?_) (fun _ => ?_); refine gM rfl rfl (by conv => (lhs; whnf)) ?_; apply gw_d; exact w_call rfl rfl (fun w s => isDigit_ok w _) rfl; apply gw_d; exact det_not_dec rfl rfl rfl; apply gw_d; exact det_pick_t (v := .bool _) rfl rfl rfl rfl; apply gw_d; exact det_pick_f (v := .bool _) rfl rfl rfl rfl; apply gw_d; exact det_pick_t (v := .bool _) rfl rfl rfl rfl; refine gO ?_; refine gc_if_dec rfl (fun _ => ?_) (fun _ => ?_); refine gc_seq ?_; refine gc_region ?_; refine gM rfl rfl (by conv => (lhs; whnf)) ?_; refine gO ?_; refine gc_ret ?_; refine gx_block_ret ?_; refine gx_then_ret ?_; refine gx_then_ret ?_; refine gx_block_ret ?_; refine gx_then_ret ?_; rotate_left; refine gc_skip ?_; refine gx_block ?_; refine gx_next ?_; refine gc_region ?_; apply gw_d; exact det_ar rfl rfl rfl rfl rfl (by omega); refine gM rfl rfl (by conv => (lhs; whnf)) ?_; refine gw_nil ?_; rotate_left; refine gU rfl ?_; refine gU rfl ?_; refine gU rfl ?_; apply gw_d; exact det_pick_f (v := .bool _) rfl rfl rfl rfl; apply gw_d; exact det_pick_f (v := .bool _) rfl rfl rfl rfl; apply gw_d; exact det_pick_t (v := .bool _) rfl rfl rfl rfl; refine gO ?_; refine gc_if_false rfl ?_; refine gc_skip ?_; refine gx_block ?_; refine gx_next ?_; refine gc_region ?_; apply gw_d; exact det_ar rfl rfl rfl rfl rfl (by omega); refine gM rfl rfl (by conv => (lhs; whnf)) ?_; refine gw_nil ?_; rotate_left; refine gc_exit ?_; refine gx_then_exit ?_; refine gx_then_exit ?_; refine gx_block_exit ?_; refine gx_next ?_; refine gc_seq ?_; refine gc_region ?_; refine gM rfl rfl (by conv => (lhs; whnf)) ?_; refine gO ?_; refine gc_ret ?_; rotate_left)
    all_goals first
      | exact gx_round (k + 1) ⟨by omega, chars_snoc hI (char_yes (by omega))⟩ (by omega) (by repeat (first | exact Keeps.refl | refine Keeps.upd rfl ?_ | refine Keeps.sets rfl ?_ | refine Keeps.havoc rfl ?_)) ⟨rfl, trivial⟩ .nil
      | (refine gx_ret1 (v := .bool _) rfl rfl (fun _ _ => ?_); rw [nameB_no (by omega) (char_no (k := k) (by omega))])
      | skip
    refine gx_ret1 (v := .bool _) rfl rfl (fun _ _ => ?_)
    obtain rfl : k = s.size := by omega
    have h2' : s.size ≤ 24 := by omega
    have h1' : ¬ s.size = 0 := by omega
    unfold nameB
    rw [h3, h4, hI]
    simp [h1', h2']

theorem right_ok (w : World) (s : ByteArray) (hs : s.size ≤ 9223372036854775807) : Ok Tryz.prog 108 [.agg #[.int .i64 2, .bool false, .slice none 0 0, .slice none 0 0, .string s, .slice none 0 0]].toArray w fun r _ => r = .bool (nameB s) := by
  refine ok_enter Tryz.func108 rfl Tryz.ntmps108 rfl ?_
  focus (refine gc_seq ?_; refine gc_region ?_; refine gw_boxd (v := .agg _) rfl rfl (fun _ => ?_); refine gM rfl rfl (by conv => (lhs; whnf)) ?_; refine gN ?_; refine gF rfl rfl rfl ?_; apply gw_d; exact w_load_box rfl rfl rfl .here rfl; apply gw_d; exact w_call rfl rfl (fun w s => operands2_ok w) rfl; refine gM rfl rfl (by conv => (lhs; whnf)) ?_; apply gw_d; exact det_extract rfl rfl rfl (by conv => (lhs; whnf)); apply gw_d; exact det_extract rfl rfl rfl (by conv => (lhs; whnf)); refine gM rfl rfl (by conv => (lhs; whnf)) ?_; refine gM rfl rfl (by conv => (lhs; whnf)) ?_; refine gO ?_; refine gc_seq ?_; refine gc_seq ?_; refine gc_region ?_; refine gF rfl rfl rfl ?_; apply gw_d; exact w_load_box rfl rfl rfl .here rfl; refine gL rfl rfl rfl ?_; refine gM rfl rfl (by conv => (lhs; whnf)) ?_; refine gC rfl rfl rfl rfl rfl ?_; refine gM rfl rfl (by conv => (lhs; whnf)) ?_; refine gF rfl rfl rfl ?_; apply gw_d; exact w_load_box rfl rfl rfl .here rfl; refine gL rfl rfl rfl ?_; refine gM rfl rfl (by conv => (lhs; whnf)) ?_; refine gC rfl rfl rfl rfl rfl ?_; apply gw_d; exact det_pick_f (v := .bool _) rfl rfl rfl rfl; refine gO ?_)
  refine gc_if_dec rfl (fun h => absurd h (by decide)) (fun _ => ?_)
  focus (refine gc_skip ?_; refine gx_next ?_; refine gc_seq ?_; refine gc_seq ?_; refine gc_region ?_; refine gF rfl rfl rfl ?_; apply gw_d; exact w_load_box rfl rfl rfl .here rfl; refine gC rfl rfl rfl rfl rfl ?_; refine gO ?_)
  refine gc_if_dec rfl (fun _ => ?_) (fun h => absurd rfl h)
  focus (refine gc_seq ?_; refine gc_region ?_; refine gF rfl rfl rfl ?_; apply gw_d; exact w_load_box rfl rfl rfl .here rfl; apply gw_d; exact w_call rfl rfl (fun w _ => fname_ok w s hs) rfl; apply gw_d; exact det_not_ rfl rfl rfl; refine gO ?_)
  refine gc_if rfl (fun h => ?_) (fun h => ?_)
  · focus (refine gc_seq ?_; refine gc_region ?_; refine gM rfl rfl (by conv => (lhs; whnf)) ?_; refine gO ?_; refine gc_ret ?_; refine gx_then_ret ?_)
    refine gx_ret1 (v := .bool _) rfl rfl (fun _ _ => ?_)
    simp at h
    rw [h]
  · focus (refine gc_skip ?_; refine gx_next ?_; refine gc_seq ?_; refine gc_seq ?_; refine gc_region ?_; refine gF rfl rfl rfl ?_; apply gw_d; exact w_load_box rfl rfl rfl .here rfl; refine gC rfl rfl rfl rfl rfl ?_; refine gO ?_)
    refine gc_if_dec rfl (fun h => absurd h (by decide)) (fun _ => ?_)
    focus (refine gc_skip ?_; refine gx_next ?_; refine gc_seq ?_; refine gc_region ?_; refine gF rfl rfl rfl ?_; apply gw_d; exact w_load_part rfl rfl rfl .here rfl rfl; apply gw_d; exact w_build (cells := #[.bool false, .slice none 0 0, .slice none 0 0]) rfl rfl (by kernel_rfl); apply gw_d; exact w_call rfl rfl (fun w _ => ratioCmp0_ok w) rfl; refine gC rfl rfl rfl rfl rfl ?_; refine gM rfl rfl (by conv => (lhs; whnf)) ?_; refine gO ?_; refine gc_ret ?_)
    refine gx_ret1 (v := .bool _) rfl rfl (fun _ _ => ?_)
    simp at h
    rw [h]
    rfl
theorem check_ok (w : World) (s : ByteArray) (hs : s.size ≤ 9223372036854775807) : Ok Tryz.prog 92 [.agg #[.int .i64 2, .bool false, .slice none 0 0, .slice none 0 0, .string s, .slice none 0 0], .int .i64 1].toArray w fun r _ => r = .int .i64 (if nameB s = true then 0 else 1) := by
  refine ok_enter Tryz.func92 rfl Tryz.ntmps92 rfl ?_
  focus (refine gc_seq ?_; refine gc_region ?_; refine gw_boxd (v := .agg _) rfl rfl (fun _ => ?_); refine gM rfl rfl (by conv => (lhs; whnf)) ?_; refine gO ?_; refine gc_seq ?_; refine gc_seq ?_; refine gc_region ?_; refine gM rfl rfl (by conv => (lhs; whnf)) ?_; refine gC rfl rfl rfl rfl rfl ?_; refine gO ?_)
  refine gc_if_dec rfl (fun h => absurd h (by decide)) (fun _ => ?_)
  focus (refine gc_skip ?_; refine gx_next ?_; refine gc_seq ?_; refine gc_seq ?_; refine gc_region ?_; apply gw_d; exact w_load_boxN rfl rfl rfl .here rfl; apply gw_d; exact w_call rfl rfl (fun w _ => right_ok w s hs) rfl; apply gw_d; exact det_not_ rfl rfl rfl; refine gO ?_)
  refine gc_if rfl (fun h => ?_) (fun h => ?_)
  · focus (refine gc_seq ?_; refine gc_region ?_; refine gM rfl rfl (by conv => (lhs; whnf)) ?_; refine gO ?_; refine gc_ret ?_; refine gx_then_ret ?_)
    refine gx_ret1 (v := .int _ _) rfl rfl (fun _ _ => ?_)
    simp at h
    rw [h]
    rfl
  · focus (refine gc_skip ?_; refine gx_next ?_; refine gc_seq ?_; refine gc_seq ?_; refine gc_region ?_; refine gF rfl rfl rfl ?_; apply gw_d; exact w_load_box rfl rfl rfl .here rfl; refine gL rfl rfl rfl ?_; refine gM rfl rfl (by conv => (lhs; whnf)) ?_; refine gO ?_; refine gc_block ?_)
    refine gc_loop (σ := Unit) [17, 18, 19, 6, 20, 21, 22, 23, 7, 24, 25, 26, 4, 27, 16] (fun _ => [(16, .int .i64 0)]) (fun _ => []) (fun _ => True) (fun _ => 0) () trivial ⟨rfl, trivial⟩ .nil ?_
    rintro k base -
    focus (refine gc_seq ?_; refine gc_region ?_; refine gC rfl rfl rfl rfl rfl ?_; refine gO ?_; refine gc_seq ?_)
    refine gc_if_dec rfl (fun h => absurd h (by decide)) (fun _ => ?_)
    focus (refine gc_exit ?_; refine gx_then_exit ?_; refine gx_then_exit ?_; refine gx_block_exit ?_; refine gx_next ?_; refine gc_seq ?_; refine gc_region ?_; refine gM rfl rfl (by conv => (lhs; whnf)) ?_; refine gO ?_; refine gc_ret ?_)
    refine gx_ret1 (v := .int _ _) rfl rfl (fun _ _ => ?_)
    simp at h
    rw [h]
    rfl
theorem fcheck_ok (w : World) (s : ByteArray) (hs : s.size ≤ 9223372036854775807) : Ok Tryz.prog 74 [.agg #[.int .i64 2, .bool false, .slice none 0 0, .slice none 0 0, .string s, .slice none 0 0]].toArray w fun r _ => r = .int .i64 (if nameB s = true then 0 else 1) := by
  refine ok_enter Tryz.func74 rfl Tryz.ntmps74 rfl ?_
  focus (refine gc_seq ?_; refine gc_region ?_; refine gw_boxd (v := .agg _) rfl rfl (fun _ => ?_); refine gM rfl rfl (by conv => (lhs; whnf)) ?_; refine gN ?_; apply gw_d; exact w_load_boxN rfl rfl rfl .here rfl; apply gw_d; exact w_call rfl rfl (fun w _ => check_ok w s hs) rfl; refine gM rfl rfl (by conv => (lhs; whnf)) ?_; refine gO ?_; refine gc_ret ?_)
  refine gx_ret1 (v := .int _ _) rfl rfl (fun _ _ => ?_)
  rfl
theorem name_eq (b : Bool) : decide ((if b = true then (0 : Int) else 1) = 0) = b := by cases b <;> rfl
theorem styleName_ok (w : World) (s : ByteArray) (hs : s.size ≤ 9223372036854775807) : Ok Tryz.prog 101 [.string s].toArray w fun r _ => r = .bool (nameB s) := by
  refine ok_enter Tryz.func101 rfl Tryz.ntmps101 rfl ?_
  focus (refine gc_seq ?_; refine gc_region ?_; refine gM rfl rfl (by conv => (lhs; whnf)) ?_; refine gN ?_; refine gM rfl rfl (by conv => (lhs; whnf)) ?_; apply gw_d; exact w_build (cells := #[.int .i64 2, .bool false, .slice none 0 0, .slice none 0 0, .string s, .slice none 0 0]) rfl rfl (by kernel_rfl); apply gw_d; exact w_call rfl rfl (fun w _ => fcheck_ok w s hs) rfl; refine gC rfl rfl rfl rfl rfl ?_; refine gM rfl rfl (by conv => (lhs; whnf)) ?_; refine gO ?_; refine gc_ret ?_)
  refine gx_ret1 (v := .bool _) rfl rfl (fun _ _ => ?_)
  rw [name_eq]
theorem outlineName_ok (w : World) (s : ByteArray) (hs : s.size ≤ 9223372036854775807) : Ok Tryz.prog 138 [.string s].toArray w fun r _ => r = .bool (nameB s) := by
  refine ok_enter Tryz.func138 rfl Tryz.ntmps138 rfl ?_
  focus (refine gc_seq ?_; refine gc_region ?_; refine gM rfl rfl (by conv => (lhs; whnf)) ?_; refine gN ?_; refine gM rfl rfl (by conv => (lhs; whnf)) ?_; apply gw_d; exact w_build (cells := #[.int .i64 2, .bool false, .slice none 0 0, .slice none 0 0, .string s, .slice none 0 0]) rfl rfl (by kernel_rfl); apply gw_d; exact w_call rfl rfl (fun w _ => fcheck_ok w s hs) rfl; refine gC rfl rfl rfl rfl rfl ?_; refine gM rfl rfl (by conv => (lhs; whnf)) ?_; refine gO ?_; refine gc_ret ?_)
  refine gx_ret1 (v := .bool _) rfl rfl (fun _ _ => ?_)
  rw [name_eq]
end Go.Proofs.YtckhibfbdnoigaaGreatDoor

/- Contracts: search in lists of integers, sizes of charts. -/
namespace Go.Proofs.YtckhibfbdnoigaaGreatDoor
open Go.RowKit
set_option maxRecDepth 100000
set_option maxHeartbeats 1000000

def isI (q p : Int) : Bool := decide (q = p)
theorem indexInt_ok (w : World) (v : Value) (l : List Int) (x : Int) (hl : Sl rInt w w.heap.size v l) :
    Ok Tryz.prog 93 [v, .int .i64 x].toArray w fun r _ => r = .int .i64 (idxI (isI x) l) := by
  obtain ⟨A, c, rfl, hc, hm, hcell⟩ := hl.int
  refine ok_enter Tryz.func93 rfl Tryz.ntmps93 rfl ?_
  focus (refine gc_seq ?_; refine gc_region ?_; refine gM rfl rfl (by conv => (lhs; whnf)) ?_; refine gO ?_; refine gc_seq ?_; refine gc_seq ?_; refine gc_region ?_; refine gM rfl rfl (by conv => (lhs; whnf)) ?_; refine gL rfl rfl rfl ?_; refine gM rfl rfl (by conv => (lhs; whnf)) ?_; refine gO ?_; refine gc_block ?_)
  refine gc_loop (σ := Nat) [9, 10, 5, 11, 12, 13, 14, 15, 16, 17, 4, 18, 8] (fun k => [(8, .int .i64 k)]) (fun _ => []) (fun k => k ≤ l.length ∧ (l.take k).any (isI x) = false) (fun k => l.length - k) 0 ⟨Nat.zero_le _, rfl⟩ ⟨rfl, trivial⟩ .nil ?_
  rintro k base ⟨hk, hI⟩
  focus (refine gc_seq ?_; refine gc_region ?_; refine gC rfl rfl rfl rfl rfl ?_; refine gO ?_; refine gc_seq ?_)
  refine gc_if_dec rfl (fun h => ?_) (fun h => ?_)
  · obtain ⟨ad, rfl, hb, hce, hi⟩ := hcell k (by omega)
    have hlt : k < l.length := by omega
    focus (refine gc_skip ?_; refine gx_next ?_; refine gc_seq ?_; refine gc_block ?_; refine gc_seq ?_; refine gc_region ?_; refine gM rfl rfl (by conv => (lhs; whnf)) ?_; refine gM rfl rfl (by conv => (lhs; whnf)) ?_; refine gN ?_; refine gM rfl rfl (by conv => (lhs; whnf)) ?_; refine gM rfl rfl (by conv => (lhs; whnf)) ?_; refine gM rfl rfl (by conv => (lhs; whnf)) ?_; apply gw_d; exact w_index rfl rfl rfl rfl (by with_reducible exact rfl) (by omega); apply gw_d; exact w_load_at rfl rfl rfl (by assumption) (by assumption); refine gC rfl rfl rfl rfl rfl ?_; refine gO ?_; refine gc_if_dec rfl (fun _ => ?_) (fun _ => ?_); refine gc_seq ?_; refine gc_region ?_; refine gM rfl rfl (by conv => (lhs; whnf)) ?_; refine gM rfl rfl (by conv => (lhs; whnf)) ?_; refine gO ?_; refine gc_ret ?_; refine gx_block_ret ?_; refine gx_then_ret ?_; refine gx_then_ret ?_; refine gx_block_ret ?_; refine gx_then_ret ?_; rotate_left; refine gc_skip ?_; refine gx_block ?_; refine gx_next ?_; refine gc_region ?_; apply gw_d; exact det_ar rfl rfl rfl rfl rfl (by omega); refine gM rfl rfl (by conv => (lhs; whnf)) ?_; refine gw_nil ?_; rotate_left)
    · refine gx_ret1 (v := .int _ _) rfl rfl (fun _ _ => ?_)
      rw [idx_found hlt hI (by simpa [isI] using ‹x = _›)]
    · exact gx_round (k + 1) ⟨by omega, any_snoc hlt hI (by simpa [isI] using ‹¬ x = _›)⟩ (by omega) (by repeat (first | exact Keeps.refl | refine Keeps.upd rfl ?_ | refine Keeps.sets rfl ?_ | refine Keeps.havoc rfl ?_)) ⟨rfl, trivial⟩ .nil
  · focus (refine gc_exit ?_; refine gx_then_exit ?_; refine gx_then_exit ?_; refine gx_block_exit ?_; refine gx_next ?_; refine gc_seq ?_; refine gc_region ?_; refine gM rfl rfl (by conv => (lhs; whnf)) ?_; refine gO ?_; refine gc_ret ?_)
    refine gx_ret1 (v := .int _ _) rfl rfl (fun _ _ => ?_)
    rw [List.take_of_length_le (by omega)] at hI
    rw [idx_none hI]
theorem containsInt_ok (w : World) (v : Value) (l : List Int) (x : Int) (hl : Sl rInt w w.heap.size v l) :
    Ok Tryz.prog 76 [v, .int .i64 x].toArray w fun r _ => r = .bool (l.any (isI x)) := by
  obtain ⟨A, c, rfl, _⟩ := hl.int
  refine ok_enter Tryz.func76 rfl Tryz.ntmps76 rfl ?_
  focus (refine gc_seq ?_; refine gc_region ?_; refine gM rfl rfl (by conv => (lhs; whnf)) ?_; refine gN ?_; refine gM rfl rfl (by conv => (lhs; whnf)) ?_; refine gM rfl rfl (by conv => (lhs; whnf)) ?_; apply gw_d; exact w_call rfl rfl (fun w s => indexInt_ok w _ l _ (hl.later s)) rfl; refine gC rfl rfl rfl rfl rfl ?_; refine gM rfl rfl (by conv => (lhs; whnf)) ?_; refine gO ?_; refine gc_ret ?_)
  refine gx_ret1 (v := .bool _) rfl rfl (fun _ _ => ?_)
  congr 1
  have := idx_nonneg (isI x) l
  by_cases h : l.any (isI x) = true
  · rw [h]; simp [this.2 h]
  · have h2 : ¬ 0 ≤ idxI (isI x) l := fun h' => h (this.1 h')
    simp only [Bool.not_eq_true] at h
    rw [h]; simp; omega

theorem indexStr0_ok (w : World) (A : Option Addr) (c : Nat) (s : ByteArray) : Ok Tryz.prog 162 [.slice A 0 c, .string s].toArray w fun r _ => r = .int .i64 (-1) := by
  refine ok_enter Tryz.func162 rfl Tryz.ntmps162 rfl ?_
  focus (refine gc_seq ?_; refine gc_region ?_; refine gM rfl rfl (by conv => (lhs; whnf)) ?_; refine gO ?_; refine gc_seq ?_; refine gc_seq ?_; refine gc_region ?_; refine gM rfl rfl (by conv => (lhs; whnf)) ?_; refine gL rfl rfl rfl ?_; refine gM rfl rfl (by conv => (lhs; whnf)) ?_; refine gO ?_; refine gc_block ?_)
  refine gc_loop (σ := Unit) [9, 10, 5, 11, 12, 13, 14, 15, 16, 17, 4, 18, 8] (fun _ => [(8, .int .i64 0)]) (fun _ => []) (fun _ => True) (fun _ => 0) () trivial ⟨rfl, trivial⟩ .nil ?_
  rintro k base -
  focus (refine gc_seq ?_; refine gc_region ?_; refine gC rfl rfl rfl rfl rfl ?_; refine gO ?_; refine gc_seq ?_)
  refine gc_if_dec rfl (fun h => absurd h (by decide)) (fun _ => ?_)
  focus (refine gc_exit ?_; refine gx_then_exit ?_; refine gx_then_exit ?_; refine gx_block_exit ?_; refine gx_next ?_; refine gc_seq ?_; refine gc_region ?_; refine gM rfl rfl (by conv => (lhs; whnf)) ?_; refine gO ?_; refine gc_ret ?_)
  refine gx_ret1 (v := .int _ _) rfl rfl (fun _ _ => ?_)
  rfl
theorem containsStr0_ok (w : World) (A : Option Addr) (c : Nat) (s : ByteArray) : Ok Tryz.prog 135 [.slice A 0 c, .string s].toArray w fun r _ => r = .bool false := by
  refine ok_enter Tryz.func135 rfl Tryz.ntmps135 rfl ?_
  focus (refine gc_seq ?_; refine gc_region ?_; refine gM rfl rfl (by conv => (lhs; whnf)) ?_; refine gN ?_; refine gM rfl rfl (by conv => (lhs; whnf)) ?_; refine gM rfl rfl (by conv => (lhs; whnf)) ?_; apply gw_d; exact w_call rfl rfl (fun w _ => indexStr0_ok w _ _ _) rfl; refine gC rfl rfl rfl rfl rfl ?_; refine gM rfl rfl (by conv => (lhs; whnf)) ?_; refine gO ?_; refine gc_ret ?_)
  refine gx_ret1 (v := .bool _) rfl rfl (fun _ _ => ?_)
  rfl

/-! ### Sizes -/
def sizeC (c : Int) : Bool := (decide (65 ≤ c) && decide (c ≤ 90)) || (decide (48 ≤ c) && decide (c ≤ 57))
def sizeB' (s : ByteArray) : Bool := decide (1 ≤ s.size) && decide (s.size ≤ 8) && (List.range s.size).all fun i => sizeC (bAt s i)
theorem sizeC_yes {c : Int} (h : (65 ≤ c ∧ c ≤ 90) ∨ (48 ≤ c ∧ c ≤ 57)) : sizeC c = true := by
  unfold sizeC
  simp only [Bool.or_eq_true, Bool.and_eq_true, decide_eq_true_eq]
  exact h
theorem sizeC_no {c : Int} (h : ¬ ((65 ≤ c ∧ c ≤ 90) ∨ (48 ≤ c ∧ c ≤ 57))) : sizeC c = false := by
  rw [← Bool.not_eq_true]
  unfold sizeC
  simp only [Bool.or_eq_true, Bool.and_eq_true, decide_eq_true_eq]
  exact h
theorem sizeB_no {s : ByteArray} {k : Nat} (hk : k < s.size) (h : sizeC (bAt s k) = false) : sizeB' s = false := by
  unfold sizeB'
  rw [Bool.and_eq_false_iff]
  right
  rw [List.all_eq_false]
  exact ⟨k, List.mem_range.2 hk, by rw [h]; simp⟩
theorem sizes_snoc {s : ByteArray} {k : Nat} (h : (List.range k).all (fun i => sizeC (bAt s i)) = true) (hc : sizeC (bAt s k) = true) : (List.range (k + 1)).all (fun i => sizeC (bAt s i)) = true := by
  rw [List.range_succ, List.all_append, h]
  simp [hc]

theorem chartSize_ok (w : World) (s : ByteArray) (hs : s.size ≤ 9223372036854775807) : Ok Tryz.prog 133 [.string s].toArray w fun r _ => r = .bool (sizeB' s) := by
  refine ok_enter Tryz.func133 rfl Tryz.ntmps133 rfl ?_
  focus (refine gc_seq ?_; refine gc_region ?_; refine gM rfl rfl (by conv => (lhs; whnf)) ?_; refine gO ?_; refine gc_seq ?_; refine gc_seq ?_; refine gc_region ?_; refine gM rfl rfl (by conv => (lhs; whnf)) ?_; apply gw_d; exact w_len_str rfl rfl rfl; refine gM rfl rfl (by conv => (lhs; whnf)) ?_; refine gO ?_; refine gc_block ?_)
  refine gc_loop (σ := Nat) [9, 10, 3, 11, 12, 13, 14, 15, 16, 17, 18, 19, 20, 4, 21, 22, 23, 24, 25, 26, 27, 28, 29, 30, 5, 31, 32, 33, 34, 35, 36, 2, 37, 8] (fun k => [(8, .int .i64 k)]) (fun _ => []) (fun k => k ≤ s.size ∧ (List.range k).all (fun i => sizeC (bAt s i)) = true) (fun k => s.size - k) 0 ⟨Nat.zero_le _, rfl⟩ ⟨rfl, trivial⟩ .nil ?_
  rintro k base ⟨hk, hI⟩
  focus (refine gc_seq ?_; refine gc_region ?_; refine gC rfl rfl rfl rfl rfl ?_; refine gO ?_; refine gc_seq ?_; refine gc_if_dec rfl (fun _ => ?_) (fun _ => ?_); refine gc_skip ?_; refine gx_next ?_; refine gc_seq ?_; refine gc_block ?_; refine gc_seq ?_; refine gc_region ?_; refine gM rfl rfl (by conv => (lhs; whnf)) ?_; refine gM rfl rfl (by conv => (lhs; whnf)) ?_; refine gN ?_; refine gM rfl rfl (by conv => (lhs; whnf)) ?_; refine gM rfl rfl (by conv => (lhs; whnf)) ?_; apply gw_d; exact w_sidx rfl rfl rfl rfl (by with_reducible exact rfl) (by omega); refine gC rfl rfl rfl rfl rfl ?_; refine gM rfl rfl (by conv => (lhs; whnf)) ?_; refine gw_guard_dec rfl rfl (fun _ => ?_) (fun _ => ?_); refine gM rfl rfl (by conv => (lhs; whnf)) ?_; refine gM rfl rfl (by conv => (lhs; whnf)) ?_; apply gw_d; exact w_sidx rfl rfl rfl rfl (by with_reducible exact rfl) (by omega); refine gC rfl rfl rfl rfl rfl ?_; apply gw_d; exact det_pick_t (v := .bool _) rfl rfl rfl rfl; refine gM rfl rfl (by conv => (lhs; whnf)) ?_; refine gN ?_; refine gM rfl rfl (by conv => (lhs; whnf)) ?_; refine gM rfl rfl (by conv => (lhs; whnf)) ?_; apply gw_d; exact w_sidx rfl rfl rfl rfl (by with_reducible exact rfl) (by omega); refine gC rfl rfl rfl rfl rfl ?_; refine gM rfl rfl (by conv => (lhs; whnf)) ?_; refine gw_guard_dec rfl rfl (fun _ => ?_) (fun _ => ?_); refine gM rfl rfl (by conv => (lhs; whnf)) ?_; refine gM rfl rfl (by conv => (lhs; whnf)) ?_; apply gw_d; exact w_sidx rfl rfl rfl rfl (by with_reducible exact rfl) (by omega); refine gC rfl rfl rfl rfl rfl ?_; apply gw_d; exact det_pick_t (v := .bool _) rfl rfl rfl rfl; refine gM rfl rfl (by conv => (lhs; whnf)) ?_; refine gN ?_; refine gM rfl rfl (by conv => (lhs; whnf)) ?_; apply gw_d; exact det_not_dec rfl rfl rfl; refine gM rfl rfl (by conv => (lhs; whnf)) ?_; refine gw_guard_dec rfl rfl (fun _ => ?_) (fun _ => ?_); refine gM rfl rfl (by conv => (lhs; whnf)) ?_; apply gw_d; exact det_not_dec rfl rfl rfl; apply gw_d; exact det_pick_t (v := .bool _) rfl rfl rfl rfl; refine gO ?_; refine gc_if_dec rfl (fun _ => ?_) (fun _ => ?_); refine gc_seq ?_; refine gc_region ?_; refine gM rfl rfl (by conv => (lhs; whnf)) ?_; refine gO ?_; refine gc_ret ?_; refine gx_block_ret ?_; refine gx_then_ret ?_; refine gx_then_ret ?_; refine gx_block_ret ?_; refine gx_then_ret ?_; rotate_left; refine gc_skip ?_; refine gx_block ?_; refine gx_next ?_; refine gc_region ?_; apply gw_d; exact det_ar rfl rfl rfl rfl rfl (by omega); refine gM rfl rfl (by conv => (lhs; whnf)) ?_; refine gw_nil ?_; rotate_left; refine gU rfl ?_; refine gU rfl ?_; apply gw_d; exact det_pick_f (v := .bool _) rfl rfl rfl rfl; refine gO ?_; refine gc_if_false rfl ?_; refine gc_skip ?_; refine gx_block ?_; refine gx_next ?_; refine gc_region ?_; apply gw_d; exact det_ar rfl rfl rfl rfl rfl (by omega); refine gM rfl rfl (by conv => (lhs; whnf)) ?_; refine gw_nil ?_; rotate_left; refine gU rfl ?_; refine gU rfl ?_; refine gU rfl ?_; refine gU rfl ?_; apply gw_d; exact det_pick_f (v := .bool _) rfl rfl rfl rfl; refine gM rfl rfl (by conv => (lhs; whnf)) ?_; refine gN ?_; refine gM rfl rfl (by conv => (lhs; whnf)) ?_; apply gw_d; exact det_not_dec rfl rfl rfl; refine gM rfl rfl (by conv => (lhs; whnf)) ?_; refine gw_guard_dec rfl rfl (fun _ => ?_) (fun _ => ?_); refine gM rfl rfl (by conv => (lhs; whnf)) ?_; apply gw_d; exact det_not_ rfl rfl rfl; apply gw_d; exact det_pick_t (v := .bool _) rfl rfl rfl rfl; refine gO ?_; refine gc_if_true rfl ?_; refine gc_seq ?_; refine gc_region ?_; refine gM rfl rfl (by conv => (lhs; whnf)) ?_; refine gO ?_; refine gc_ret ?_; refine gx_block_ret ?_; refine gx_then_ret ?_; refine gx_then_ret ?_; refine gx_block_ret ?_; refine gx_then_ret ?_; rotate_left; refine gU rfl ?_; refine gU rfl ?_; apply gw_d; exact det_pick_f (v := .bool _) rfl rfl rfl rfl; refine gO ?_; refine gc_if_false rfl ?_; refine gc_skip ?_; refine gx_block ?_; refine gx_next ?_; refine gc_region ?_; apply gw_d; exact det_ar rfl rfl rfl rfl rfl (by omega); refine gM rfl rfl (by conv => (lhs; whnf)) ?_; refine gw_nil ?_; rotate_left; refine gU rfl ?_; refine gU rfl ?_; refine gU rfl ?_; refine gU rfl ?_; apply gw_d; exact det_pick_f (v := .bool _) rfl rfl rfl rfl; refine gM rfl rfl (by conv => (lhs; whnf)) ?_; refine gN ?_; refine gM rfl rfl (by conv => (lhs; whnf)) ?_; refine gM rfl rfl (by conv => (lhs; whnf)) ?_; apply gw_d; exact w_sidx rfl rfl rfl rfl (by with_reducible exact rfl) (by omega); refine gC rfl rfl rfl rfl rfl ?_; refine gM rfl rfl (by conv => (lhs; whnf)) ?_; refine gw_guard_dec rfl rfl (fun _ => ?_) (fun _ => ?_); refine gM rfl rfl (by conv => (lhs; whnf)) ?_; refine gM rfl rfl (by conv => (lhs; whnf)) ?_; apply gw_d; exact w_sidx rfl rfl rfl rfl (by with_reducible exact rfl) (by omega); refine gC rfl rfl rfl rfl rfl ?_; apply gw_d; exact det_pick_t (v := .bool _) rfl rfl rfl rfl; refine gM rfl rfl (by conv => (lhs; whnf)) ?_; refine gN ?_; refine gM rfl rfl (by conv => (lhs; whnf)) ?_; apply gw_d; exact det_not_ rfl rfl rfl; refine gM rfl rfl (by conv => (lhs; whnf)) ?_; refine gM rfl rfl (by conv => (lhs; whnf)) ?_; apply gw_d; exact det_not_dec rfl rfl rfl; apply gw_d; exact det_pick_t (v := .bool _) rfl rfl rfl rfl; refine gO ?_; refine gc_if_dec rfl (fun _ => ?_) (fun _ => ?_); refine gc_seq ?_; refine gc_region ?_; refine gM rfl rfl (by conv => (lhs; whnf)) ?_; refine gO ?_; refine gc_ret ?_; refine gx_block_ret ?_; refine gx_then_ret ?_; refine gx_then_ret ?_; refine gx_block_ret ?_; refine gx_then_ret ?_; rotate_left; refine gc_skip ?_; refine gx_block ?_; refine gx_next ?_; refine gc_region ?_; apply gw_d; exact det_ar rfl rfl rfl rfl rfl (by omega); refine gM rfl rfl (by conv => (lhs; whnf)) ?_; refine gw_nil ?_; rotate_left; refine gU rfl ?_; refine gU rfl ?_; refine gU rfl ?_; refine gU rfl ?_; apply gw_d; exact det_pick_f (v := .bool _) rfl rfl rfl rfl; refine gM rfl rfl (by conv => (lhs; whnf)) ?_; refine gN ?_; refine gM rfl rfl (by conv => (lhs; whnf)) ?_; apply gw_d; exact det_not_ rfl rfl rfl; refine gM rfl rfl (by conv => (lhs; whnf)) ?_; refine gM rfl rfl (by conv => (lhs; whnf)) ?_; apply gw_d; exact det_not_ rfl rfl rfl; apply gw_d; exact det_pick_t (v := .bool _) rfl rfl rfl rfl; refine gO ?_; refine gc_if_true rfl ?_; refine gc_seq ?_; refine gc_region ?_; refine gM rfl rfl (by conv => (lhs; whnf)) ?_; refine gO ?_; refine gc_ret ?_; refine gx_block_ret ?_; refine gx_then_ret ?_; refine gx_then_ret ?_; refine gx_block_ret ?_; refine gx_then_ret ?_; rotate_left; refine gc_exit ?_; refine gx_then_exit ?_; refine gx_then_exit ?_; refine gx_block_exit ?_; refine gx_next ?_; refine gc_seq ?_; refine gc_region ?_; refine gM rfl rfl (by conv => (lhs; whnf)) ?_; apply gw_d; exact w_len_str rfl rfl rfl; refine gC rfl rfl rfl rfl rfl ?_; refine gM rfl rfl (by conv => (lhs; whnf)) ?_; refine gw_guard_dec rfl rfl (fun _ => ?_) (fun _ => ?_); refine gM rfl rfl (by conv => (lhs; whnf)) ?_; apply gw_d; exact w_len_str rfl rfl rfl; refine gC rfl rfl rfl rfl rfl ?_; apply gw_d; exact det_pick_t (v := .bool _) rfl rfl rfl rfl; refine gM rfl rfl (by conv => (lhs; whnf)) ?_; refine gO ?_; refine gc_ret ?_; rotate_left; refine gU rfl ?_; refine gU rfl ?_; refine gU rfl ?_; apply gw_d; exact det_pick_f (v := .bool _) rfl rfl rfl rfl; refine gM rfl rfl (by conv => (lhs; whnf)) ?_; refine gO ?_; refine gc_ret ?_; rotate_left)
  all_goals first
    | exact gx_round (k + 1) ⟨by omega, sizes_snoc hI (sizeC_yes (by omega))⟩ (by omega) (by repeat (first | exact Keeps.refl | refine Keeps.upd rfl ?_ | refine Keeps.sets rfl ?_ | refine Keeps.havoc rfl ?_)) ⟨rfl, trivial⟩ .nil
    | (refine gx_ret1 (v := .bool _) rfl rfl (fun _ _ => ?_); rw [sizeB_no (k := k) (by omega) (sizeC_no (by omega))])
    | skip
  · refine gx_ret1 (v := .bool _) rfl rfl (fun _ _ => ?_)
    obtain rfl : k = s.size := by omega
    have h1 : 1 ≤ s.size := by omega
    unfold sizeB'
    rw [hI]
    by_cases h2 : s.size ≤ 8
    · have h3 : (s.size : Int) ≤ 8 := by omega
      simp [h1, h2, h3]
    · have h3 : ¬ (s.size : Int) ≤ 8 := by omega
      simp [h2, h3]
  · refine gx_ret1 (v := .bool _) rfl rfl (fun _ _ => ?_)
    have h1 : ¬ 1 ≤ s.size := by omega
    unfold sizeB'
    simp only [h1, decide_false, Bool.false_and]
theorem isIndex0_ok (w : World) (A : Option Addr) : Ok Tryz.prog 137 [.agg #[.slice A 1 1, .int .i64 0, .slice none 0 0], .int .i64 0].toArray w fun r _ => r = .bool true := by
  refine ok_enter Tryz.func137 rfl Tryz.ntmps137 rfl ?_
  focus (refine gc_seq ?_; refine gc_region ?_; refine gw_boxd (v := .agg _) rfl rfl (fun _ => ?_); refine gM rfl rfl (by conv => (lhs; whnf)) ?_; refine gN ?_; refine gM rfl rfl (by conv => (lhs; whnf)) ?_; refine gC rfl rfl rfl rfl rfl ?_; refine gM rfl rfl (by conv => (lhs; whnf)) ?_; refine gM rfl rfl (by conv => (lhs; whnf)) ?_; refine gF rfl rfl rfl ?_; apply gw_d; exact w_load_box rfl rfl rfl .here rfl; refine gL rfl rfl rfl ?_; refine gC rfl rfl rfl rfl rfl ?_; apply gw_d; exact det_pick_t (v := .bool _) rfl rfl rfl rfl; refine gM rfl rfl (by conv => (lhs; whnf)) ?_; refine gO ?_; refine gc_ret ?_)
  refine gx_ret1 (v := .bool _) rfl rfl (fun _ _ => ?_)
  rfl
theorem chartCheck_ok (w : World) (ad : Addr) (s : ByteArray) (hs : s.size ≤ 9223372036854775807) (hb : ad.block < w.heap.size) (hc : w.cell? (ad.add 0) = some (.string s)) :
    Ok Tryz.prog 115 [.agg #[.slice (some ad) 1 1, .int .i64 0, .slice none 0 0]].toArray w fun r _ => r = .int .i64 (if sizeB' s = true then 0 else 1) := by
  refine ok_enter Tryz.func115 rfl Tryz.ntmps115 rfl ?_
  focus (refine gc_seq ?_; refine gc_region ?_; refine gw_boxd (v := .agg _) rfl rfl (fun _ => ?_); refine gM rfl rfl (by conv => (lhs; whnf)) ?_; refine gO ?_; refine gc_seq ?_; refine gc_seq ?_; refine gc_region ?_; refine gF rfl rfl rfl ?_; apply gw_d; exact w_load_box rfl rfl rfl .here rfl; refine gL rfl rfl rfl ?_; refine gC rfl rfl rfl rfl rfl ?_; refine gM rfl rfl (by conv => (lhs; whnf)) ?_; refine gF rfl rfl rfl ?_; apply gw_d; exact w_load_box rfl rfl rfl .here rfl; refine gL rfl rfl rfl ?_; refine gC rfl rfl rfl rfl rfl ?_; apply gw_d; exact det_pick_f (v := .bool _) rfl rfl rfl rfl; refine gO ?_)
  refine gc_if_dec rfl (fun h => absurd h (by decide)) (fun _ => ?_)
  focus (refine gc_skip ?_; refine gx_next ?_; refine gc_seq ?_; refine gc_seq ?_; refine gc_region ?_; refine gF rfl rfl rfl ?_; apply gw_d; exact w_load_box rfl rfl rfl .here rfl; refine gL rfl rfl rfl ?_; refine gC rfl rfl rfl rfl rfl ?_; refine gO ?_)
  refine gc_if_dec rfl (fun h => absurd h (by decide)) (fun _ => ?_)
  focus (refine gc_skip ?_; refine gx_next ?_; refine gc_seq ?_; refine gc_seq ?_; refine gc_region ?_; refine gF rfl rfl rfl ?_; apply gw_d; exact w_load_box rfl rfl rfl .here rfl; refine gL rfl rfl rfl ?_; refine gM rfl rfl (by conv => (lhs; whnf)) ?_; refine gO ?_; refine gc_block ?_)
  refine gc_loopK (σ := Nat) [29, 30, 31, 4, 32, 33, 34, 2, 35, 28] (fun k => [(28, .int .i64 k)]) (fun k => k ≤ 1 ∧ (1 ≤ k → sizeB' s = true)) (fun k => 1 - k) 0 ⟨Nat.zero_le _, fun h => absurd h (by decide)⟩ ⟨rfl, trivial⟩ ?_
  rintro k base ⟨hk, hI⟩
  focus (refine gc_seq ?_; refine gc_region ?_; refine gC rfl rfl rfl rfl rfl ?_; refine gO ?_; refine gc_seq ?_)
  refine gc_if_dec rfl (fun h => ?_) (fun h => ?_)
  · obtain rfl : k = 0 := by omega
    focus (refine gc_skip ?_; refine gx_next ?_; refine gc_seq ?_; refine gc_block ?_; refine gc_seq ?_; refine gc_region ?_; apply gw_d; exact w_index rfl rfl rfl rfl (by with_reducible exact rfl) (by omega); apply gw_d; exact w_load_at rfl rfl rfl (by assumption) (by assumption); refine gM rfl rfl (by conv => (lhs; whnf)) ?_; refine gN ?_; refine gM rfl rfl (by conv => (lhs; whnf)) ?_; apply gw_d; exact w_call rfl rfl (fun w _ => chartSize_ok w s hs) rfl; apply gw_d; exact det_not_ rfl rfl rfl; refine gO ?_)
    refine gc_if rfl (fun h => ?_) (fun h => ?_)
    · focus (refine gc_seq ?_; refine gc_region ?_; refine gM rfl rfl (by conv => (lhs; whnf)) ?_; refine gO ?_; refine gc_ret ?_; refine gx_block_ret ?_; refine gx_then_ret ?_; refine gx_then_ret ?_; refine gx_block_ret ?_; refine gx_then_ret ?_)
      refine gx_ret1 (v := .int _ _) rfl rfl (fun _ _ => ?_)
      simp at h
      rw [h]
      rfl
    · focus (refine gc_skip ?_; refine gx_block ?_; refine gx_next ?_; refine gc_region ?_; apply gw_d; exact det_ar rfl rfl rfl rfl rfl (by omega); refine gM rfl rfl (by conv => (lhs; whnf)) ?_; refine gw_nil ?_)
      exact gx_round 1 ⟨Nat.le_refl _, fun _ => by simpa using h⟩ (by decide) (by repeat (first | exact Keeps.refl | refine Keeps.upd rfl ?_ | refine Keeps.sets rfl ?_ | refine Keeps.havoc rfl ?_)) ⟨rfl, trivial⟩ (Sub.all _)
  · obtain rfl : k = 1 := by omega
    have hS := hI (Nat.le_refl _)
    focus (refine gc_exit ?_; refine gx_then_exit ?_; refine gx_then_exit ?_; refine gx_block_exit ?_; refine gx_next ?_; refine gc_seq ?_; refine gc_seq ?_; refine gc_region ?_; refine gF rfl rfl rfl ?_; apply gw_d; exact w_load_box rfl rfl rfl .here rfl; refine gL rfl rfl rfl ?_; refine gM rfl rfl (by conv => (lhs; whnf)) ?_; refine gO ?_; refine gc_block ?_)
    refine gc_loopK (σ := Unit) [40, 41, 42, 6, 43, 44, 45, 46, 47, 48, 49, 50, 51, 52, 53, 54, 55, 56, 57, 58, 59, 60, 61, 62, 63, 64, 2, 65, 39] (fun _ => [(39, .int .i64 0)]) (fun _ => True) (fun _ => 0) () trivial ⟨rfl, trivial⟩ ?_
    rintro _ _ -
    focus (refine gc_seq ?_; refine gc_region ?_; refine gC rfl rfl rfl rfl rfl ?_; refine gO ?_; refine gc_seq ?_)
    refine gc_if_dec rfl (fun h => absurd h (by decide)) (fun _ => ?_)
    focus (refine gc_exit ?_; refine gx_then_exit ?_; refine gx_then_exit ?_; refine gx_block_exit ?_; refine gx_next ?_; refine gc_seq ?_; refine gc_seq ?_; refine gc_region ?_; refine gF rfl rfl rfl ?_; apply gw_d; exact w_load_box rfl rfl rfl .here rfl; refine gL rfl rfl rfl ?_; refine gM rfl rfl (by conv => (lhs; whnf)) ?_; refine gO ?_; refine gc_block ?_)
    refine gc_loopK (σ := Nat) [70, 71, 72, 73, 7, 8, 74, 75, 76, 77, 78, 79, 2, 80, 69] (fun k => [(69, .int .i64 k)]) (fun k => k ≤ 1) (fun k => 1 - k) 0 (Nat.zero_le _) ⟨rfl, trivial⟩ ?_
    rintro k base2 hk2
    focus (refine gc_seq ?_; refine gc_region ?_; refine gC rfl rfl rfl rfl rfl ?_; refine gO ?_; refine gc_seq ?_)
    refine gc_if_dec rfl (fun h => ?_) (fun h => ?_)
    · obtain rfl : k = 0 := by omega
      focus (refine gc_skip ?_; refine gx_next ?_; refine gc_seq ?_; refine gc_block ?_; refine gc_seq ?_; refine gc_region ?_; refine gM rfl rfl (by conv => (lhs; whnf)) ?_; apply gw_d; exact w_index rfl rfl rfl rfl (by with_reducible exact rfl) (by omega); apply gw_d; exact w_load_at rfl rfl rfl (by assumption) (by assumption); refine gM rfl rfl (by conv => (lhs; whnf)) ?_; refine gM rfl rfl (by conv => (lhs; whnf)) ?_; refine gN ?_; refine gF rfl rfl rfl ?_; apply gw_d; exact w_load_box rfl rfl rfl .here rfl; refine gM rfl rfl (by conv => (lhs; whnf)) ?_; apply gw_d; exact w_cut_hi rfl rfl rfl rfl (by with_reducible exact rfl) (by omega); refine gM rfl rfl (by conv => (lhs; whnf)) ?_; apply gw_d; exact w_call rfl rfl (fun w _ => containsStr0_ok w _ _ _) rfl; refine gO ?_)
      refine gc_if_false rfl ?_
      focus (refine gc_skip ?_; refine gx_block ?_; refine gx_next ?_; refine gc_region ?_; apply gw_d; exact det_ar rfl rfl rfl rfl rfl (by omega); refine gM rfl rfl (by conv => (lhs; whnf)) ?_; refine gw_nil ?_)
      exact gx_round 1 (Nat.le_refl _) (by decide) (by repeat (first | exact Keeps.refl | refine Keeps.upd rfl ?_ | refine Keeps.sets rfl ?_ | refine Keeps.havoc rfl ?_)) ⟨rfl, trivial⟩ (Sub.all _)
    · obtain rfl : k = 1 := by omega
      focus (refine gc_exit ?_; refine gx_then_exit ?_; refine gx_then_exit ?_; refine gx_block_exit ?_; refine gx_next ?_; refine gc_seq ?_; refine gc_seq ?_; refine gc_region ?_; refine gF rfl rfl rfl ?_; apply gw_d; exact w_load_box rfl rfl rfl .here rfl; refine gL rfl rfl rfl ?_; refine gM rfl rfl (by conv => (lhs; whnf)) ?_; refine gO ?_; refine gc_block ?_)
      refine gc_loopK (σ := Unit) [85, 86, 87, 88, 10, 9, 89, 90, 91, 92, 93, 94, 95, 96, 2, 97, 84] (fun _ => [(84, .int .i64 0)]) (fun _ => True) (fun _ => 0) () trivial ⟨rfl, trivial⟩ ?_
      rintro _ _ -
      focus (refine gc_seq ?_; refine gc_region ?_; refine gC rfl rfl rfl rfl rfl ?_; refine gO ?_; refine gc_seq ?_)
      refine gc_if_dec rfl (fun h => absurd h (by decide)) (fun _ => ?_)
      focus (refine gc_exit ?_; refine gx_then_exit ?_; refine gx_then_exit ?_; refine gx_block_exit ?_; refine gx_next ?_; refine gc_seq ?_; refine gc_seq ?_; refine gc_region ?_; apply gw_d; exact w_load_boxN rfl rfl rfl .here rfl; refine gF rfl rfl rfl ?_; apply gw_d; exact w_load_box rfl rfl rfl .here rfl)
      focus (apply gw_d; exact w_call rfl rfl (fun w _ => isIndex0_ok w _) rfl; apply gw_d; exact det_not_ rfl rfl rfl; refine gO ?_)
      refine gc_if_false rfl ?_
      focus (refine gc_skip ?_; refine gx_next ?_; refine gc_seq ?_; refine gc_region ?_; refine gM rfl rfl (by conv => (lhs; whnf)) ?_; refine gO ?_; refine gc_ret ?_)
      refine gx_ret1 (v := .int _ _) rfl rfl (fun _ _ => ?_)
      rw [if_pos hS]
theorem styleSize_ok (w : World) (s : ByteArray) (hs : s.size ≤ 9223372036854775807) : Ok Tryz.prog 102 [.string s].toArray w fun r _ => r = .bool (sizeB' s) := by
  refine ok_enter Tryz.func102 rfl Tryz.ntmps102 rfl ?_
  focus (refine gc_seq ?_; refine gc_region ?_; refine gM rfl rfl (by conv => (lhs; whnf)) ?_; refine gN ?_; refine gM rfl rfl (by conv => (lhs; whnf)) ?_)
  refine gw_bslice1 rfl rfl rfl rfl rfl (fun b => ?_)
  focus (apply gw_d; exact w_build (cells := #[.slice (some ⟨b, 0, none⟩) 1 1, .int .i64 0, .slice none 0 0]) rfl rfl (by kernel_rfl); apply gw_d; exact w_call rfl rfl (fun w s => chartCheck_ok w ⟨b, 0, none⟩ _ hs (s.sep.fp _ List.mem_cons_self b rfl).2 (Box.cell s.head 0)) rfl; refine gC rfl rfl rfl rfl rfl ?_; refine gM rfl rfl (by conv => (lhs; whnf)) ?_; refine gO ?_; refine gc_ret ?_)
  refine gx_ret1 (v := .bool _) rfl rfl (fun _ _ => ?_)
  rw [name_eq]
end Go.Proofs.YtckhibfbdnoigaaGreatDoor

/- Contracts: outlines. -/
namespace Go.Proofs.YtckhibfbdnoigaaGreatDoor
open Go.RowKit
set_option maxRecDepth 100000
set_option maxHeartbeats 2000000


/-- The first error of f 0, f 1, .. -/
def firstE (f : Nat → Int) : Nat → Int
  | 0 => 0
  | n + 1 => if firstE f n = 0 then f n else firstE f n
theorem firstE_snoc {f : Nat → Int} {k : Nat} (h : firstE f k = 0) (hf : f k = 0) : firstE f (k + 1) = 0 := by
  show (if firstE f k = 0 then f k else firstE f k) = 0
  rw [if_pos h, hf]
theorem firstE_stop {f : Nat → Int} {k : Nat} (h : firstE f k = 0) (hf : ¬ f k = 0) : ∀ {n}, k < n → firstE f n = f k
  | 0, hn => by omega
  | n + 1, hn => by
    show (if firstE f n = 0 then f n else firstE f n) = f k
    by_cases he : n = k
    · subst he; rw [if_pos h]
    · have := firstE_stop h hf (n := n) (by omega)
      rw [this, if_neg hf]
theorem firstE_at {f : Nat → Int} : ∀ {n}, firstE f n = 0 → ∀ k, k < n → f k = 0
  | 0, _, k, hk => by omega
  | n + 1, h, k, hk => by
    have h' : (if firstE f n = 0 then f n else firstE f n) = 0 := h
    split at h'
    · rename_i h0
      by_cases he : k = n
      · rw [he]; exact h'
      · exact firstE_at h0 k (by omega)
    · rename_i h0; exact absurd h' h0

/-! ### Edges -/
abbrev Edg := ByteArray × List (Int × Int)
def rEdge : Rp Edg where
  size := 2
  rep w S p cs := ∃ v, cs = [.string p.1, v] ∧ p.1.size ≤ maxLen ∧ SlS rSpot w S v p.2
  len h := by obtain ⟨v, rfl, _⟩ := h; rfl
  mono hb h := by obtain ⟨v, h0, h1, h2⟩ := h; exact ⟨v, h0, h1, h2.mono hb⟩
  grow hB h := by obtain ⟨v, h0, h1, h2⟩ := h; exact ⟨v, h0, h1, h2.grow hB⟩
def gE (l : List Edg) (k : Nat) : Edg := l.getD k (ByteArray.empty, [])
theorem gE_get {l : List Edg} {k : Nat} (hk : k < l.length) : gE l k = l[k] := by
  unfold gE
  simp [hk]
theorem Sl.edge' {w : World} {B : Nat} {v : Value} {l : List Edg} (h : Sl rEdge w B v l) (hl : 0 < l.length) : ∃ ad c, v = .slice (some ad) l.length c ∧ l.length ≤ c ∧ l.length ≤ 9223372036854775807 ∧ ad.block < B ∧
    ∀ k (_ : k < l.length), ∃ A' c', (∀ j u, [Value.string (gE l k).1, Value.slice A' (gE l k).2.length c'][j]? = some u → w.cell? (ad.add (k * 2 + j)) = some u) ∧ (gE l k).1.size ≤ 9223372036854775807 ∧
      (gE l k).2.length ≤ c' ∧ (gE l k).2.length ≤ 9223372036854775807 ∧ Sl rSpot w B (.slice A' (gE l k).2.length c') (gE l k).2 := by
  obtain ⟨A, c, hv, h1, h2, h3⟩ := h
  obtain ⟨ad, _, ha, hlt, _⟩ := h3 0 hl
  subst ha
  refine ⟨ad, c, hv, h1, by unfold maxLen at h2; omega, hlt, fun k hk => ?_⟩
  obtain ⟨ad', cs, ha, _, hc, u, rfl, hs, hsl⟩ := h3 k hk
  injection ha with ha
  subst ha
  rw [gE_get hk]
  obtain ⟨A', c', rfl, h4, h5⟩ := len_small hsl
  exact ⟨A', c', hc, by unfold maxLen at hs; omega, h4, h5, hsl⟩
theorem Sl.spots_in {w : World} {B : Nat} {v : Value} {l : List (Int × Int)} (h : Sl rSpot w B v l) : ∀ p ∈ l, inI64 p.1 ∧ inI64 p.2 := fun p hp => by
  obtain ⟨A, c, _, _, _, h3⟩ := h
  obtain ⟨k, hk, rfl⟩ := List.getElem_of_mem hp
  obtain ⟨_, _, _, _, _, hr⟩ := h3 k hk
  exact hr.2
theorem Sl.edges_in {w : World} {B : Nat} {v : Value} {l : List Edg} (h : Sl rEdge w B v l) : ∀ x ∈ l, ∃ u, Sl rSpot w B u x.2 := fun p hp => by
  obtain ⟨A, c, _, _, _, h3⟩ := h
  obtain ⟨k, hk, rfl⟩ := List.getElem_of_mem hp
  obtain ⟨_, _, _, _, _, u, _, _, hr⟩ := h3 k hk
  exact ⟨u, hr⟩

/-! ### Slices of spots as one row of cells -/
def encS (p : Int × Int) : List Value := [.int .i64 p.1, .int .i64 p.2]
theorem encS_len (l : List (Int × Int)) : (l.flatMap encS).length = l.length * 2 := by
  induction l with
  | nil => rfl
  | cons p l ih => rw [List.flatMap_cons, List.length_append, ih]; simp [encS]; omega
theorem encS_one (l : List (Int × Int)) : ∀ u ∈ l.flatMap encS, u.oneCell' = true := fun u hu => by
  rw [List.mem_flatMap] at hu
  obtain ⟨p, _, hu⟩ := hu
  simp only [encS, List.mem_cons, List.not_mem_nil, or_false] at hu
  rcases hu with rfl | rfl <;> rfl
theorem Sl.row {w : World} {B : Nat} {A : Option Addr} {n c : Nat} {l : List (Int × Int)} (h : Sl rSpot w B (.slice A n c) l) (hl : 0 < l.length) : ∃ ad, A = some ad ∧ ∀ j u, (l.flatMap encS)[j]? = some u → w.cell? (ad.add j) = some u := by
  obtain ⟨ad, c', hv, _, _, _, hcell⟩ := h.spot' hl
  injection hv with e1 e2 e3
  subst e1
  refine ⟨ad, rfl, fun j u hu => ?_⟩
  have hj : j < (l.flatMap encS).length := (List.getElem?_eq_some_iff.1 hu).1
  rw [encS_len] at hj
  have hk : j / 2 < l.length := by omega
  have h2 := flat_get (enc := encS) (sz := 2) l (fun _ _ => rfl) (j / 2) hk (j % 2) (by omega)
  rw [show j / 2 * 2 + j % 2 = j by omega, hu] at h2
  have h3 := hcell (j / 2) hk (j % 2) u (by rw [gS_get hk]; exact h2.symm)
  rwa [show j / 2 * 2 + j % 2 = j by omega] at h3

/-! ### Vertices -/
def vertsOf (l : List Edg) : List (Int × Int) := l.flatMap fun x => x.2.dropLast
theorem verts_snoc {l : List Edg} {k : Nat} (hk : k < l.length) : vertsOf (l.take (k + 1)) = vertsOf (l.take k) ++ (gE l k).2.dropLast := by
  unfold vertsOf
  rw [List.take_succ_eq_append_getElem hk, List.flatMap_append, gE_get hk]
  simp
theorem verts_le {l : List Edg} (h : ∀ x ∈ l, x.2.length ≤ 40) : (vertsOf l).length ≤ l.length * 40 := by
  induction l with
  | nil => simp [vertsOf]
  | cons x l ih =>
    have h1 := h x List.mem_cons_self
    have h2 := ih fun y hy => h y (List.mem_cons_of_mem _ hy)
    unfold vertsOf at *
    rw [List.flatMap_cons, List.length_append, List.length_dropLast, List.length_cons]
    omega
theorem verts_in {w : World} {B : Nat} {v : Value} {l : List Edg} (h : Sl rEdge w B v l) : ∀ p ∈ vertsOf l, inI64 p.1 ∧ inI64 p.2 := fun p hp => by
  unfold vertsOf at hp
  rw [List.mem_flatMap] at hp
  obtain ⟨x, hx, hp⟩ := hp
  obtain ⟨u, hu⟩ := h.edges_in x hx
  exact hu.spots_in p (List.dropLast_subset _ hp)

theorem vertices_ok (w : World) (v : Value) (l : List Edg) (hl : Sl rEdge w w.heap.size v l) (h0 : 0 < l.length) (h16 : l.length ≤ 16) (hlen : ∀ x ∈ l, 1 ≤ x.2.length ∧ x.2.length ≤ 40) :
    OkM Tryz.prog 141 [v].toArray w (fun x : Option Addr × Nat => .slice x.1 (vertsOf l).length x.2) (fun x => [Own x.1 (vertsOf l).length x.2 106 2 ((vertsOf l).flatMap encS)]) := by
  obtain ⟨ad, c, rfl, hc, hm, hb, hcell⟩ := hl.edge' h0
  unfold OkM
  refine ok_enter Tryz.func141 rfl Tryz.ntmps141 rfl ?_
  refine gc_own0 106 2 ?_
  focus (refine gc_seq ?_; refine gc_region ?_; refine gM rfl rfl (by conv => (lhs; whnf)) ?_; refine gN ?_; refine gM rfl rfl (by conv => (lhs; whnf)) ?_; refine gO ?_; refine gc_seq ?_; refine gc_seq ?_; refine gc_region ?_; refine gM rfl rfl (by conv => (lhs; whnf)) ?_; refine gL rfl rfl rfl ?_; refine gM rfl rfl (by conv => (lhs; whnf)) ?_; refine gO ?_; refine gc_block ?_)
  refine gc_loop (σ := Nat × Option Addr × Nat) [9, 10, 11, 5, 12, 13, 14, 15, 16, 17, 18, 19, 20, 3, 21, 8] (fun s => [(3, .slice s.2.1 (vertsOf (l.take s.1)).length s.2.2), (8, .int .i64 s.1)]) (fun s => [Own s.2.1 (vertsOf (l.take s.1)).length s.2.2 106 2 ((vertsOf (l.take s.1)).flatMap encS)])
    (fun s => s.1 ≤ l.length) (fun s => l.length - s.1) (0, none, 0) (Nat.zero_le _) ⟨rfl, rfl, trivial⟩ (.cons .here .nil) ?_
  rintro ⟨k, A, c2⟩ base hk
  dsimp only at hk ⊢
  focus (refine gc_seq ?_; refine gc_region ?_; refine gC rfl rfl rfl rfl rfl ?_; refine gO ?_; refine gc_seq ?_)
  refine gc_if_dec rfl (fun h => ?_) (fun h => ?_)
  · have hlt : k < l.length := by omega
    obtain ⟨A1, c1, hce, hsz, hc1, hm1, hsl⟩ := hcell k hlt
    obtain ⟨h1, h2⟩ := hlen _ (by rw [gE_get hlt]; exact List.getElem_mem hlt : gE l k ∈ l)
    have hv := verts_snoc hlt
    have hn : (vertsOf (l.take (k + 1))).length = (vertsOf (l.take k)).length + ((gE l k).2.length - 1) := by rw [hv, List.length_append, List.length_dropLast]
    have hle := verts_le (l := l.take k) (fun x hx => (hlen x (List.mem_of_mem_take hx)).2)
    rw [List.length_take] at hle
    have hlast : (gE l k).2.dropLast = (gE l k).2.take ((gE l k).2.length - 1) := List.dropLast_eq_take
    have hsl2 := hsl.take (m := (gE l k).2.length - 1) (by omega)
    focus (refine gc_skip ?_; refine gx_next ?_; refine gc_seq ?_; refine gc_block ?_; refine gc_seq ?_; refine gc_region ?_; apply gw_d; exact w_index rfl rfl rfl rfl (by with_reducible exact rfl) (by omega); apply gw_d; exact w_load_elem rfl rfl rfl (by assumption) (by assumption) (by rfl); refine w_alloc rfl (fun _ => ?_); refine w_store_all rfl rfl rfl rfl rfl .here rfl ?_; refine gO ?_; refine gc_region ?_; refine gM rfl rfl (by conv => (lhs; whnf)) ?_; refine gF rfl rfl rfl ?_; apply gw_d; exact w_load_box rfl rfl rfl .here rfl; refine gF rfl rfl rfl ?_; apply gw_d; exact w_load_box rfl rfl rfl .here rfl; refine gL rfl rfl rfl ?_; apply gw_d; exact det_ar rfl rfl rfl rfl rfl (by omega); apply gw_d; exact w_cut_hi rfl rfl rfl rfl (by with_reducible exact castS (by omega)) (by omega))
    refine gw_append (news := ((gE l k).2.dropLast).flatMap encS) rfl rfl rfl (.there .here) (by rw [encS_len, List.length_dropLast]) (fun w' s hpos => ?_) (encS_one _) (by unfold maxLen; omega) (by omega) (by decide) rfl (fun A2 c3 => ?_)
    · rw [hlast]
      exact (hsl2.later s).row (by rw [List.length_take]; omega)
    · focus (refine gM rfl rfl (by conv => (lhs; whnf)) ?_; refine gw_nil ?_; refine gx_block ?_; refine gx_next ?_; refine gc_region ?_; apply gw_d; exact det_ar rfl rfl rfl rfl rfl (by omega); refine gM rfl rfl (by conv => (lhs; whnf)) ?_; refine gw_nil ?_)
      exact gx_round (k + 1, A2, c3) (by dsimp only; omega) (by dsimp only; omega) (by repeat (first | exact Keeps.refl | refine Keeps.upd rfl ?_ | refine Keeps.sets rfl ?_ | refine Keeps.havoc rfl ?_)) ⟨by rw [hn]; rfl, rfl, trivial⟩ (by rw [hn, hv, List.flatMap_append]; exact .cons .here .nil)
  · obtain rfl : k = l.length := by omega
    rw [List.take_length]
    focus (refine gc_exit ?_; refine gx_then_exit ?_; refine gx_then_exit ?_; refine gx_block_exit ?_; refine gx_next ?_; refine gc_seq ?_; refine gc_region ?_; refine gM rfl rfl (by conv => (lhs; whnf)) ?_; refine gM rfl rfl (by conv => (lhs; whnf)) ?_; refine gO ?_; refine gc_ret ?_)
    exact gx_ret1 rfl rfl fun w s => ⟨(A, c2), rfl, s.sep⟩
end Go.Proofs.YtckhibfbdnoigaaGreatDoor

/- Contracts: outlines are checked. -/
namespace Go.Proofs.YtckhibfbdnoigaaGreatDoor
open Go.RowKit
set_option maxRecDepth 100000
set_option maxHeartbeats 4000000

def eqS (p q : ByteArray) : Bool := p.toList == q.toList
def oldName (l : List Edg) (k n : Nat) : Bool := (l.take n).any fun x => eqS x.1 (gE l k).1
def edgeE (l : List Edg) (k : Nat) : Int := if nameB (gE l k).1 = true then if oldName l k k = true then 7 else plineE (gE l k).2 else 1
def gapAt (l : List Edg) (i : Nat) : Bool := decide (¬ gS (gE l i).2 ((gE l i).2.length - 1) = gS (gE l ((i + 1) % l.length)).2 0)
def gapB (l : List Edg) (n : Nat) : Bool := (List.range n).any (gapAt l)
def outlineE (l : List Edg) : Int := if 16 < l.length then 5 else if l.length < 2 then 11 else if firstE (edgeE l) l.length = 0 then if gapB l l.length = true then 11 else polyE (vertsOf l) else firstE (edgeE l) l.length

theorem old_snoc {l : List Edg} {k n : Nat} (hn : n < l.length) (h : oldName l k n = false) (hp : eqS (gE l n).1 (gE l k).1 = false) : oldName l k (n + 1) = false := by
  unfold oldName at *
  rw [List.take_succ_eq_append_getElem hn, List.any_append, h]
  rw [gE_get hn] at hp
  simp [hp]
theorem old_yes {l : List Edg} {k n m : Nat} (hn : n < l.length) (hm : n < m) (hp : eqS (gE l n).1 (gE l k).1 = true) : oldName l k m = true := by
  unfold oldName
  rw [List.any_eq_true]
  refine ⟨gE l n, ?_, hp⟩
  rw [gE_get hn, List.mem_take_iff_getElem]
  exact ⟨n, by omega, rfl⟩
theorem pline_len {l : List (Int × Int)} (h : plineE l = 0) : 2 ≤ l.length ∧ l.length ≤ 40 := by
  unfold plineE at h
  split at h
  · cases h
  · split at h
    · cases h
    · omega
theorem edge_pline {l : List Edg} {k : Nat} (h : edgeE l k = 0) : plineE (gE l k).2 = 0 := by
  unfold edgeE at h
  split at h
  · split at h
    · cases h
    · exact h
  · cases h

theorem outline_ok (w : World) (v : Value) (l : List Edg) (hl : Sl rEdge w w.heap.size v l) : Ok Tryz.prog 117 [v].toArray w fun r _ => r = .int .i64 (outlineE l) := by
  by_cases hlen : 2 ≤ l.length
  · obtain ⟨ad, c, rfl, hc, hm, hb, hcell⟩ := hl.edge' (by omega)
    have h2 : ¬ l.length < 2 := by omega
    refine ok_enter Tryz.func117 rfl Tryz.ntmps117 rfl ?_
    focus (refine gc_seq ?_; refine gc_region ?_; refine gM rfl rfl (by conv => (lhs; whnf)) ?_; refine gO ?_; refine gc_seq ?_; refine gc_seq ?_; refine gc_region ?_; refine gM rfl rfl (by conv => (lhs; whnf)) ?_; refine gL rfl rfl rfl ?_; refine gC rfl rfl rfl rfl rfl ?_; refine gO ?_)
    refine gc_if_dec rfl (fun h => ?_) (fun h => ?_)
    · focus (refine gc_seq ?_; refine gc_region ?_; refine gM rfl rfl (by conv => (lhs; whnf)) ?_; refine gO ?_; refine gc_ret ?_; refine gx_then_ret ?_)
      refine gx_ret1 (v := .int _ _) rfl rfl (fun _ _ => ?_)
      have : 16 < l.length := by omega
      simp [outlineE, this]
    have h16 : ¬ 16 < l.length := by omega
    focus (refine gc_skip ?_; refine gx_next ?_; refine gc_seq ?_; refine gc_seq ?_; refine gc_region ?_; refine gM rfl rfl (by conv => (lhs; whnf)) ?_; refine gL rfl rfl rfl ?_; refine gC rfl rfl rfl rfl rfl ?_; refine gO ?_)
    refine gc_if_dec rfl (fun h => by omega) (fun _ => ?_)
    focus (refine gc_skip ?_; refine gx_next ?_; refine gc_seq ?_; refine gc_seq ?_; refine gc_region ?_; refine gM rfl rfl (by conv => (lhs; whnf)) ?_; refine gL rfl rfl rfl ?_; refine gM rfl rfl (by conv => (lhs; whnf)) ?_; refine gO ?_; refine gc_block ?_)
    refine gc_loop (σ := Nat) [20, 21, 22, 23, 4, 3, 24, 25, 26, 27, 2, 28, 29, 30, 31, 32, 33, 34, 35, 6, 36, 37, 38, 39, 40, 41, 42, 43, 44, 7, 45, 46, 47, 48, 19] (fun k => [(19, .int .i64 k)]) (fun _ => []) (fun k => k ≤ l.length ∧ firstE (edgeE l) k = 0) (fun k => l.length - k) 0 ⟨Nat.zero_le _, rfl⟩ ⟨rfl, trivial⟩ .nil ?_
    rintro k base ⟨hk, hI⟩
    focus (refine gc_seq ?_; refine gc_region ?_; refine gC rfl rfl rfl rfl rfl ?_; refine gO ?_; refine gc_seq ?_)
    refine gc_if_dec rfl (fun h => ?_) (fun h => ?_)
    · have hlt : k < l.length := by omega
      obtain ⟨A1, c1, hce, hsz, hc1, hm1, hsl⟩ := hcell k hlt
      have hstop : ¬ edgeE l k = 0 → outlineE l = edgeE l k := fun hne => by
        have h3 := firstE_stop hI hne hlt
        unfold outlineE
        rw [if_neg h16, if_neg h2, h3, if_neg hne]
      focus (refine gc_skip ?_; refine gx_next ?_; refine gc_seq ?_; refine gc_block ?_; refine gc_seq ?_; refine gc_region ?_; refine gM rfl rfl (by conv => (lhs; whnf)) ?_; apply gw_d; exact w_index rfl rfl rfl rfl (by with_reducible exact rfl) (by omega); apply gw_d; exact w_load_elem rfl rfl rfl (by assumption) (by assumption) (by rfl); refine w_alloc rfl (fun _ => ?_); refine gM rfl rfl (by conv => (lhs; whnf)) ?_; refine w_store_all rfl rfl rfl rfl rfl .here rfl ?_; refine gO ?_; refine gc_seq ?_; refine gc_seq ?_; refine gc_region ?_; refine gF rfl rfl rfl ?_; apply gw_d; exact w_load_box rfl rfl rfl .here rfl; apply gw_d; exact w_call rfl rfl (fun w s => outlineName_ok w _ hsz) rfl; apply gw_d; exact det_not_ rfl rfl rfl; refine gO ?_)
      refine gc_if rfl (fun h3 => ?_) (fun h3 => ?_)
      · focus (refine gc_seq ?_; refine gc_region ?_; refine gM rfl rfl (by conv => (lhs; whnf)) ?_; refine gO ?_; refine gc_ret ?_; refine gx_then_ret ?_; refine gx_block_ret ?_; refine gx_then_ret ?_; refine gx_then_ret ?_; refine gx_block_ret ?_; refine gx_then_ret ?_)
        refine gx_ret1 (v := .int _ _) rfl rfl (fun _ _ => ?_)
        have : edgeE l k = 1 := by unfold edgeE; rw [if_neg (by simpa using h3)]
        rw [hstop (by rw [this]; decide), this]
      have hname : nameB (gE l k).1 = true := by simpa using h3
      focus (refine gc_skip ?_; refine gx_next ?_; refine gc_seq ?_; refine gc_seq ?_; refine gc_region ?_; refine gM rfl rfl (by conv => (lhs; whnf)) ?_; refine gM rfl rfl (by conv => (lhs; whnf)) ?_; apply gw_d; exact w_cut_hi rfl rfl rfl rfl (by with_reducible exact rfl) (by omega); refine gL rfl rfl rfl ?_; refine gM rfl rfl (by conv => (lhs; whnf)) ?_; refine gO ?_; refine gc_block ?_)
      refine gc_loopK (σ := Nat) [33, 34, 35, 6, 36, 37, 38, 39, 40, 2, 41, 32] (fun j => [(32, .int .i64 j)]) (fun j => j ≤ k ∧ oldName l k j = false) (fun j => k - j) 0 ⟨Nat.zero_le _, rfl⟩ ⟨rfl, trivial⟩ ?_
      rintro j base2 ⟨hj, hJ⟩
      focus (refine gc_seq ?_; refine gc_region ?_; refine gC rfl rfl rfl rfl rfl ?_; refine gO ?_; refine gc_seq ?_)
      refine gc_if_dec rfl (fun h4 => ?_) (fun h4 => ?_)
      · have hjl : j < l.length := by omega
        obtain ⟨A2, c2, hce2, _, _, _, _⟩ := hcell j hjl
        focus (refine gc_skip ?_; refine gx_next ?_; refine gc_seq ?_; refine gc_block ?_; refine gc_seq ?_; refine gc_region ?_; apply gw_d; exact w_index rfl rfl rfl rfl (by with_reducible exact rfl) (by omega); apply gw_d; exact w_load_elem rfl rfl rfl (by assumption) (by assumption) (by rfl); refine w_alloc rfl (fun _ => ?_); refine w_store_all rfl rfl rfl rfl rfl .here rfl ?_; refine gN ?_; refine gF rfl rfl rfl ?_; apply gw_d; exact w_load_box rfl rfl rfl .here rfl; refine gF rfl rfl rfl ?_; apply gw_d; exact w_load_box rfl rfl rfl (.there .here) rfl; apply gw_d; exact det_seq rfl rfl rfl rfl; refine gO ?_)
        refine gc_if rfl (fun h5 => ?_) (fun h5 => ?_)
        · focus (refine gc_seq ?_; refine gc_region ?_; refine gM rfl rfl (by conv => (lhs; whnf)) ?_; refine gO ?_; refine gc_ret ?_; refine gx_block_ret ?_; refine gx_then_ret ?_; refine gx_then_ret ?_; refine gx_block_ret ?_; refine gx_then_ret ?_; refine gx_block_ret ?_; refine gx_then_ret ?_; refine gx_then_ret ?_; refine gx_block_ret ?_; refine gx_then_ret ?_)
          refine gx_ret1 (v := .int _ _) rfl rfl (fun _ _ => ?_)
          have hold : oldName l k k = true := old_yes hjl (by omega) h5
          have : edgeE l k = 7 := by unfold edgeE; rw [if_pos hname, if_pos hold]
          rw [hstop (by rw [this]; decide), this]
        · focus (refine gc_skip ?_; refine gx_block ?_; refine gx_next ?_; refine gc_region ?_; apply gw_d; exact det_ar rfl rfl rfl rfl rfl (by omega); refine gM rfl rfl (by conv => (lhs; whnf)) ?_; refine gw_nil ?_)
          exact gx_round (j + 1) ⟨by omega, old_snoc hjl hJ h5⟩ (by omega) (by repeat (first | exact Keeps.refl | refine Keeps.upd rfl ?_ | refine Keeps.sets rfl ?_ | refine Keeps.havoc rfl ?_)) ⟨rfl, trivial⟩ Sub.tail
      · obtain rfl : j = k := by omega
        have he : edgeE l j = plineE (gE l j).2 := by unfold edgeE; rw [if_pos hname, if_neg (by simpa using hJ)]
        focus (refine gc_exit ?_; refine gx_then_exit ?_; refine gx_then_exit ?_; refine gx_block_exit ?_; refine gx_next ?_; refine gc_seq ?_; refine gc_region ?_; refine gF rfl rfl rfl ?_; apply gw_d; exact w_load_box rfl rfl rfl .here rfl; apply gw_d; exact w_call rfl rfl (fun w s => polyline_ok w _ _ (hsl.later s)) rfl; refine gM rfl rfl (by conv => (lhs; whnf)) ?_; refine gN ?_; refine gM rfl rfl (by conv => (lhs; whnf)) ?_; refine gC rfl rfl rfl rfl rfl ?_; refine gO ?_)
        refine gc_if_dec rfl (fun h5 => ?_) (fun h5 => ?_)
        · focus (refine gc_seq ?_; refine gc_region ?_; refine gM rfl rfl (by conv => (lhs; whnf)) ?_; refine gM rfl rfl (by conv => (lhs; whnf)) ?_; refine gO ?_; refine gc_ret ?_; refine gx_block_ret ?_; refine gx_then_ret ?_; refine gx_then_ret ?_; refine gx_block_ret ?_; refine gx_then_ret ?_)
          refine gx_ret1 (v := .int _ _) rfl rfl (fun _ _ => ?_)
          rw [hstop (by rw [he]; exact h5), he]
        · focus (refine gc_skip ?_; refine gx_block ?_; refine gx_next ?_; refine gc_region ?_; apply gw_d; exact det_ar rfl rfl rfl rfl rfl (by omega); refine gM rfl rfl (by conv => (lhs; whnf)) ?_; refine gw_nil ?_)
          exact gx_round (j + 1) ⟨by omega, firstE_snoc hI (by rw [he]; simpa using h5)⟩ (by omega) (by repeat (first | exact Keeps.refl | refine Keeps.upd rfl ?_ | refine Keeps.sets rfl ?_ | refine Keeps.havoc rfl ?_)) ⟨rfl, trivial⟩ .nil
    · obtain rfl : k = l.length := by omega
      have hall : ∀ i, i < l.length → 2 ≤ (gE l i).2.length ∧ (gE l i).2.length ≤ 40 := fun i hi => pline_len (edge_pline (firstE_at hI i hi))
      focus (refine gc_exit ?_; refine gx_then_exit ?_; refine gx_then_exit ?_; refine gx_block_exit ?_; refine gx_next ?_; refine gc_seq ?_; refine gc_seq ?_; refine gc_region ?_; refine gM rfl rfl (by conv => (lhs; whnf)) ?_; refine gL rfl rfl rfl ?_; refine gM rfl rfl (by conv => (lhs; whnf)) ?_; refine gO ?_; refine gc_block ?_)
      refine gc_loop (σ := Nat) [52, 53, 54, 55, 9, 8, 56, 57, 58, 59, 60, 61, 62, 63, 10, 64, 65, 66, 67, 68, 69, 70, 71, 72, 73, 74, 75, 76, 2, 77, 51] (fun k => [(51, .int .i64 k)]) (fun _ => []) (fun k => k ≤ l.length ∧ gapB l k = false) (fun k => l.length - k) 0 ⟨Nat.zero_le _, rfl⟩ ⟨rfl, trivial⟩ .nil ?_
      rintro i base2 ⟨hi, hJ⟩
      focus (refine gc_seq ?_; refine gc_region ?_; refine gC rfl rfl rfl rfl rfl ?_; refine gO ?_; refine gc_seq ?_)
      refine gc_if_dec rfl (fun h => ?_) (fun h => ?_)
      · have hlt : i < l.length := by omega
        have hp1 : (i + 1) % l.length < l.length := Nat.mod_lt _ (by omega)
        obtain ⟨A1, c1, hce1, _, hc1, hm1, hsl1⟩ := hcell i hlt
        obtain ⟨A2, c2, hce2, _, hc2, hm2, hsl2⟩ := hcell _ hp1
        have hn1 := hall i hlt
        have hn2 := hall _ hp1
        obtain ⟨a1, c1', hv1, _, _, hb1, hs1⟩ := hsl1.spot' (by omega)
        obtain ⟨a2, c2', hv2, _, _, hb2, hs2⟩ := hsl2.spot' (by omega)
        injection hv1 with e1 e2 e3
        injection hv2 with e4 e5 e6
        subst e1 e3 e4 e6
        have hcs1 := hs1 ((gE l i).2.length - 1) (by omega)
        have hcs2 := hs2 0 (by omega)
        focus (refine gc_skip ?_; refine gx_next ?_; refine gc_seq ?_; refine gc_block ?_; refine gc_seq ?_; refine gc_region ?_; refine gM rfl rfl (by conv => (lhs; whnf)) ?_; apply gw_d; exact w_index rfl rfl rfl rfl (by with_reducible exact rfl) (by omega); apply gw_d; exact w_load_elem rfl rfl rfl (by assumption) (by assumption) (by rfl); refine w_alloc rfl (fun _ => ?_); refine gM rfl rfl (by conv => (lhs; whnf)) ?_; refine w_store_all rfl rfl rfl rfl rfl .here rfl ?_; refine gN ?_; refine gM rfl rfl (by conv => (lhs; whnf)) ?_; refine gM rfl rfl (by conv => (lhs; whnf)) ?_; apply gw_d; exact det_ar rfl rfl rfl rfl rfl (by omega); refine gM rfl rfl (by conv => (lhs; whnf)) ?_; refine gL rfl rfl rfl ?_; apply gw_d; exact det_rem rfl rfl rfl rfl (by omega) (by omega); apply gw_d; exact w_index rfl rfl rfl rfl (by with_reducible exact castM _ _) (by omega); apply gw_d; exact w_load_elem rfl rfl rfl (by assumption) (by assumption) (by rfl); refine w_alloc rfl (fun _ => ?_); refine w_store_all rfl rfl rfl rfl rfl .here rfl ?_; refine gO ?_; refine gc_seq ?_)
        refine gc_draw 13 (by kernel_rfl) (by kernel_rfl) ?_
        focus (apply gd_d; exact w_field rfl rfl rfl; apply gd_d; exact w_load_box rfl rfl rfl (.there .here) rfl; apply gd_d; exact w_field rfl rfl rfl; apply gd_d; exact w_load_box rfl rfl rfl (.there .here) rfl; apply gd_d; exact w_len rfl rfl rfl; apply gd_d; exact det_ar rfl rfl rfl rfl rfl (by omega); apply gd_d; exact w_index rfl rfl rfl rfl (by with_reducible exact castS (by omega)) (by omega); apply gd_d; exact w_load_elem rfl rfl rfl (by assumption) (by assumption) (by rfl); apply gd_d; exact w_field rfl rfl rfl; apply gd_d; exact w_load_box rfl rfl rfl .here rfl; apply gd_d; exact w_index rfl rfl rfl rfl (by with_reducible exact cast0) (by omega); apply gd_d; exact w_load_elem rfl rfl rfl (by assumption) (by assumption) (by rfl); apply gd_d; exact w_ne2 rfl rfl rfl rfl; refine gd_nil ?_; refine gO ?_)
        refine gc_if_dec rfl (fun h5 => ?_) (fun h5 => ?_)
        · focus (refine gc_seq ?_; refine gc_region ?_; refine gM rfl rfl (by conv => (lhs; whnf)) ?_; refine gO ?_; refine gc_ret ?_; refine gx_block_ret ?_; refine gx_then_ret ?_; refine gx_then_ret ?_; refine gx_block_ret ?_; refine gx_then_ret ?_)
          refine gx_ret1 (v := .int _ _) rfl rfl (fun _ _ => ?_)
          have : gapB l l.length = true := range_any_no hlt (by unfold gapAt; exact decide_eq_true h5)
          unfold outlineE
          rw [if_neg h16, if_neg h2, if_pos hI, if_pos this]
        · focus (refine gc_skip ?_; refine gx_block ?_; refine gx_next ?_; refine gc_region ?_; apply gw_d; exact det_ar rfl rfl rfl rfl rfl (by omega); refine gM rfl rfl (by conv => (lhs; whnf)) ?_; refine gw_nil ?_)
          exact gx_round (i + 1) ⟨by omega, range_any_snoc hJ (by unfold gapAt; exact decide_eq_false h5)⟩ (by omega) (by repeat (first | exact Keeps.refl | refine Keeps.upd rfl ?_ | refine Keeps.sets rfl ?_ | refine Keeps.havoc rfl ?_)) ⟨rfl, trivial⟩ .nil
      · obtain rfl : i = l.length := by omega
        have hpoly : outlineE l = polyE (vertsOf l) := by
          unfold outlineE
          rw [if_neg h16, if_neg h2, if_pos hI, if_neg (by rw [hJ]; decide)]
        focus (refine gc_exit ?_; refine gx_then_exit ?_; refine gx_then_exit ?_; refine gx_block_exit ?_; refine gx_next ?_; refine gc_seq ?_; refine gc_region ?_; refine gM rfl rfl (by conv => (lhs; whnf)) ?_)
        refine gw_callm rfl (fun w s => vertices_ok w _ l (hl.later s) (by omega) (by omega) (fun x hx => ?_)) rfl (fun x => ?_)
        · obtain ⟨i, hi, rfl⟩ := List.getElem_of_mem hx
          have := hall i hi
          rw [gE_get hi] at this
          omega
        · focus (apply gw_d; exact w_call rfl rfl (fun w s => polygon_ok w _ (vertsOf l) (Sl.own (enc := encS) s .here rfl (fun p hp => ⟨rfl, verts_in hl p hp⟩))) rfl; refine gM rfl rfl (by conv => (lhs; whnf)) ?_; refine gO ?_; refine gc_ret ?_)
          refine gx_ret1 (v := .int _ _) rfl rfl (fun _ _ => ?_)
          rw [hpoly]
  · obtain ⟨A, c, rfl, hc, hm⟩ := len_small hl
    refine ok_enter Tryz.func117 rfl Tryz.ntmps117 rfl ?_
    focus (refine gc_seq ?_; refine gc_region ?_; refine gM rfl rfl (by conv => (lhs; whnf)) ?_; refine gO ?_; refine gc_seq ?_; refine gc_seq ?_; refine gc_region ?_; refine gM rfl rfl (by conv => (lhs; whnf)) ?_; refine gL rfl rfl rfl ?_; refine gC rfl rfl rfl rfl rfl ?_; refine gO ?_)
    refine gc_if_dec rfl (fun h => by omega) (fun h => ?_)
    focus (refine gc_skip ?_; refine gx_next ?_; refine gc_seq ?_; refine gc_seq ?_; refine gc_region ?_; refine gM rfl rfl (by conv => (lhs; whnf)) ?_; refine gL rfl rfl rfl ?_; refine gC rfl rfl rfl rfl rfl ?_; refine gO ?_)
    refine gc_if_dec rfl (fun h => ?_) (fun h => by omega)
    focus (refine gc_seq ?_; refine gc_region ?_; refine gM rfl rfl (by conv => (lhs; whnf)) ?_; refine gO ?_; refine gc_ret ?_; refine gx_then_ret ?_)
    refine gx_ret1 (v := .int _ _) rfl rfl (fun _ _ => ?_)
    have h1 : ¬ 16 < l.length := by omega
    have h2 : l.length < 2 := by omega
    simp [outlineE, h1, h2]
end Go.Proofs.YtckhibfbdnoigaaGreatDoor

/- Contracts: grading by a multiple of 0. -/
namespace Go.Proofs.YtckhibfbdnoigaaGreatDoor
open Go.RowKit
set_option maxRecDepth 100000
set_option maxHeartbeats 4000000

theorem within_ok (w : World) (n b : Int) (hb : 0 ≤ b ∧ b ≤ 100000) : Ok Tryz.prog 116 [.int .i64 n, .int .i64 b].toArray w fun r _ => r = .bool (decide (-b ≤ n ∧ n ≤ b)) := by
  refine ok_enter Tryz.func116 rfl Tryz.ntmps116 rfl ?_
  focus (refine gc_seq ?_; refine gc_region ?_; refine gM rfl rfl (by conv => (lhs; whnf)) ?_; refine gN ?_; refine gM rfl rfl (by conv => (lhs; whnf)) ?_; apply gw_d; exact det_neg rfl rfl rfl (wrap_in (by omega)); refine gM rfl rfl (by conv => (lhs; whnf)) ?_; refine gC rfl rfl rfl rfl rfl ?_; refine gM rfl rfl (by conv => (lhs; whnf)) ?_; refine gw_guard_dec rfl rfl (fun _ => ?_) (fun _ => ?_); refine gM rfl rfl (by conv => (lhs; whnf)) ?_; refine gM rfl rfl (by conv => (lhs; whnf)) ?_; refine gC rfl rfl rfl rfl rfl ?_; apply gw_d; exact det_pick_t (v := .bool _) rfl rfl rfl rfl; refine gM rfl rfl (by conv => (lhs; whnf)) ?_; refine gO ?_; refine gc_ret ?_; rotate_left; refine gU rfl ?_; refine gU rfl ?_; refine gU rfl ?_; apply gw_d; exact det_pick_f (v := .bool _) rfl rfl rfl rfl; refine gM rfl rfl (by conv => (lhs; whnf)) ?_; refine gO ?_; refine gc_ret ?_; rotate_left)
  all_goals (refine gx_ret1 (v := .bool _) rfl rfl (fun _ _ => ?_); congr 1; symm; first | (apply decide_eq_true; omega) | (apply decide_eq_false; omega) | (congr 1; apply propext; constructor <;> omega))
theorem rounded0_ok (w : World) (a b : Int) (ha : a = 0) (hb : 1 ≤ b ∧ b ≤ 1000) : Ok Tryz.prog 142 [.int .i64 a, .int .i64 b].toArray w fun r _ => r = .int .i64 0 := by
  subst ha
  refine ok_enter Tryz.func142 rfl Tryz.ntmps142 rfl ?_
  focus (refine gc_seq ?_; refine gc_region ?_; refine gM rfl rfl (by conv => (lhs; whnf)) ?_; refine gO ?_; refine gc_seq ?_; refine gc_seq ?_; refine gc_region ?_; refine gM rfl rfl (by conv => (lhs; whnf)) ?_; refine gC rfl rfl rfl rfl rfl ?_; refine gO ?_)
  refine gc_if_dec rfl (fun h => absurd h (by decide)) (fun _ => ?_)
  focus (refine gc_skip ?_; refine gx_next ?_; refine gc_seq ?_; refine gc_region ?_; refine gM rfl rfl (by conv => (lhs; whnf)) ?_; apply gw_d; exact det_ar rfl rfl rfl rfl rfl (by omega); refine gM rfl rfl (by conv => (lhs; whnf)) ?_; apply gw_d; exact det_ar rfl rfl rfl rfl rfl (by omega); refine gM rfl rfl (by conv => (lhs; whnf)) ?_; apply gw_d; exact det_ar rfl rfl rfl rfl rfl (by omega); apply gw_d; exact det_quo rfl rfl rfl rfl (by omega) (by omega) (by omega); refine gM rfl rfl (by conv => (lhs; whnf)) ?_; refine gO ?_; refine gc_ret ?_)
  refine gx_ret1 (v := .int _ _) rfl rfl (fun _ _ => ?_)
  rw [Int.ediv_eq_zero_of_lt (by omega) (by omega)]
theorem corner0_ok (w : World) (A : Option Addr) (c : Nat) (l : List (Int × Int)) (i : Int) (hl : Sl rSpot w w.heap.size (.slice A l.length c) l) (h0 : 0 < l.length) (hi : 0 ≤ i ∧ i ≤ 1000) :
    Ok Tryz.prog 118 [.agg #[.slice A l.length c, .int .i64 0], .int .i64 i].toArray w fun r _ => r = .agg #[.int .i64 0, .int .i64 0] := by
  obtain ⟨ad, c', hv, hc, hm, hb, hcell⟩ := hl.spot' h0
  injection hv with e1 e2 e3
  subst e1 e3
  obtain ⟨i, rfl⟩ : ∃ j : Nat, i = j := ⟨i.toNat, by omega⟩
  have hp : i % l.length < l.length := Nat.mod_lt _ h0
  have hce := hcell _ hp
  refine ok_enter Tryz.func118 rfl Tryz.ntmps118 rfl ?_
  focus (refine gc_seq ?_; refine gc_region ?_; refine gw_boxd (v := .agg _) rfl rfl (fun _ => ?_); refine w_alloc rfl (fun _ => ?_); refine gO ?_; refine gc_seq ?_)
  refine gc_block_draw Nat 10 (fun i => ([[], [0], [], [], [3], [3, 4], [2, 3, 4, 5], [0, 1, 2, 3, 4, 5, 6], [0, 1, 2, 3, 4, 5, 6, 7], []] : List (List Nat)).getD i []) rfl (by kernel_rfl) ?_
  focus (apply gb_d; (intro γ; exact w_field rfl rfl rfl); (intros; rfl); (intros; rfl); apply gb_d; (intro γ; exact w_load_box rfl rfl rfl (.there .here) rfl); (intros; rfl); (intros; rfl); apply gb_d; (intro γ; exact det_m rfl rfl (by conv => (lhs; whnf))); (intros; rfl); (intros; rfl); apply gb_d; (intro γ; exact w_field rfl rfl rfl); (intros; rfl); (intros; rfl); apply gb_d; (intro γ; exact w_load_box rfl rfl rfl (.there .here) rfl); (intros; rfl); (intros; rfl); apply gb_d; (intro γ; exact w_len rfl rfl rfl); (intros; rfl); (intros; rfl); apply gb_d; (intro γ; exact det_rem rfl rfl rfl rfl (by omega) (by omega)); (intros; rfl); (intros; rfl); apply gb_d; (intro γ; exact w_index rfl rfl rfl rfl (by with_reducible exact castR _ _) (by omega)); (intros; rfl); (intros; rfl); apply gb_d; (intro γ; exact w_load_elem rfl rfl rfl (by assumption) (by assumption) (by rfl)); (intros; rfl); (intros; rfl))
  refine gb_alloc id id (fun _ => rfl) (fun _ => rfl) ?_
  refine GB.nil (fun β => ?_)
  focus (refine w_store_all rfl rfl rfl rfl rfl .here rfl ?_; refine gN ?_; refine gF rfl rfl rfl ?_; apply gw_d; exact w_load_box rfl rfl rfl (.there (.there .here)) rfl; refine gF rfl rfl rfl ?_; apply gw_d; exact w_load_box rfl rfl rfl .here rfl; apply gw_d; exact det_ar rfl rfl rfl rfl rfl (by omega); refine gF rfl rfl rfl ?_; apply gw_d; exact w_load_box rfl rfl rfl (.there (.there .here)) rfl; refine gF rfl rfl rfl ?_; apply gw_d; exact w_load_box rfl rfl rfl .here rfl; apply gw_d; exact det_ar rfl rfl rfl rfl rfl (by omega); apply gw_d; exact w_build (cells := #[.int .i64 (0 * (gS l (i % l.length)).1), .int .i64 (0 * (gS l (i % l.length)).2)]) rfl rfl (by rfl); refine w_store_all rfl rfl rfl rfl rfl (.there .here) rfl ?_; refine gO ?_; refine gc_ret ?_)
  refine gx_retc rfl rfl .here rfl fun w s => ?_
  simp

/-! ### A polyline that is moved by nothing -/
def rowS (l : List (Int × Int)) (k : Nat) : Array Value := ((l.take k).flatMap encS ++ List.replicate ((l.length - k) * 2) (Value.int .i64 0)).toArray
theorem rowS_zero (l : List (Int × Int)) : madeCells (Value.agg #[Value.int .i64 0, Value.int .i64 0]).cells (l.length * 2) = rowS l 0 := by
  unfold madeCells rowS
  apply Array.ext'
  simp only [List.take_zero, List.flatMap_nil, List.nil_append, Nat.sub_zero]
  apply List.ext_getElem
  · simp
  · intro i h1 h2
    simp only [Array.toList_map, Array.toList_range, List.getElem_map, List.getElem_range, List.getElem_replicate]
    show (#[Value.int .i64 0, Value.int .i64 0])[i % 2]! = _
    have : i % 2 = 0 ∨ i % 2 = 1 := by omega
    rcases this with h | h <;> rw [h] <;> rfl
theorem rowS_size (l : List (Int × Int)) {k : Nat} (hk : k ≤ l.length) : (rowS l k).size = l.length * 2 := by
  unfold rowS
  simp only [List.size_toArray, List.length_append, encS_len, List.length_take, List.length_replicate]
  omega
theorem rowS_set {l : List (Int × Int)} {k : Nat} (hk : k < l.length) {x y : Int} (hx : x = (gS l k).1) (hy : y = (gS l k).2) :
    ((rowS l k).toList.take (k * 2) ++ [Value.int .i64 x, Value.int .i64 y] ++ (rowS l k).toList.drop (k * 2 + 2)).toArray = rowS l (k + 1) := by
  subst hx hy
  have hF : ((l.take k).flatMap encS).length = k * 2 := by rw [encS_len, List.length_take]; omega
  unfold rowS
  simp only
  rw [List.take_left' hF, List.drop_append, hF, List.drop_eq_nil_of_le (by rw [hF]; omega), List.nil_append, List.drop_replicate, List.take_succ_eq_append_getElem hk, List.flatMap_append]
  congr 1
  rw [gS_get hk]
  have : (l.length - k) * 2 - (k * 2 + 2 - k * 2) = (l.length - (k + 1)) * 2 := by omega
  rw [this]
  simp [encS]
theorem rowS_all (l : List (Int × Int)) : rowS l l.length = (l.flatMap encS).toArray := by
  unfold rowS
  simp

theorem moved0_ok (w : World) (A : Option Addr) (c : Nat) (l : List (Int × Int)) (hl : Sl rSpot w w.heap.size (.slice A l.length c) l) (h2 : 2 ≤ l.length) (h40 : l.length ≤ 40) :
    OkM Tryz.prog 119 [.slice A l.length c, .agg #[.int .i64 0, .int .i64 0], .agg #[.int .i64 0, .int .i64 0]].toArray w (fun b => .slice (some ⟨b, 0, none⟩) l.length l.length) (fun b => [Box b 106 (l.flatMap encS).toArray]) := by
  obtain ⟨ad, c', hv, hc, hm, hb, hcell⟩ := hl.spot' (by omega)
  injection hv with e1 e2 e3
  subst e1 e3
  unfold OkM
  refine ok_enter Tryz.func119 rfl Tryz.ntmps119 rfl ?_
  focus (refine gc_seq ?_; refine gc_region ?_; refine gw_boxd (v := .agg _) rfl rfl (fun _ => ?_); refine gw_boxd (v := .agg _) rfl rfl (fun _ => ?_); refine gM rfl rfl (by conv => (lhs; whnf)) ?_; refine gN ?_; refine gM rfl rfl (by conv => (lhs; whnf)) ?_; refine gL rfl rfl rfl ?_; apply gw_d; exact det_ar rfl rfl rfl rfl rfl (by omega); refine gM rfl rfl (by conv => (lhs; whnf)) ?_; refine gN ?_; refine gM rfl rfl (by conv => (lhs; whnf)) ?_; refine gL rfl rfl rfl ?_)
  rename_i ba bb
  refine gw_makeN (n := l.length) rfl rfl rfl rfl rfl (by omega) (by omega) (fun b => ?_)
  rw [rowS_zero]
  focus (refine gM rfl rfl (by conv => (lhs; whnf)) ?_; refine gO ?_; refine gc_seq ?_; refine gc_seq ?_; refine gc_region ?_; refine gM rfl rfl (by conv => (lhs; whnf)) ?_; refine gL rfl rfl rfl ?_; refine gM rfl rfl (by conv => (lhs; whnf)) ?_; refine gO ?_; refine gc_block ?_)
  refine gc_loop (σ := Nat) [20, 21, 22, 23, 10, 9, 24, 25, 26, 27, 28, 29, 30, 31, 32, 33, 34, 35, 36, 37, 38, 39, 40, 41, 42, 43, 44, 45, 46, 47, 48, 49, 50, 51, 52, 53, 54, 55, 56, 57, 58, 59, 60, 19] (fun k => [(19, .int .i64 k)]) (fun k => [Box b 106 (rowS l k), Box bb 106 #[.int .i64 0, .int .i64 0], Box ba 106 #[.int .i64 0, .int .i64 0]]) (fun k => k ≤ l.length) (fun k => l.length - k) 0 (Nat.zero_le _) ⟨rfl, trivial⟩ (.cons .here (.cons .here (.cons .here .nil))) ?_
  rintro k base hk
  focus (refine gc_seq ?_; refine gc_region ?_; refine gC rfl rfl rfl rfl rfl ?_; refine gO ?_; refine gc_seq ?_)
  refine gc_if_dec rfl (fun h => ?_) (fun h => ?_)
  · have hlt : k < l.length := by omega
    have hce := hcell k hlt
    have hin := hl.spots_in (gS l k) (by rw [gS_get hlt]; exact List.getElem_mem hlt)
    unfold inI64 at hin
    focus (refine gc_skip ?_; refine gx_next ?_; refine gc_seq ?_; refine gc_block ?_; refine gc_seq ?_; refine gc_region ?_; refine gM rfl rfl (by conv => (lhs; whnf)) ?_; apply gw_d; exact w_index rfl rfl rfl rfl (by with_reducible exact rfl) (by omega); apply gw_d; exact w_load_elem rfl rfl rfl (by assumption) (by assumption) (by rfl); refine w_alloc rfl (fun _ => ?_); refine gM rfl rfl (by conv => (lhs; whnf)) ?_; refine w_store_all rfl rfl rfl rfl rfl .here rfl ?_; refine gO ?_)
    refine gc_draw 35 (by kernel_rfl) (by kernel_rfl) ?_
    focus (apply gd_d; exact det_m rfl rfl (by conv => (lhs; whnf)); apply gd_d; exact det_m rfl rfl (by conv => (lhs; whnf)); apply gd_d; exact w_field rfl rfl rfl; apply gd_d; exact w_load_box rfl rfl rfl .here rfl; apply gd_d; exact det_m rfl rfl (by conv => (lhs; whnf)); apply gd_d; exact det_m rfl rfl (by conv => (lhs; whnf)); apply gd_d; exact det_ar rfl rfl rfl rfl rfl (by omega); apply gd_d; exact w_field rfl rfl rfl; apply gd_d; exact w_load_box rfl rfl rfl (.there (.there (.there .here))) rfl; apply gd_d; exact det_ar rfl rfl rfl rfl rfl (by omega); apply gd_d; exact det_m rfl rfl (by conv => (lhs; whnf)); apply gd_d; exact w_field rfl rfl rfl; apply gd_d; exact w_load_box rfl rfl rfl (.there (.there .here)) rfl; apply gd_d; exact det_ar rfl rfl rfl rfl rfl (by omega); apply gd_d; exact det_ar rfl rfl rfl rfl rfl (by omega); apply gd_d; exact det_m rfl rfl (by conv => (lhs; whnf)); apply gd_d; exact w_call rfl rfl (fun w s => rounded0_ok w _ _ (by omega) (by omega)) rfl; apply gd_d; exact det_ar rfl rfl rfl rfl rfl (by omega); apply gd_d; exact w_field rfl rfl rfl; apply gd_d; exact w_load_box rfl rfl rfl .here rfl; apply gd_d; exact det_m rfl rfl (by conv => (lhs; whnf)); apply gd_d; exact det_m rfl rfl (by conv => (lhs; whnf)); apply gd_d; exact det_ar rfl rfl rfl rfl rfl (by omega); apply gd_d; exact w_field rfl rfl rfl; apply gd_d; exact w_load_box rfl rfl rfl (.there (.there (.there .here))) rfl; apply gd_d; exact det_ar rfl rfl rfl rfl rfl (by omega); apply gd_d; exact det_m rfl rfl (by conv => (lhs; whnf)); apply gd_d; exact w_field rfl rfl rfl; apply gd_d; exact w_load_box rfl rfl rfl (.there (.there .here)) rfl; apply gd_d; exact det_ar rfl rfl rfl rfl rfl (by omega); apply gd_d; exact det_ar rfl rfl rfl rfl rfl (by omega); apply gd_d; exact det_m rfl rfl (by conv => (lhs; whnf)); apply gd_d; exact w_call rfl rfl (fun w s => rounded0_ok w _ _ (by omega) (by omega)) rfl; apply gd_d; exact det_ar rfl rfl rfl rfl rfl (by omega); apply gd_d; exact w_build (cells := #[.int .i64 ((gS l k).1 + 0), .int .i64 ((gS l k).2 + 0)]) rfl rfl (by rfl); refine gd_nil ?_; apply gw_d; exact w_index rfl rfl rfl rfl (by with_reducible exact rfl) (by omega))
    refine w_store_row (n := 2) (v := .agg #[.int .i64 ((gS l k).1 + 0), .int .i64 ((gS l k).2 + 0)]) rfl rfl rfl rfl rfl (.there .here) (by rw [rowS_size l hk]; omega) (rowS_set hlt (by omega) (by omega)) ?_
    focus (refine gw_nil ?_; refine gx_block ?_; refine gx_next ?_; refine gc_region ?_; apply gw_d; exact det_ar rfl rfl rfl rfl rfl (by omega); refine gM rfl rfl (by conv => (lhs; whnf)) ?_; refine gw_nil ?_)
    exact gx_round (k + 1) hlt (by omega) (by repeat (first | exact Keeps.refl | refine Keeps.upd rfl ?_ | refine Keeps.sets rfl ?_ | refine Keeps.havoc rfl ?_)) ⟨rfl, trivial⟩ (.cons .here (.cons (.there .here) (.cons (.there .here) .nil)))
  · obtain rfl : k = l.length := by omega
    rw [rowS_all]
    focus (refine gc_exit ?_; refine gx_then_exit ?_; refine gx_then_exit ?_; refine gx_block_exit ?_; refine gx_next ?_; refine gc_seq ?_; refine gc_region ?_; refine gM rfl rfl (by conv => (lhs; whnf)) ?_; refine gM rfl rfl (by conv => (lhs; whnf)) ?_; refine gO ?_; refine gc_ret ?_)
    exact gx_ret1 rfl rfl fun w s => ⟨b, rfl, (s.sub (.cons .here .nil)).sep⟩
end Go.Proofs.YtckhibfbdnoigaaGreatDoor

/- Contracts: the outline of a piece, graded by a multiple of 0. -/
namespace Go.Proofs.YtckhibfbdnoigaaGreatDoor
open Go.RowKit
set_option maxRecDepth 100000
set_option maxHeartbeats 4000000

/-! ### Fresh lines, and edges made of them -/
def linesP (ls : List (List (Int × Int))) (bs : List Nat) (w : World) : Prop :=
  bs.length = ls.length ∧ ∀ (i b : Nat) (l : List (Int × Int)), bs[i]? = some b → ls[i]? = some l → w.heap[b]? = some (Obj.cells (l.flatMap encS).toArray 106 (0, 0))
def LinesR (ls : List (List (Int × Int))) (bs : List Nat) : Res :=
  ⟨fun x => x ∈ bs, linesP ls bs, fun _ _ h ⟨h1, h2⟩ => ⟨h1, fun i b l hb hl => (h b (List.mem_of_getElem? hb)).trans (h2 i b l hb hl)⟩⟩
theorem gc_lines0 {P : Program} {Q : Exit → Act → World → Prop} {N : Nat} {w0 : World} {L : List Res} {e : Env} {c : Code} (k : GC P Q N w0 (LinesR [] [] :: L) c e) : GC P Q N w0 L c e := ⟨fun w s =>
  k.h w (s.add (Ext.refl w) ⟨rfl, fun i b l hb => by simp at hb⟩ fun b hb => by cases hb)⟩
theorem LinesR.snoc {ls : List (List (Int × Int))} {bs : List Nat} {l : List (Int × Int)} {b : Nat} {L : List Res} : Ent (Box b 106 (l.flatMap encS).toArray :: LinesR ls bs :: L) (LinesR (ls ++ [l]) (bs ++ [b]) :: L) := fun w0 w s => by
  have h1 : w.heap[b]? = some (.cells (l.flatMap encS).toArray 106 (0, 0)) := s.head
  obtain ⟨h2, h3⟩ := s.drop.head
  refine s.merge (fun x hx => ?_) ⟨by simp [h2], fun i b' l' hb' hl' => ?_⟩
  · rcases List.mem_append.1 hx with h | h
    · exact .inr h
    · exact .inl (List.mem_singleton.1 h)
  · rcases Nat.lt_or_ge i bs.length with hi | hi
    · rw [List.getElem?_append_left hi] at hb'
      rw [List.getElem?_append_left (by omega)] at hl'
      exact h3 i b' l' hb' hl'
    · rw [List.getElem?_append_right hi] at hb'
      rw [List.getElem?_append_right (by omega), ← h2] at hl'
      cases hk : i - bs.length with
      | zero =>
        rw [hk] at hb' hl'
        simp at hb' hl'
        subst hb' hl'
        exact h1
      | succ m => rw [hk] at hb'; simp at hb'

def encE (p : Edg × Nat) : List Value := [.string p.1.1, .slice (some ⟨p.2, 0, none⟩) p.1.2.length p.1.2.length]
def rowE (l : List Edg) (bs : List Nat) : List Value := (l.zip bs).flatMap encE
theorem rowE_snoc {l : List Edg} {bs : List Nat} {x : Edg} {b : Nat} (h : l.length = bs.length) : rowE (l ++ [x]) (bs ++ [b]) = rowE l bs ++ encE (x, b) := by
  unfold rowE
  rw [List.zip_append h, List.flatMap_append]
  simp

theorem deep_edges {A : Option Addr} {n c : Nat} {l : List Edg} {bs : List Nat} {L : List Res} (hn : n = l.length) (hin : ∀ x ∈ l, x.1.size ≤ maxLen ∧ x.2.length ≤ 40 ∧ ∀ p ∈ x.2, inI64 p.1 ∧ inI64 p.2) :
    Ent (Own A n c 109 2 (rowE l bs) :: LinesR (l.map (·.2)) bs :: L) (Deep (fun x => (Value.slice A n c).ownBlock = some x ∨ x ∈ bs) rEdge (.slice A n c) l :: L) := fun w0 w s => by
  have hown : w.ownsRow 0 109 2 (.slice A n c) n (rowE l bs) := s.head
  obtain ⟨h2, h3⟩ := s.drop.head
  rw [List.length_map] at h2
  refine s.merge (fun x hx => hx) ?_
  subst hn
  change SlS rEdge w (fun x => (Value.slice A l.length c).ownBlock = some x ∨ x ∈ bs) (.slice A l.length c) l
  rcases hown.2 with ⟨hv, h0⟩ | ⟨g, cap, cur, hv, _, hg, h1, h2', _⟩
  · injection hv with e1 e2 e3
    subst e1 e3
    exact ⟨none, 0, rfl, by omega, Nat.zero_le _, fun k hk => by omega⟩
  · injection hv with e1 e2 e3
    subst e1 e3
    refine ⟨_, _, rfl, h1, h2', fun k hk => ?_⟩
    have hkb : k < bs.length := by omega
    have hz : (l.zip bs)[k]? = some (l[k], bs[k]) := by rw [List.getElem?_zip_eq_some]; exact ⟨List.getElem?_eq_getElem hk, List.getElem?_eq_getElem hkb⟩
    have hkz : k < (l.zip bs).length := (List.getElem?_eq_some_iff.1 hz).1
    have hzz : (l.zip bs)[k] = (l[k], bs[k]) := (List.getElem?_eq_some_iff.1 hz).2
    have hline := h3 k bs[k] l[k].2 (List.getElem?_eq_getElem hkb) (by rw [List.getElem?_map, List.getElem?_eq_getElem hk]; rfl)
    obtain ⟨q1, q2, q3⟩ := hin l[k] (List.getElem_mem hk)
    refine ⟨⟨g, 0, none⟩, encE (l[k], bs[k]), rfl, .inl rfl, fun j u hu => ?_, _, rfl, q1, ?_⟩
    · refine hown.cells rfl _ u ?_
      have hj : j < 2 := (List.getElem?_eq_some_iff.1 hu).1
      have := flat_get (enc := encE) (sz := 2) (l.zip bs) (fun _ _ => rfl) k hkz j hj
      rw [hzz] at this
      exact this.trans hu
    · refine ⟨some ⟨bs[k], 0, none⟩, l[k].2.length, rfl, Nat.le_refl _, by unfold maxLen; omega, fun i hi => ⟨⟨bs[k], 0, none⟩, encS l[k].2[i], rfl, .inr (List.getElem_mem hkb), fun j u hu => ?_, rfl, q3 _ (List.getElem_mem hi)⟩⟩
      have hj : j < 2 := (List.getElem?_eq_some_iff.1 hu).1
      have := flat_get (enc := encS) (sz := 2) l[k].2 (fun _ _ => rfl) i hi j hj
      rw [show rSpot.size = 2 from rfl, add_zero]
      simp only [World.cell?, hline]
      simpa using this.trans hu

/-! ### Graded -/
def farB (p : Int × Int) : Bool := !decide (-1000 ≤ p.1 ∧ p.1 ≤ 1000) || !decide (-1000 ≤ p.2 ∧ p.2 ≤ 1000)
def gradedE (l : List Edg) (cs : List (Int × Int)) : Int := if ¬ cs.length = l.length then 1 else if cs.any farB = true then 3 else outlineE l
theorem outline_good {l : List Edg} (h : outlineE l = 0) : 2 ≤ l.length ∧ l.length ≤ 16 ∧ ∀ k, k < l.length → 2 ≤ (gE l k).2.length ∧ (gE l k).2.length ≤ 40 := by
  unfold outlineE at h
  split at h
  · cases h
  · split at h
    · cases h
    · split at h
      · rename_i h1
        exact ⟨by omega, by omega, fun k hk => pline_len (edge_pline (firstE_at h1 k hk))⟩
      · rename_i h1; exact absurd h h1

theorem graded_ok (w : World) (nm : ByteArray) (g : Int) (m : Bool) (Ae An Ac Aw : Option Addr) (ce nn cn cc nw cw : Nat) (l : List Edg) (cs : List (Int × Int))
    (hl : Sl rEdge w w.heap.size (.slice Ae l.length ce) l) (hcs : Sl rSpot w w.heap.size (.slice Ac cs.length cc) cs) :
    OkM Tryz.prog 103 [.agg #[.string nm, .slice Ae l.length ce, .int .i64 g, .slice An nn cn, .slice Ac cs.length cc, .slice Aw nw cw, .bool m], .int .i64 0].toArray w
      (fun x : Option Addr × Nat × (Nat → Prop) => .tuple #[.slice x.1 (if gradedE l cs = 0 then l.length else 0) x.2.1, .int .i64 (gradedE l cs)])
      (fun x => if gradedE l cs = 0 then [Deep x.2.2 rEdge (.slice x.1 l.length x.2.1) l] else []) := by
  obtain ⟨A', c', hv, hcc, hcm, hccell⟩ := hcs.spot
  injection hv with e1 e2 e3
  subst e1 e3
  have hll := len_small hl
  obtain ⟨A', c', hv, hlc, hlm⟩ := hll
  injection hv with e1 e2 e3
  subst e1 e3
  have bad : ∀ k : Int, ¬ k = 0 → gradedE l cs = k → ∀ w' : World, ∃ x : Option Addr × Nat × (Nat → Prop), Value.tuple #[.slice none 0 0, .int .i64 k] = .tuple #[.slice x.1 (if gradedE l cs = 0 then l.length else 0) x.2.1, .int .i64 (gradedE l cs)] ∧
      Made w (if gradedE l cs = 0 then [Deep x.2.2 rEdge (.slice x.1 l.length x.2.1) l] else []) w' := fun k hk he w' => ⟨(none, 0, fun _ => False), by rw [he, if_neg hk], by rw [he, if_neg hk]; exact Made.nil _ _⟩
  unfold OkM
  refine ok_enter Tryz.func103 rfl Tryz.ntmps103 rfl ?_
  focus (refine gc_seq ?_; refine gc_region ?_; refine gw_boxd (v := .agg _) rfl rfl (fun _ => ?_); refine gM rfl rfl (by conv => (lhs; whnf)) ?_; refine gM rfl rfl (by conv => (lhs; whnf)) ?_; refine gO ?_; refine gc_seq ?_; refine gc_seq ?_; refine gc_region ?_; refine gM rfl rfl (by conv => (lhs; whnf)) ?_; apply gw_d; exact w_call rfl rfl (fun w s => within_ok w _ _ (by decide)) rfl; apply gw_d; exact det_not_dec rfl rfl rfl; refine gO ?_)
  rename_i bp
  refine gc_if_dec rfl (fun h => absurd (by decide) h) (fun _ => ?_)
  focus (refine gc_skip ?_; refine gx_next ?_; refine gc_seq ?_; refine gc_seq ?_; refine gc_region ?_; refine gF rfl rfl rfl ?_; apply gw_d; exact w_load_box rfl rfl rfl .here rfl; refine gL rfl rfl rfl ?_; refine gF rfl rfl rfl ?_; apply gw_d; exact w_load_box rfl rfl rfl .here rfl; refine gL rfl rfl rfl ?_; refine gC rfl rfl rfl rfl rfl ?_; refine gO ?_)
  refine gc_if_dec rfl (fun h => ?_) (fun h => ?_)
  · focus (refine gc_seq ?_; refine gc_region ?_; refine gM rfl rfl (by conv => (lhs; whnf)) ?_; refine gM rfl rfl (by conv => (lhs; whnf)) ?_; refine gO ?_; refine gc_ret ?_; refine gx_then_ret ?_)
    refine gx_ret2 (u := .slice _ _ _) (v := .int _ _) rfl rfl rfl (fun _ _ => ?_)
    exact bad 1 (by decide) (by unfold gradedE; rw [if_pos (by omega)]) _
  have hlen : cs.length = l.length := by omega
  focus (refine gc_skip ?_; refine gx_next ?_; refine gc_seq ?_; refine gc_seq ?_; refine gc_region ?_; refine gF rfl rfl rfl ?_; apply gw_d; exact w_load_box rfl rfl rfl .here rfl; refine gL rfl rfl rfl ?_; refine gM rfl rfl (by conv => (lhs; whnf)) ?_; refine gO ?_; refine gc_block ?_)
  refine gc_loopK (σ := Nat) [28, 29, 30, 7, 31, 32, 33, 34, 35, 36, 37, 38, 39, 40, 4, 5, 41, 27] (fun k => [(27, .int .i64 k)]) (fun k => k ≤ cs.length ∧ (cs.take k).any farB = false) (fun k => cs.length - k) 0 ⟨Nat.zero_le _, rfl⟩ ⟨rfl, trivial⟩ ?_
  rintro k base ⟨hk, hI⟩
  focus (refine gc_seq ?_; refine gc_region ?_; refine gC rfl rfl rfl rfl rfl ?_; refine gO ?_; refine gc_seq ?_)
  refine gc_if_dec rfl (fun h => ?_) (fun h => ?_)
  · have hlt : k < cs.length := by omega
    obtain ⟨ad, rfl, hb, hce, _⟩ := hccell k hlt
    have hfar : farB cs[k] = true → cs.any farB = true := fun h => List.any_eq_true.2 ⟨_, List.getElem_mem hlt, h⟩
    have hsn : farB cs[k] = false → (cs.take (k + 1)).any farB = false := fun h => by rw [List.take_succ_eq_append_getElem hlt, List.any_append, hI]; simp [h]
    focus (refine gc_skip ?_; refine gx_next ?_; refine gc_seq ?_; refine gc_block ?_; refine gc_seq ?_; refine gc_region ?_; apply gw_d; exact w_index rfl rfl rfl rfl (by with_reducible exact rfl) (by omega); apply gw_d; exact w_load_elem rfl rfl rfl (by assumption) (by assumption) (by rfl); refine w_alloc rfl (fun _ => ?_); refine w_store_all rfl rfl rfl rfl rfl .here rfl ?_; refine gN ?_; refine gF rfl rfl rfl ?_; apply gw_d; exact w_load_box rfl rfl rfl .here rfl; apply gw_d; exact w_call rfl rfl (fun w s => within_ok w _ _ (by decide)) rfl; apply gw_d; exact det_not_dec rfl rfl rfl; refine gM rfl rfl (by conv => (lhs; whnf)) ?_; refine gw_guard_dec rfl rfl (fun _ => ?_) (fun _ => ?_); refine gU rfl ?_; refine gU rfl ?_; refine gU rfl ?_; refine gU rfl ?_; apply gw_d; exact det_pick_t (v := .bool _) rfl rfl rfl rfl; refine gO ?_; refine gc_if_true rfl ?_; refine gc_seq ?_; refine gc_region ?_; refine gM rfl rfl (by conv => (lhs; whnf)) ?_; refine gM rfl rfl (by conv => (lhs; whnf)) ?_; refine gO ?_; refine gc_ret ?_; refine gx_block_ret ?_; refine gx_then_ret ?_; refine gx_then_ret ?_; refine gx_block_ret ?_; refine gx_then_ret ?_; rotate_left; refine gF rfl rfl rfl ?_; apply gw_d; exact w_load_box rfl rfl rfl .here rfl; apply gw_d; exact w_call rfl rfl (fun w s => within_ok w _ _ (by decide)) rfl; apply gw_d; exact det_not_dec rfl rfl rfl; apply gw_d; exact det_pick_f (v := .bool _) rfl rfl rfl rfl; refine gO ?_; refine gc_if_dec rfl (fun _ => ?_) (fun _ => ?_); refine gc_seq ?_; refine gc_region ?_; refine gM rfl rfl (by conv => (lhs; whnf)) ?_; refine gM rfl rfl (by conv => (lhs; whnf)) ?_; refine gO ?_; refine gc_ret ?_; refine gx_block_ret ?_; refine gx_then_ret ?_; refine gx_then_ret ?_; refine gx_block_ret ?_; refine gx_then_ret ?_; rotate_left; refine gc_skip ?_; refine gx_block ?_; refine gx_next ?_; refine gc_region ?_; apply gw_d; exact det_ar rfl rfl rfl rfl rfl (by omega); refine gM rfl rfl (by conv => (lhs; whnf)) ?_; refine gw_nil ?_; rotate_left)
    · refine gx_ret2 (u := .slice _ _ _) (v := .int _ _) rfl rfl rfl (fun _ _ => ?_)
      exact bad 3 (by decide) (by unfold gradedE; rw [if_neg (by omega), if_pos (hfar (by unfold farB; simp only [Bool.or_eq_true, Bool.not_eq_true', decide_eq_false_iff_not]; left; assumption))]) _
    · refine gx_ret2 (u := .slice _ _ _) (v := .int _ _) rfl rfl rfl (fun _ _ => ?_)
      exact bad 3 (by decide) (by unfold gradedE; rw [if_neg (by omega), if_pos (hfar (by unfold farB; simp only [Bool.or_eq_true, Bool.not_eq_true', decide_eq_false_iff_not]; right; assumption))]) _
    · exact gx_round (k + 1) ⟨by omega, hsn (by unfold farB; simp only [Bool.or_eq_false_iff, Bool.not_eq_false', decide_eq_true_eq]; constructor <;> (apply Classical.not_not.1; assumption))⟩ (by omega) (by repeat (first | exact Keeps.refl | refine Keeps.upd rfl ?_ | refine Keeps.sets rfl ?_ | refine Keeps.havoc rfl ?_)) ⟨rfl, trivial⟩ Sub.tail
  obtain rfl : k = cs.length := by omega
  rw [List.take_length] at hI
  have hE : gradedE l cs = outlineE l := by unfold gradedE; rw [if_neg (by omega), if_neg (by rw [hI]; decide)]
  focus (refine gc_exit ?_; refine gx_then_exit ?_; refine gx_then_exit ?_; refine gx_block_exit ?_; refine gx_next ?_; refine gc_seq ?_; refine gc_seq ?_; refine gc_region ?_; refine gF rfl rfl rfl ?_; apply gw_d; exact w_load_box rfl rfl rfl .here rfl; apply gw_d; exact w_call rfl rfl (fun w s => outline_ok w _ l (hl.later s)) rfl; refine gM rfl rfl (by conv => (lhs; whnf)) ?_; refine gN ?_; refine gM rfl rfl (by conv => (lhs; whnf)) ?_; refine gC rfl rfl rfl rfl rfl ?_; refine gO ?_)
  refine gc_if_dec rfl (fun h => ?_) (fun h => ?_)
  · focus (refine gc_seq ?_; refine gc_region ?_; refine gM rfl rfl (by conv => (lhs; whnf)) ?_; refine gM rfl rfl (by conv => (lhs; whnf)) ?_; refine gM rfl rfl (by conv => (lhs; whnf)) ?_; refine gO ?_; refine gc_ret ?_; refine gx_then_ret ?_)
    refine gx_ret2 (u := .slice _ _ _) (v := .int _ _) rfl rfl rfl (fun _ _ => ?_)
    exact bad _ h hE _
  have hE0 : outlineE l = 0 := by simpa using h
  obtain ⟨hl2, hl16, hlines⟩ := outline_good hE0
  obtain ⟨ade, ce', hv, _, _, hbe, hecell⟩ := hl.edge' (by omega)
  injection hv with e1 e2 e3
  subst e1 e3
  have hin : ∀ x ∈ l, x.1.size ≤ maxLen ∧ x.2.length ≤ 40 ∧ ∀ p ∈ x.2, inI64 p.1 ∧ inI64 p.2 := fun x hx => by
    obtain ⟨u, hu⟩ := hl.edges_in x hx
    obtain ⟨i, hi, rfl⟩ := List.getElem_of_mem hx
    obtain ⟨_, _, _, hs, _⟩ := hecell i hi
    have := hlines i hi
    rw [gE_get hi] at this hs
    refine ⟨?_, this.2, hu.spots_in⟩
    obtain ⟨_, _, _, _, _, h3⟩ := hl
    obtain ⟨_, _, _, _, _, _, _, h4, _⟩ := h3 i hi
    exact h4
  focus (refine gc_skip ?_; refine gx_next ?_; refine gc_seq ?_; refine gc_region ?_; refine gF rfl rfl rfl ?_; apply gw_d; exact w_load_box rfl rfl rfl .here rfl; refine gM rfl rfl (by conv => (lhs; whnf)) ?_; apply gw_d; exact w_build (cells := #[.slice Ac cs.length cc, .int .i64 0]) rfl rfl (by rfl); apply gw_d; exact det_func rfl rfl rfl rfl; refine gM rfl rfl (by conv => (lhs; whnf)) ?_; refine gN ?_; refine gM rfl rfl (by conv => (lhs; whnf)) ?_; refine gO ?_; refine gc_seq ?_; refine gc_seq ?_; refine gc_region ?_; refine gF rfl rfl rfl ?_; apply gw_d; exact w_load_box rfl rfl rfl .here rfl; refine gL rfl rfl rfl ?_; refine gM rfl rfl (by conv => (lhs; whnf)) ?_; refine gO ?_; refine gc_block ?_)
  refine gc_own0 109 2 (gc_lines0 ?_)
  refine gc_loop (σ := Nat × Option Addr × Nat × List Nat) [57, 58, 59, 60, 12, 11, 61, 62, 63, 64, 65, 66, 67, 68, 69, 70, 71, 72, 73, 74, 75, 76, 10, 77, 56] (fun s => [(10, .slice s.2.1 s.1 s.2.2.1), (56, .int .i64 s.1)])
    (fun s => [Own s.2.1 s.1 s.2.2.1 109 2 (rowE (l.take s.1) s.2.2.2), LinesR ((l.take s.1).map (·.2)) s.2.2.2])
    (fun s => s.1 ≤ l.length ∧ s.2.2.2.length = s.1) (fun s => l.length - s.1) (0, none, 0, []) ⟨Nat.zero_le _, rfl⟩ ⟨rfl, rfl, trivial⟩ (.cons (.there .here) (.cons .here .nil)) ?_
  rintro ⟨k, A, c2, bs⟩ base ⟨hk, hbs⟩
  dsimp only at hk hbs ⊢
  focus (refine gc_seq ?_; refine gc_region ?_; refine gC rfl rfl rfl rfl rfl ?_; refine gO ?_; refine gc_seq ?_)
  refine gc_if_dec rfl (fun h => ?_) (fun h => ?_)
  · have hlt : k < l.length := by omega
    obtain ⟨A1, c1, hce, hsz, hc1, hm1, hsl⟩ := hecell k hlt
    obtain ⟨hn2, hn40⟩ := hlines k hlt
    focus (refine gc_skip ?_; refine gx_next ?_; refine gc_seq ?_; refine gc_block ?_; refine gc_seq ?_; refine gc_region ?_; refine gM rfl rfl (by conv => (lhs; whnf)) ?_; apply gw_d; exact w_index rfl rfl rfl rfl (by with_reducible exact rfl) (by omega); apply gw_d; exact w_load_elem rfl rfl rfl (by assumption) (by assumption) (by rfl); refine w_alloc rfl (fun _ => ?_); refine gM rfl rfl (by conv => (lhs; whnf)) ?_; refine w_store_all rfl rfl rfl rfl rfl .here rfl ?_; refine gO ?_)
    rename_i bv
    refine gc_block_draw Nat 15 (fun i => ([[], [], [1], [], [3], [], [], [5, 6], [], [], [9], [5, 6, 7, 8, 9, 10], [3, 4, 5, 6, 7, 8, 9, 10, 11], [1, 2, 3, 4, 5, 6, 7, 8, 9, 10, 11, 12], [1, 2, 3, 4, 5, 6, 7, 8, 9, 10, 11, 12, 13]] : List (List Nat)).getD i []) rfl (by kernel_rfl) ?_
    focus (apply gb_d; (intro γ; exact det_m rfl rfl (by conv => (lhs; whnf))); (intros; rfl); (intros; rfl); apply gb_d; (intro γ; exact w_field rfl rfl rfl); (intros; rfl); (intros; rfl); apply gb_d; (intro γ; exact w_load_box rfl rfl rfl .here rfl); (intros; rfl); (intros; rfl); apply gb_d; (intro γ; exact w_field rfl rfl rfl); (intros; rfl); (intros; rfl); apply gb_d; (intro γ; exact w_load_box rfl rfl rfl .here rfl); (intros; rfl); (intros; rfl); apply gb_d; (intro γ; exact det_m rfl rfl (by conv => (lhs; whnf))); (intros; rfl); (intros; rfl); apply gb_d; (intro γ; exact det_m rfl rfl (by conv => (lhs; whnf))); (intros; rfl); (intros; rfl); apply gb_d; (intro γ; exact w_callv rfl rfl rfl (fun w s => corner0_ok w _ _ cs _ (hcs.later s) (by omega) (by omega)) rfl); (intros; rfl); (intros; rfl); apply gb_d; (intro γ; exact det_m rfl rfl (by conv => (lhs; whnf))); (intros; rfl); (intros; rfl); apply gb_d; (intro γ; exact det_m rfl rfl (by conv => (lhs; whnf))); (intros; rfl); (intros; rfl); apply gb_d; (intro γ; exact det_ar rfl rfl rfl rfl rfl (by omega)); (intros; rfl); (intros; rfl); apply gb_d; (intro γ; exact w_callv rfl rfl rfl (fun w s => corner0_ok w _ _ cs _ (hcs.later s) (by omega) (by omega)) rfl); (intros; rfl); (intros; rfl))
    refine gb_call (l := fun _ => [.slice A1 (gE l k).2.length c1, .agg #[.int .i64 0, .int .i64 0], .agg #[.int .i64 0, .int .i64 0]]) (fun _ b => .slice (some ⟨b, 0, none⟩) (gE l k).2.length (gE l k).2.length) (fun _ b => [Box b 106 ((gE l k).2.flatMap encS).toArray]) (fun _ => rfl) (fun _ w s => moved0_ok w _ _ _ (hsl.later s) hn2 hn40) (fun _ => rfl) (fun _ _ => ⟨rfl, rfl⟩) (fun _ => ⟨rfl, rfl⟩) ?_
    refine gb_d (V := fun γ => .agg #[.string (gE l k).1, .slice (some ⟨γ 12, 0, none⟩) (gE l k).2.length (gE l k).2.length]) (fun γ => w_build rfl rfl (by rfl)) (fun _ _ => rfl) (fun _ => rfl) ?_
    refine gb_bslice1 (fun γ => .agg #[.string (gE l k).1, .slice (some ⟨γ 12, 0, none⟩) (gE l k).2.length (gE l k).2.length]) id id (fun _ => rfl) (fun _ => rfl) (fun _ => rfl) (fun _ => rfl) rfl rfl (fun _ _ => rfl) (fun _ => rfl) ?_
    refine GB.nil (fun β => ?_)
    have hr1 : rowE (l.take (k + 1)) (bs ++ [β 12]) = rowE (l.take k) bs ++ encE (gE l k, β 12) := by rw [List.take_succ_eq_append_getElem hlt, gE_get hlt]; exact rowE_snoc (by rw [List.length_take]; omega)
    have hr2 : (l.take (k + 1)).map (·.2) = (l.take k).map (·.2) ++ [(gE l k).2] := by rw [List.take_succ_eq_append_getElem hlt, gE_get hlt, List.map_append]; rfl
    refine gw_append (news := encE (gE l k, β 12)) rfl rfl rfl (.there (.there (.there .here))) rfl (fun w' s _ => ?_) (fun u hu => ?_) (by unfold maxLen; omega) (by omega) (by decide) rfl (fun A2 c3 => ?_)
    · refine ⟨⟨β 14, 0, none⟩, rfl, fun j u hu => ?_⟩
      have hbx := Box.cell (s.pick (.there .here)).head j
      rw [add_zero]
      refine Eq.trans hbx ?_
      change (#[Value.string (gE l k).1, Value.slice (some ⟨β 12, 0, none⟩) (gE l k).2.length (gE l k).2.length] : Array Value)[j]? = some u
      rw [List.getElem?_toArray]
      exact hu
    · simp only [encE, List.mem_cons, List.not_mem_nil, or_false] at hu
      rcases hu with rfl | rfl <;> rfl
    · focus (refine gM rfl rfl (by conv => (lhs; whnf)) ?_; refine gw_nil ?_; refine gx_block ?_; refine gx_next ?_; refine gc_region ?_; apply gw_d; exact det_ar rfl rfl rfl rfl rfl (by omega); refine gM rfl rfl (by conv => (lhs; whnf)) ?_; refine gw_nil ?_)
      refine gx_roundE (k + 1, A2, c3, bs ++ [β 12]) ⟨hlt, by simp [hbs]⟩ (by dsimp only; omega) (by repeat (first | exact Keeps.refl | refine Keeps.upd rfl ?_ | refine Keeps.sets rfl ?_ | refine Keeps.havoc rfl ?_)) ⟨rfl, rfl, trivial⟩ ?_
      dsimp only
      rw [hr1, hr2]
      refine Ent.trans (Sub.ent (.cons .here (.cons .here (.cons (.there (.there .here)) .nil)))) (Ent.cons LinesR.snoc ?_)
      intro q hq b hb
      rw [List.mem_singleton] at hq
      subst hq
      rcases List.mem_append.1 hb with h | h
      · exact ⟨_, List.mem_cons_of_mem _ List.mem_cons_self, h⟩
      · exact ⟨_, List.mem_cons_self, List.mem_singleton.1 h⟩
  · obtain rfl : k = l.length := by omega
    rw [List.take_length]
    refine gc_ent (deep_edges rfl hin) ?_
    focus (refine gc_exit ?_; refine gx_then_exit ?_; refine gx_then_exit ?_; refine gx_block_exit ?_; refine gx_next ?_; refine gc_seq ?_; refine gc_seq ?_; refine gc_region ?_; refine gM rfl rfl (by conv => (lhs; whnf)) ?_; apply gw_d; exact w_call rfl rfl (fun w s => outline_ok w _ l (Sl.deep s .here)) rfl; refine gM rfl rfl (by conv => (lhs; whnf)) ?_; refine gN ?_; refine gM rfl rfl (by conv => (lhs; whnf)) ?_; refine gC rfl rfl rfl rfl rfl ?_; refine gO ?_)
    refine gc_if_dec rfl (fun h => absurd hE0 h) (fun _ => ?_)
    focus (refine gc_skip ?_; refine gx_next ?_; refine gc_seq ?_; refine gc_region ?_; refine gM rfl rfl (by conv => (lhs; whnf)) ?_; refine gM rfl rfl (by conv => (lhs; whnf)) ?_; refine gM rfl rfl (by conv => (lhs; whnf)) ?_; refine gO ?_; refine gc_ret ?_)
    refine gx_ret2 (u := .slice _ _ _) (v := .int _ _) rfl rfl rfl (fun w' s => ?_)
    exact ⟨(A, c2, _), by rw [hE, hE0, if_pos rfl], by rw [hE, hE0, if_pos rfl]; exact s.sep⟩
end Go.Proofs.YtckhibfbdnoigaaGreatDoor

/- How pieces lie. -/
namespace Go.Proofs.YtckhibfbdnoigaaGreatDoor
open Go.RowKit
set_option maxRecDepth 100000
set_option maxHeartbeats 4000000

theorem Sl.at' {α : Type} {R : Rp α} {w : World} {B : Nat} {v : Value} {l : List α} (h : Sl R w B v l) (sz : Nat) (hsz : R.size = sz) (hl : 0 < l.length) : ∃ ad c, v = .slice (some ad) l.length c ∧ l.length ≤ c ∧ l.length ≤ 9223372036854775807 ∧ ad.block < B ∧
    ∀ k (hk : k < l.length), ∃ cs, (∀ j u, cs[j]? = some u → w.cell? (ad.add (k * sz + j)) = some u) ∧ R.rep w (fun b => b < B) l[k] cs := by
  subst hsz
  obtain ⟨A, c, hv, h1, h2, h3⟩ := h
  obtain ⟨ad, _, ha, hlt, _⟩ := h3 0 hl
  subst ha
  refine ⟨ad, c, hv, h1, by unfold maxLen at h2; omega, hlt, fun k hk => ?_⟩
  obtain ⟨ad', cs, ha, _, hc, hr⟩ := h3 k hk
  injection ha with ha
  subst ha
  exact ⟨cs, hc, hr⟩

structure Pc where
  name : ByteArray
  edges : List Edg
  grain : Int
  notches : List (Int × Int)
  corners : List (Int × Int)
  widths : List Int
  mt : Bool
def rPiece : Rp Pc where
  size := 7
  rep w S p cs := ∃ Ae ce An cn Ac cc Aw cw, cs = [.string p.name, .slice Ae p.edges.length ce, .int .i64 p.grain, .slice An p.notches.length cn, .slice Ac p.corners.length cc, .slice Aw p.widths.length cw, .bool p.mt] ∧
    (p.name.size ≤ maxLen ∧ inI64 p.grain) ∧ SlS rEdge w S (.slice Ae p.edges.length ce) p.edges ∧ SlS rSpot w S (.slice An p.notches.length cn) p.notches ∧ SlS rSpot w S (.slice Ac p.corners.length cc) p.corners ∧ SlS rInt w S (.slice Aw p.widths.length cw) p.widths
  len h := by obtain ⟨_, _, _, _, _, _, _, _, rfl, _⟩ := h; rfl
  mono hb h := by obtain ⟨Ae, ce, An, cn, Ac, cc, Aw, cw, h0, h1, h2, h3, h4, h5⟩ := h; exact ⟨Ae, ce, An, cn, Ac, cc, Aw, cw, h0, h1, h2.mono hb, h3.mono hb, h4.mono hb, h5.mono hb⟩
  grow hb h := by obtain ⟨Ae, ce, An, cn, Ac, cc, Aw, cw, h0, h1, h2, h3, h4, h5⟩ := h; exact ⟨Ae, ce, An, cn, Ac, cc, Aw, cw, h0, h1, h2.grow hb, h3.grow hb, h4.grow hb, h5.grow hb⟩
end Go.Proofs.YtckhibfbdnoigaaGreatDoor
