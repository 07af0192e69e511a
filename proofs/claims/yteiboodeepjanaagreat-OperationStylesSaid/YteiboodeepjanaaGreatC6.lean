/- Contracts: formulas that are names; numbers that are 0. -/
import Derived.Test.YteiboodeepjanaaGreatC5
import Derived.Test.YteiboodeepjanaaGreatFwH
namespace Go.Proofs.YteiboodeepjanaaGreat
open Go.RowKit
set_option maxRecDepth 100000
set_option maxHeartbeats 1000000

def rU32 : Rp Int where
  size := 1
  rep _ _ i cs := cs = [.int .u32 i]
  len h := by rw [h]; rfl
  mono _ h := h
  grow _ h := h
theorem Sl.u32 {w : World} {B : Nat} {v : Value} {l : List Int} (h : Sl rU32 w B v l) : ∃ A c, v = .slice A l.length c ∧ l.length ≤ c ∧ l.length ≤ 9223372036854775807 ∧
    ∀ k (hk : k < l.length), ∃ ad, A = some ad ∧ ad.block < B ∧ w.cell? (ad.add (k * 1)) = some (.int .u32 l[k]) := by
  obtain ⟨A, c, hv, h1, h2, h3⟩ := h
  refine ⟨A, c, hv, h1, by unfold maxLen at h2; omega, fun k hk => ?_⟩
  obtain ⟨ad, cs, ha, hlt, hc, hr⟩ := h3 k hk
  obtain rfl := hr
  exact ⟨ad, ha, hlt, hc 0 _ rfl⟩
theorem Sl.none0 {α : Type} (R : Rp α) (w : World) (A : Option Addr) (c : Nat) (hc : c ≤ 1000) : Sl R w w.heap.size (.slice A 0 c) ([] : List α) :=
  ⟨A, c, rfl, Nat.zero_le _, by unfold maxLen; omega, fun k hk => by cases hk⟩

/-- The length without the zeros at the end. -/
def tl (l : List Int) : Nat → Nat
  | 0 => 0
  | n + 1 => if l.getD n 0 = 0 then tl l n else n + 1
theorem tl_le (l : List Int) : ∀ n, tl l n ≤ n
  | 0 => Nat.le_refl _
  | n + 1 => by
    unfold tl
    split
    · exact Nat.le_succ_of_le (tl_le l n)
    · exact Nat.le_refl _

theorem trim_ok (w : World) (A : Option Addr) (c : Nat) (l : List Int) (hl : Sl rU32 w w.heap.size (.slice A l.length c) l) :
    Ok Tryz.prog 142 [.slice A l.length c].toArray w fun r _ => r = .slice A (tl l l.length) c := by
  obtain ⟨A', c', hv, hc, hm, hcell⟩ := hl.u32
  injection hv with e1 e2 e3
  subst e1 e3
  refine ok_enter Tryz.func142 rfl Tryz.ntmps142 rfl ?_
  focus (refine gc_seq ?_; refine gc_region ?_; apply gw_d; exact det_m rfl rfl (by conv => (lhs; whnf)); refine gw_nil ?_; refine gx_next ?_; refine gc_seq ?_; refine gc_region ?_; apply gw_d; exact det_m rfl rfl (by conv => (lhs; whnf)); apply gw_d; exact w_len rfl rfl rfl; apply gw_d; exact det_m rfl rfl (by conv => (lhs; whnf)); refine gw_nil ?_; refine gx_next ?_; refine gc_seq ?_; refine gc_block ?_)
  refine gc_loop (σ := Nat) [6, 7, 8, 9, 10, 11, 12, 13, 14, 15, 16, 17, 3] (fun k => [(3, .int .i64 k)]) (fun _ => []) (fun k => k ≤ l.length ∧ tl l k = tl l l.length) (fun k => k) l.length ⟨Nat.le_refl _, rfl⟩ ⟨rfl, trivial⟩ .nil ?_
  rintro k base ⟨hk, hI⟩
  focus (refine gc_seq ?_; refine gc_seq ?_; refine gc_region ?_; apply gw_d; exact det_m rfl rfl (by conv => (lhs; whnf)); apply gw_d; exact det_cmp rfl rfl rfl rfl rfl; apply gw_d; exact det_m rfl rfl (by conv => (lhs; whnf)); refine gw_guard_dec rfl rfl (fun _ => ?_) (fun _ => ?_); apply gw_d; exact det_m rfl rfl (by conv => (lhs; whnf)); apply gw_d; exact det_m rfl rfl (by conv => (lhs; whnf)); apply gw_d; exact det_ar rfl rfl rfl rfl rfl (by omega); rotate_left; apply gw_d; exact det_not rfl; apply gw_d; exact det_not rfl; apply gw_d; exact det_not rfl; apply gw_d; exact det_not rfl; apply gw_d; exact det_not rfl; apply gw_d; exact det_not rfl; apply gw_d; exact det_pick_f (v := .bool _) rfl rfl rfl rfl; refine gw_nil ?_; refine gx_next ?_; rotate_left)
  · obtain ⟨ad, rfl, hb, hce⟩ := hcell (k - 1) (by omega)
    obtain ⟨k', rfl⟩ : ∃ k', k = k' + 1 := ⟨k - 1, by omega⟩
    focus (apply gw_d; exact w_index rfl rfl rfl rfl (by with_reducible exact castS (by omega)) (by omega); apply gw_d; exact w_load_at rfl rfl rfl (by assumption) (by assumption); apply gw_d; exact det_cmp rfl rfl rfl rfl rfl; apply gw_d; exact det_pick_t (v := .bool _) rfl rfl rfl rfl; refine gw_nil ?_; refine gx_next ?_; refine gc_if_dec rfl (fun _ => ?_) (fun _ => ?_); refine gc_skip ?_; refine gx_next ?_; refine gc_block ?_; refine gc_region ?_; apply gw_d; exact det_m rfl rfl (by conv => (lhs; whnf)); apply gw_d; exact det_ar rfl rfl rfl rfl rfl (by omega); apply gw_d; exact det_m rfl rfl (by conv => (lhs; whnf)); refine gw_nil ?_; refine gx_block ?_; rotate_left; refine gc_exit ?_; refine gx_then_exit ?_; refine gx_then_exit ?_; refine gx_block_exit ?_; refine gx_next ?_; refine gc_seq ?_; refine gc_region ?_; apply gw_d; exact det_m rfl rfl (by conv => (lhs; whnf)); apply gw_d; exact det_m rfl rfl (by conv => (lhs; whnf)); apply gw_d; exact w_cut_hi rfl rfl rfl rfl (by with_reducible exact rfl) (by omega); apply gw_d; exact det_m rfl rfl (by conv => (lhs; whnf)); refine gw_nil ?_; refine gx_next ?_; refine gc_ret ?_; rotate_left)
    · rename_i h1 h2
      have h3 : l.getD k' 0 = 0 := by simpa [show k' < l.length by omega] using h2
      exact gx_round k' ⟨by omega, by rw [← hI]; show _ = (if l.getD k' 0 = 0 then tl l k' else k' + 1); rw [if_pos h3]⟩ (by omega) (by repeat (first | exact Keeps.refl | refine Keeps.upd rfl ?_ | refine Keeps.sets rfl ?_ | refine Keeps.havoc rfl ?_)) ⟨(congrArg (Value.int .i64) (show ((k' + 1 : Nat) : Int) - 1 = (k' : Int) by omega)), trivial⟩ .nil
    · rename_i h1 h2
      have h3 : ¬ l.getD k' 0 = 0 := by simpa [show k' < l.length by omega] using h2
      refine gx_ret1 (v := .slice _ _ _) rfl rfl (fun _ _ => ?_)
      rw [← hI]
      show Value.slice _ (k' + 1) _ = .slice _ (if l.getD k' 0 = 0 then tl l k' else k' + 1) _
      rw [if_neg h3]
  · focus (refine gc_if_false rfl ?_; refine gc_exit ?_; refine gx_then_exit ?_; refine gx_then_exit ?_; refine gx_block_exit ?_; refine gx_next ?_; refine gc_seq ?_; refine gc_region ?_; apply gw_d; exact det_m rfl rfl (by conv => (lhs; whnf)); apply gw_d; exact det_m rfl rfl (by conv => (lhs; whnf)); apply gw_d; exact w_cut_hi rfl rfl rfl rfl (by with_reducible exact rfl) (by omega); apply gw_d; exact det_m rfl rfl (by conv => (lhs; whnf)); refine gw_nil ?_; refine gx_next ?_; refine gc_ret ?_)
    refine gx_ret1 (v := .slice _ _ _) rfl rfl (fun _ _ => ?_)
    obtain rfl : k = 0 := by omega
    rw [← hI]
    rfl

theorem Sl.box32 {w0 w : World} {L L' : List Res} {b c : Nat} {bt : TypeId} {l : List Int} (s : St w0 L w) (hp : Pick L (Box b bt (l.map (Value.int .u32)).toArray) L') (h1 : l.length ≤ c) (h2 : c ≤ 1000) : Sl rU32 w w.heap.size (.slice (some ⟨b, 0, none⟩) l.length c) l := by
  have hs := s.pick hp
  have hb : b < w.heap.size := (hs.sep.fp _ List.mem_cons_self b rfl).2
  refine ⟨_, c, rfl, h1, by unfold maxLen; omega, fun k hk => ⟨⟨b, 0, none⟩, [.int .u32 l[k]], rfl, hb, fun j u hu => ?_, rfl⟩⟩
  cases j with
  | succ j => simp at hu
  | zero =>
    have hadd : (⟨b, 0, none⟩ : Addr).add (k * rU32.size + 0) = ⟨b, k, none⟩ := by unfold Addr.add rU32; split <;> simp_all
    rw [hadd, Box.cell hs.head k]
    simp at hu
    subst hu
    simp [hk]

theorem of1_ok (w : World) : OkM Tryz.prog 123 [.int .u64 1].toArray w (fun b => .slice (some ⟨b, 0, none⟩) 1 2) (fun b => [Box b 171 #[.int .u32 1, .int .u32 0]]) := by
  unfold OkM
  refine ok_enter Tryz.func123 rfl Tryz.ntmps123 rfl ?_
  focus (refine gc_seq ?_; refine gc_region ?_; apply gw_d; exact det_m rfl rfl (by conv => (lhs; whnf)); refine gw_nil ?_; refine gx_next ?_; refine gc_seq ?_; refine gc_region ?_; apply gw_d; exact det_m rfl rfl (by conv => (lhs; whnf)); apply gw_d; exact det_conv (r := 1) rfl rfl rfl (by rfl); apply gw_d; exact det_m rfl rfl (by conv => (lhs; whnf)); apply gw_d; exact det_shr (r := 0) rfl rfl rfl rfl (by decide) (by rfl); apply gw_d; exact det_conv (r := 0) rfl rfl rfl (by rfl))
  refine gw_bslice (cells := #[.int .u32 1, .int .u32 0]) rfl ?_ ?_ ?_ (fun b => ?_)
  · rfl
  · rfl
  · kernel_rfl
  focus (apply gw_d; exact w_call rfl rfl (fun w s => trim_ok w _ _ [1, 0] (Sl.box32 s .here (by decide) (by decide))) rfl; apply gw_d; exact det_m rfl rfl (by conv => (lhs; whnf)); refine gw_nil ?_; refine gx_next ?_; refine gc_ret ?_)
  refine gx_ret1 rfl rfl fun w s => ⟨b, rfl, s.sep⟩

theorem natCmp0_ok (w : World) (A B : Option Addr) (c d : Nat) (l m : List Int) (hl : Sl rU32 w w.heap.size (.slice A l.length c) l) (hm : Sl rU32 w w.heap.size (.slice B m.length d) m) (h1 : tl l l.length = 0) (h2 : tl m m.length = 0) :
    Ok Tryz.prog 125 [.slice A l.length c, .slice B m.length d].toArray w fun r _ => r = .int .i64 0 := by
  have t1 : ∀ w' L, St w L w' → Ok Tryz.prog 142 [.slice A l.length c].toArray w' fun r _ => r = .slice A 0 c := fun w' L s => by rw [← h1]; exact trim_ok w' A c l (hl.later s)
  have t2 : ∀ w' L, St w L w' → Ok Tryz.prog 142 [.slice B m.length d].toArray w' fun r _ => r = .slice B 0 d := fun w' L s => by rw [← h2]; exact trim_ok w' B d m (hm.later s)
  refine ok_enter Tryz.func125 rfl Tryz.ntmps125 rfl ?_
  focus (refine gc_seq ?_; refine gc_region ?_; apply gw_d; exact det_m rfl rfl (by conv => (lhs; whnf)); refine gw_nil ?_; refine gx_next ?_; refine gc_seq ?_; refine gc_region ?_; apply gw_d; exact det_m rfl rfl (by conv => (lhs; whnf)); apply gw_d; exact w_call rfl rfl (fun w s => t1 w _ s) rfl; apply gw_d; exact det_m rfl rfl (by conv => (lhs; whnf)); apply gw_d; exact w_call rfl rfl (fun w s => t2 w _ s) rfl; apply gw_d; exact det_m rfl rfl (by conv => (lhs; whnf)); apply gw_d; exact det_m rfl rfl (by conv => (lhs; whnf)); refine gw_nil ?_; refine gx_next ?_; refine gc_seq ?_; refine gc_seq ?_; refine gc_region ?_; apply gw_d; exact det_m rfl rfl (by conv => (lhs; whnf)); apply gw_d; exact w_len rfl rfl rfl; apply gw_d; exact det_m rfl rfl (by conv => (lhs; whnf)); apply gw_d; exact w_len rfl rfl rfl; apply gw_d; exact w_call rfl rfl (fun w s => compare_ok w _ _) rfl; apply gw_d; exact det_m rfl rfl (by conv => (lhs; whnf)); refine gw_nil ?_; refine gx_next ?_; refine gc_seq ?_; refine gc_region ?_; apply gw_d; exact det_m rfl rfl (by conv => (lhs; whnf)); apply gw_d; exact det_cmp rfl rfl rfl rfl rfl; refine gw_nil ?_; refine gx_next ?_)
  refine gc_if_dec rfl (fun h => absurd (show signI ((0 : Nat) : Int) ((0 : Nat) : Int) = 0 by rfl) h) (fun _ => ?_)
  focus (refine gc_skip ?_; refine gx_next ?_; refine gc_seq ?_; refine gc_seq ?_; refine gc_region ?_; apply gw_d; exact det_m rfl rfl (by conv => (lhs; whnf)); apply gw_d; exact w_len rfl rfl rfl; apply gw_d; exact det_ar rfl rfl rfl rfl rfl (by omega); apply gw_d; exact det_m rfl rfl (by conv => (lhs; whnf)); refine gw_nil ?_; refine gx_next ?_; refine gc_block ?_)
  refine gc_loop (σ := Unit) [23, 24, 27, 28, 29, 30, 31, 32, 33, 34, 35, 7, 36, 37, 38, 4, 25, 26, 6] (fun _ => [(6, .int .i64 (((0 : Nat) : Int) - 1))]) (fun _ => []) (fun _ => True) (fun _ => 0) () trivial ⟨rfl, trivial⟩ .nil ?_
  rintro k base -
  focus (refine gc_seq ?_; refine gc_seq ?_; refine gc_region ?_; apply gw_d; exact det_m rfl rfl (by conv => (lhs; whnf)); apply gw_d; exact det_cmp rfl rfl rfl rfl rfl; refine gw_nil ?_; refine gx_next ?_)
  refine gc_if_dec rfl (fun h => absurd h (by omega)) (fun _ => ?_)
  focus (refine gc_exit ?_; refine gx_then_exit ?_; refine gx_then_exit ?_; refine gx_block_exit ?_; refine gx_next ?_; refine gc_seq ?_; refine gc_region ?_; apply gw_d; exact det_m rfl rfl (by conv => (lhs; whnf)); refine gw_nil ?_; refine gx_next ?_; refine gc_ret ?_)
  refine gx_ret1 (v := .int _ _) rfl rfl (fun _ _ => ?_)
  rfl

/-- Norm of what is 0. -/
theorem natNorm0_ok (w : World) (A : Option Addr) (c : Nat) (l : List Int) (hl : Sl rU32 w w.heap.size (.slice A l.length c) l) (h1 : tl l l.length = 0) :
    OkM Tryz.prog 145 [.slice A l.length c].toArray w (fun b => .slice (some ⟨b, 0, none⟩) 0 0) (fun _ => []) := by
  have t1 : ∀ w' L, St w L w' → Ok Tryz.prog 142 [.slice A l.length c].toArray w' fun r _ => r = .slice A 0 c := fun w' L s => by rw [← h1]; exact trim_ok w' A c l (hl.later s)
  unfold OkM
  refine ok_enter Tryz.func145 rfl Tryz.ntmps145 rfl ?_
  focus (refine gc_seq ?_; refine gc_region ?_; apply gw_d; exact det_m rfl rfl (by conv => (lhs; whnf)); refine gw_nil ?_; refine gx_next ?_; refine gc_seq ?_; refine gc_region ?_; apply gw_d; exact det_m rfl rfl (by conv => (lhs; whnf)); apply gw_d; exact w_call rfl rfl (fun w s => t1 w _ s) rfl; apply gw_d; exact det_m rfl rfl (by conv => (lhs; whnf)); refine gw_nil ?_; refine gx_next ?_; refine gc_seq ?_; refine gc_region ?_; apply gw_d; exact det_m rfl rfl (by conv => (lhs; whnf)); apply gw_d; exact w_len rfl rfl rfl)
  refine gw_makeN (n := 0) rfl rfl rfl (by rfl) (by rfl) (by decide) (by decide) (fun b => ?_)
  focus (apply gw_d; exact det_m rfl rfl (by conv => (lhs; whnf)); refine gw_nil ?_; refine gx_next ?_; refine gc_seq ?_; refine gc_region ?_; apply gw_d; exact det_m rfl rfl (by conv => (lhs; whnf)); apply gw_d; exact det_m rfl rfl (by conv => (lhs; whnf)); apply gw_d; exact det_copy0 rfl rfl rfl rfl; refine gw_nil ?_; refine gx_next ?_; refine gc_seq ?_; refine gc_region ?_; apply gw_d; exact det_m rfl rfl (by conv => (lhs; whnf)); apply gw_d; exact det_m rfl rfl (by conv => (lhs; whnf)); refine gw_nil ?_; refine gx_next ?_; refine gc_ret ?_)
  exact gx_ret1 rfl rfl fun w s => ⟨b, rfl, trivial⟩

theorem natMul0_ok (w : World) (A B : Option Addr) (c d : Nat) (l m : List Int) (hl : Sl rU32 w w.heap.size (.slice A l.length c) l) (hm : Sl rU32 w w.heap.size (.slice B m.length d) m) (h1 : tl l l.length = 0) (h2 : tl m m.length = 1) :
    OkM Tryz.prog 127 [.slice A l.length c, .slice B m.length d].toArray w (fun b => .slice (some ⟨b, 0, none⟩) 0 1) (fun _ => []) := by
  have t1 : ∀ w' L, St w L w' → Ok Tryz.prog 142 [.slice A l.length c].toArray w' fun r _ => r = .slice A 0 c := fun w' L s => by rw [← h1]; exact trim_ok w' A c l (hl.later s)
  have t2 : ∀ w' L, St w L w' → Ok Tryz.prog 142 [.slice B m.length d].toArray w' fun r _ => r = .slice B 1 d := fun w' L s => by rw [← h2]; exact trim_ok w' B d m (hm.later s)
  unfold OkM
  refine ok_enter Tryz.func127 rfl Tryz.ntmps127 rfl ?_
  focus (refine gc_seq ?_; refine gc_region ?_; apply gw_d; exact det_m rfl rfl (by conv => (lhs; whnf)); refine gw_nil ?_; refine gx_next ?_; refine gc_seq ?_; refine gc_region ?_; apply gw_d; exact det_m rfl rfl (by conv => (lhs; whnf)); apply gw_d; exact w_call rfl rfl (fun w s => t1 w _ s) rfl; apply gw_d; exact det_m rfl rfl (by conv => (lhs; whnf)); apply gw_d; exact w_call rfl rfl (fun w s => t2 w _ s) rfl; apply gw_d; exact det_m rfl rfl (by conv => (lhs; whnf)); apply gw_d; exact det_m rfl rfl (by conv => (lhs; whnf)); refine gw_nil ?_; refine gx_next ?_; refine gc_seq ?_; refine gc_region ?_; apply gw_d; exact det_m rfl rfl (by conv => (lhs; whnf)); apply gw_d; exact w_len rfl rfl rfl; apply gw_d; exact det_m rfl rfl (by conv => (lhs; whnf)); apply gw_d; exact w_len rfl rfl rfl; apply gw_d; exact det_ar rfl rfl rfl rfl rfl (by omega))
  refine gw_makeN (n := 1) rfl rfl rfl (by rfl) (by rfl) (by decide) (by decide) (fun b => ?_)
  rw [show madeCells (Value.int .u32 0).cells (1 * 1) = #[.int .u32 0] by kernel_rfl]
  focus (apply gw_d; exact det_m rfl rfl (by conv => (lhs; whnf)); refine gw_nil ?_; refine gx_next ?_; refine gc_seq ?_; refine gc_seq ?_; refine gc_region ?_; apply gw_d; exact det_m rfl rfl (by conv => (lhs; whnf)); apply gw_d; exact w_len rfl rfl rfl; apply gw_d; exact det_m rfl rfl (by conv => (lhs; whnf)); refine gw_nil ?_; refine gx_next ?_; refine gc_block ?_)
  refine gc_loop (σ := Unit) [24, 25, 26, 27, 6, 7, 8, 28, 29, 30, 31, 32, 33, 34, 9, 10, 35, 36, 37, 38, 39, 40, 41, 42, 43, 44, 45, 46, 47, 48, 49, 50, 51, 52, 53, 54, 55, 56, 57, 58, 59, 60, 61, 62, 63, 64, 65, 66, 67, 68, 23] (fun _ => [(23, .int .i64 0)]) (fun _ => [Box b 171 #[.int .u32 0]]) (fun _ => True) (fun _ => 0) () trivial ⟨rfl, trivial⟩ (.cons .here .nil) ?_
  rintro k base -
  focus (refine gc_seq ?_; refine gc_region ?_; apply gw_d; exact det_cmp rfl rfl rfl rfl rfl; refine gw_nil ?_; refine gx_next ?_; refine gc_seq ?_)
  refine gc_if_dec rfl (fun h => absurd h (by omega)) (fun _ => ?_)
  focus (refine gc_exit ?_; refine gx_then_exit ?_; refine gx_then_exit ?_; refine gx_block_exit ?_; refine gx_next ?_; refine gc_seq ?_; refine gc_region ?_; apply gw_d; exact det_m rfl rfl (by conv => (lhs; whnf)); apply gw_d; exact w_call rfl rfl (fun w s => trim_ok w _ _ [0] (Sl.box32 s .here (by decide) (by decide))) rfl; apply gw_d; exact det_m rfl rfl (by conv => (lhs; whnf)); refine gw_nil ?_; refine gx_next ?_; refine gc_ret ?_)
  exact gx_ret1 rfl rfl fun w s => ⟨b, rfl, trivial⟩

theorem signed0_ok (w : World) (g : Bool) (A : Option Addr) (c : Nat) (l : List Int) (hl : Sl rU32 w w.heap.size (.slice A l.length c) l) (h1 : tl l l.length = 0) :
    OkM Tryz.prog 126 [.bool g, .slice A l.length c].toArray w (fun b => .agg #[.bool false, .slice (some ⟨b, 0, none⟩) 0 0]) (fun _ => []) := by
  unfold OkM
  cases g
  all_goals
    refine ok_enter Tryz.func126 rfl Tryz.ntmps126 rfl ?_
    focus (refine gc_seq ?_; refine gc_region ?_; refine w_alloc rfl (fun _ => ?_); refine gw_nil ?_; refine gx_next ?_; refine gc_seq ?_; refine gc_region ?_; apply gw_d; exact det_m rfl rfl (by conv => (lhs; whnf)))
    refine gw_callm rfl (fun w s => natNorm0_ok w A c l (hl.later s) h1) rfl (fun b => ?_)
    focus (first | (apply gw_d; exact det_m rfl rfl (by conv => (lhs; whnf)); refine gw_nil ?_; refine gx_next ?_; refine gc_seq ?_; refine gc_region ?_; apply gw_d; exact det_m rfl rfl (by conv => (lhs; whnf)); apply gw_d; exact det_m rfl rfl (by conv => (lhs; whnf)); apply gw_d; exact det_m rfl rfl (by conv => (lhs; whnf)); apply gw_d; exact w_len rfl rfl rfl; apply gw_d; exact det_cmp rfl rfl rfl rfl rfl; apply gw_d; exact det_pick_t (v := .bool _) rfl rfl rfl rfl; apply gw_d; exact det_m rfl rfl (by conv => (lhs; whnf)); apply gw_d; exact w_build (cells := #[.bool false, .slice (some ⟨b, 0, none⟩) 0 0]) rfl rfl (by kernel_rfl); refine w_store_all rfl rfl rfl rfl rfl .here rfl ?_; refine gw_nil ?_; refine gx_next ?_; refine gc_ret ?_) | (apply gw_d; exact det_m rfl rfl (by conv => (lhs; whnf)); refine gw_nil ?_; refine gx_next ?_; refine gc_seq ?_; refine gc_region ?_; apply gw_d; exact det_m rfl rfl (by conv => (lhs; whnf)); apply gw_d; exact det_m rfl rfl (by conv => (lhs; whnf)); apply gw_d; exact det_not rfl; apply gw_d; exact det_not rfl; apply gw_d; exact det_not rfl; apply gw_d; exact det_pick_f (v := .bool _) rfl rfl rfl rfl; apply gw_d; exact det_m rfl rfl (by conv => (lhs; whnf)); apply gw_d; exact w_build (cells := #[.bool false, .slice (some ⟨b, 0, none⟩) 0 0]) rfl rfl (by kernel_rfl); refine w_store_all rfl rfl rfl rfl rfl .here rfl ?_; refine gw_nil ?_; refine gx_next ?_; refine gc_ret ?_))
    exact gx_retc rfl rfl .here rfl fun w s => ⟨b, rfl, trivial⟩
theorem positive_ok (w : World) (A : Option Addr) (n c : Nat) :
    Ok Tryz.prog 104 [.slice A n c].toArray w fun r _ => r = .agg #[.bool false, .slice A n c] := by
  refine ok_enter Tryz.func104 rfl Tryz.ntmps104 rfl ?_
  focus (refine gc_seq ?_; refine gc_region ?_; refine w_alloc rfl (fun _ => ?_); refine gw_nil ?_; refine gx_next ?_; refine gc_seq ?_; refine gc_region ?_; apply gw_d; exact det_m rfl rfl (by conv => (lhs; whnf)); apply gw_d; exact w_build (cells := #[.bool false, .slice A n c]) rfl rfl (by kernel_rfl); refine w_store_all rfl rfl rfl rfl rfl .here rfl ?_; refine gw_nil ?_; refine gx_next ?_; refine gc_ret ?_)
  exact gx_retc rfl rfl .here rfl fun w s => rfl
theorem intNorm0_ok (w : World) (g : Bool) (A : Option Addr) (c : Nat) (l : List Int) (hl : Sl rU32 w w.heap.size (.slice A l.length c) l) (h1 : tl l l.length = 0) :
    OkM Tryz.prog 124 [.agg #[.bool g, .slice A l.length c]].toArray w (fun b => .agg #[.bool false, .slice (some ⟨b, 0, none⟩) 0 0]) (fun _ => []) := by
  unfold OkM
  refine ok_enter Tryz.func124 rfl Tryz.ntmps124 rfl ?_
  focus (refine gc_seq ?_; refine gc_region ?_; refine gw_boxd (v := .agg _) rfl rfl (fun _ => ?_); refine w_alloc rfl (fun _ => ?_); refine gw_nil ?_; refine gx_next ?_; refine gc_seq ?_; refine gc_region ?_; apply gw_d; exact w_field rfl rfl rfl; apply gw_d; exact w_load_box rfl rfl rfl (.there .here) rfl; apply gw_d; exact w_field rfl rfl rfl; apply gw_d; exact w_load_box rfl rfl rfl (.there .here) rfl)
  refine gw_callm rfl (fun w s => signed0_ok w g A c l (hl.later s) h1) rfl (fun b => ?_)
  focus (refine w_store_all rfl rfl rfl rfl rfl .here rfl ?_; refine gw_nil ?_; refine gx_next ?_; refine gc_ret ?_)
  exact gx_retc rfl rfl .here rfl fun w s => ⟨b, rfl, trivial⟩
theorem zero0_ok (w : World) : Ok Tryz.prog 122 [.slice none 0 0].toArray w fun r _ => r = .bool true := by
  refine ok_enter Tryz.func122 rfl Tryz.ntmps122 rfl ?_
  focus (refine gc_seq ?_; refine gc_region ?_; apply gw_d; exact det_m rfl rfl (by conv => (lhs; whnf)); refine gw_nil ?_; refine gx_next ?_; refine gc_seq ?_; refine gc_region ?_; apply gw_d; exact det_m rfl rfl (by conv => (lhs; whnf)); apply gw_d; exact w_call rfl rfl (fun w s => natCmp0_ok w none none 0 0 [] [] (Sl.none0 _ w _ _ (by decide)) (Sl.none0 _ w _ _ (by decide)) rfl rfl) rfl; apply gw_d; exact det_cmp rfl rfl rfl rfl rfl; apply gw_d; exact det_m rfl rfl (by conv => (lhs; whnf)); refine gw_nil ?_; refine gx_next ?_; refine gc_ret ?_)
  refine gx_ret1 (v := .bool _) rfl rfl (fun _ _ => ?_)
  rfl
def ratio0 : Value := .agg #[.bool false, .slice none 0 0, .slice none 0 0]
theorem value0_ok (w : World) : OkM Tryz.prog 101 [.agg #[.bool false, .slice none 0 0, .slice none 0 0]].toArray w (fun b => .agg #[.bool false, .slice none 0 0, .slice (some ⟨b, 0, none⟩) 1 2]) (fun b => [Box b 171 #[.int .u32 1, .int .u32 0]]) := by
  unfold OkM
  refine ok_enter Tryz.func101 rfl Tryz.ntmps101 rfl ?_
  focus (refine gc_seq ?_; refine gc_region ?_; refine gw_boxd (v := .agg _) rfl rfl (fun _ => ?_); refine w_alloc rfl (fun _ => ?_); refine gw_nil ?_; refine gx_next ?_; refine gc_seq ?_; refine gc_seq ?_; refine gc_region ?_; apply gw_d; exact w_field rfl rfl rfl; apply gw_d; exact w_load_box rfl rfl rfl (.there .here) rfl; apply gw_d; exact w_call rfl rfl (fun w s => zero0_ok w) rfl; refine gw_nil ?_; refine gx_next ?_)
  refine gc_if_true rfl ?_
  focus (refine gc_seq ?_; refine gc_region ?_)
  refine gw_callm rfl (fun w s => of1_ok w) rfl (fun b => ?_)
  focus (apply gw_d; exact w_build (cells := #[.bool false, .slice none 0 0, .slice (some ⟨b, 0, none⟩) 1 2]) rfl rfl (by kernel_rfl); refine w_store_all rfl rfl rfl rfl rfl (.there .here) rfl ?_; refine gw_nil ?_; refine gx_next ?_; refine gc_ret ?_; refine gx_then_ret ?_)
  refine gx_retc rfl rfl .here rfl fun w s => ⟨b, rfl, (s.sub (.cons (.there .here) .nil)).sep⟩
theorem intCmp0_ok (w : World) (A B : Nat) : Ok Tryz.prog 102 [.agg #[.bool false, .slice (some ⟨A, 0, none⟩) 0 0], .agg #[.bool false, .slice (some ⟨B, 0, none⟩) 0 0]].toArray w fun r _ => r = .int .i64 0 := by
  refine ok_enter Tryz.func102 rfl Tryz.ntmps102 rfl ?_
  focus (refine gc_seq ?_; refine gc_region ?_; refine gw_boxd (v := .agg _) rfl rfl (fun _ => ?_); refine gw_boxd (v := .agg _) rfl rfl (fun _ => ?_); apply gw_d; exact det_m rfl rfl (by conv => (lhs; whnf)); refine gw_nil ?_; refine gx_next ?_; refine gc_seq ?_)
  refine gc_block_draw Nat 4 (fun i => ([[], [0], [], [0, 1, 2]] : List (List Nat)).getD i []) rfl (by kernel_rfl) ?_
  focus (apply gb_d; (intro γ; exact w_load_boxN rfl rfl rfl (.there .here) rfl); (intros; rfl); (intros; rfl))
  refine gb_call (l := fun _ => [.agg #[.bool false, .slice (some ⟨A, 0, none⟩) 0 0]]) (fun _ b => .agg #[.bool false, .slice (some ⟨b, 0, none⟩) 0 0]) (fun _ _ => []) (fun _ => rfl) (fun _ w s => intNorm0_ok w _ _ _ [] (Sl.none0 _ w _ _ (by decide)) rfl) (fun _ => rfl) (fun _ _ => ⟨rfl, rfl⟩) (fun _ => ⟨rfl, rfl⟩) ?_
  focus (apply gb_d; (intro γ; exact w_load_boxN rfl rfl rfl .here rfl); (intros; rfl); (intros; rfl))
  refine gb_call (l := fun _ => [.agg #[.bool false, .slice (some ⟨B, 0, none⟩) 0 0]]) (fun _ b => .agg #[.bool false, .slice (some ⟨b, 0, none⟩) 0 0]) (fun _ _ => []) (fun _ => rfl) (fun _ w s => intNorm0_ok w _ _ _ [] (Sl.none0 _ w _ _ (by decide)) rfl) (fun _ => rfl) (fun _ _ => ⟨rfl, rfl⟩) (fun _ => ⟨rfl, rfl⟩) ?_
  focus (skip)
  refine GB.nil (fun β => ?_)
  focus (refine w_store_all rfl rfl rfl rfl rfl (.there .here) rfl ?_; refine w_store_all rfl rfl rfl rfl rfl (.there .here) rfl ?_; refine gw_nil ?_; refine gx_next ?_; refine gc_seq ?_; refine gc_block ?_; refine gc_seq ?_; refine gc_region ?_; apply gw_d; exact w_field rfl rfl rfl; apply gw_d; exact w_load_box rfl rfl rfl (.there .here) rfl; apply gw_d; exact det_m rfl rfl (by conv => (lhs; whnf)); apply gw_d; exact det_not rfl; apply gw_d; exact det_not rfl; apply gw_d; exact det_not rfl; apply gw_d; exact det_pick_f (v := .bool _) rfl rfl rfl rfl; apply gw_d; exact det_m rfl rfl (by conv => (lhs; whnf)); refine gw_nil ?_; refine gx_next ?_; refine gc_if_false rfl ?_; refine gc_seq ?_; refine gc_region ?_; apply gw_d; exact w_field rfl rfl rfl; apply gw_d; exact w_load_box rfl rfl rfl (.there .here) rfl; apply gw_d; exact det_not_ rfl rfl rfl; apply gw_d; exact det_m rfl rfl (by conv => (lhs; whnf)); apply gw_d; exact w_field rfl rfl rfl; apply gw_d; exact w_load_box rfl rfl rfl .here rfl; apply gw_d; exact det_pick_t (v := .bool _) rfl rfl rfl rfl; apply gw_d; exact det_m rfl rfl (by conv => (lhs; whnf)); refine gw_nil ?_; refine gx_next ?_; refine gc_if_false rfl ?_; refine gc_seq ?_; refine gc_region ?_; apply gw_d; exact w_field rfl rfl rfl; apply gw_d; exact w_load_box rfl rfl rfl (.there .here) rfl; apply gw_d; exact det_m rfl rfl (by conv => (lhs; whnf)); refine gw_nil ?_; refine gx_next ?_; refine gc_if_false rfl ?_; refine gc_skip ?_; refine gx_block ?_; refine gx_next ?_; refine gc_seq ?_; refine gc_region ?_; apply gw_d; exact w_field rfl rfl rfl; apply gw_d; exact w_load_box rfl rfl rfl (.there .here) rfl; apply gw_d; exact w_field rfl rfl rfl; apply gw_d; exact w_load_box rfl rfl rfl .here rfl; apply gw_d; exact w_call rfl rfl (fun w s => natCmp0_ok w (some ⟨β 1, 0, none⟩) (some ⟨β 3, 0, none⟩) 0 0 [] [] (Sl.none0 _ w _ _ (by decide)) (Sl.none0 _ w _ _ (by decide)) rfl rfl) rfl; apply gw_d; exact det_m rfl rfl (by conv => (lhs; whnf)); refine gw_nil ?_; refine gx_next ?_; refine gc_ret ?_)
  refine gx_ret1 (v := .int _ _) rfl rfl (fun _ _ => ?_)
  rfl

theorem intMul0_ok (w : World) (A B : Option Addr) (c d : Nat) (l m : List Int) (hl : Sl rU32 w w.heap.size (.slice A l.length c) l) (hm : Sl rU32 w w.heap.size (.slice B m.length d) m) (h1 : tl l l.length = 0) (h2 : tl m m.length = 1) :
    OkM Tryz.prog 103 [.agg #[.bool false, .slice A l.length c], .agg #[.bool false, .slice B m.length d]].toArray w (fun b => .agg #[.bool false, .slice (some ⟨b, 0, none⟩) 0 0]) (fun _ => []) := by
  unfold OkM
  refine ok_enter Tryz.func103 rfl Tryz.ntmps103 rfl ?_
  focus (refine gc_seq ?_; refine gc_region ?_; refine gw_boxd (v := .agg _) rfl rfl (fun _ => ?_); refine gw_boxd (v := .agg _) rfl rfl (fun _ => ?_); refine w_alloc rfl (fun _ => ?_); refine gw_nil ?_; refine gx_next ?_; refine gc_seq ?_)
  refine gc_block_draw Nat 11 (fun i => ([[], [0], [], [2], [0, 1, 2, 3], [], [5], [], [7], [5, 6, 7, 8], [0, 1, 2, 3, 4, 5, 6, 7, 8, 9]] : List (List Nat)).getD i []) rfl (by kernel_rfl) ?_
  focus (apply gb_d; (intro γ; exact w_field rfl rfl rfl); (intros; rfl); (intros; rfl); apply gb_d; (intro γ; exact w_load_box rfl rfl rfl (.there (.there .here)) rfl); (intros; rfl); (intros; rfl); apply gb_d; (intro γ; exact w_field rfl rfl rfl); (intros; rfl); (intros; rfl); apply gb_d; (intro γ; exact w_load_box rfl rfl rfl (.there .here) rfl); (intros; rfl); (intros; rfl); apply gb_d; (intro γ; exact det_bne rfl rfl rfl rfl rfl); (intros; rfl); (intros; rfl); apply gb_d; (intro γ; exact w_field rfl rfl rfl); (intros; rfl); (intros; rfl); apply gb_d; (intro γ; exact w_load_box rfl rfl rfl (.there (.there .here)) rfl); (intros; rfl); (intros; rfl); apply gb_d; (intro γ; exact w_field rfl rfl rfl); (intros; rfl); (intros; rfl); apply gb_d; (intro γ; exact w_load_box rfl rfl rfl (.there .here) rfl); (intros; rfl); (intros; rfl))
  refine gb_call (l := fun _ => [.slice A l.length c, .slice B m.length d]) (fun _ b => .slice (some ⟨b, 0, none⟩) 0 1) (fun _ _ => []) (fun _ => rfl) (fun _ w s => natMul0_ok w A B c d l m (hl.later s) (hm.later s) h1 h2) (fun _ => rfl) (fun _ _ => ⟨rfl, rfl⟩) (fun _ => ⟨rfl, rfl⟩) ?_
  refine gb_call (l := fun γ => [.bool false, .slice (some ⟨γ 9, 0, none⟩) 0 1]) (fun _ b => .agg #[.bool false, .slice (some ⟨b, 0, none⟩) 0 0]) (fun _ _ => []) (fun _ => rfl) (fun γ w s => signed0_ok w false _ 1 [] (Sl.none0 _ w _ _ (by decide)) rfl) (fun _ => rfl) (fun _ _ => ⟨rfl, rfl⟩) (fun _ => ⟨rfl, rfl⟩) ?_
  refine GB.nil (fun β => ?_)
  focus (refine w_store_all rfl rfl rfl rfl rfl .here rfl ?_; refine gw_nil ?_; refine gx_next ?_; refine gc_ret ?_)
  exact gx_retc rfl rfl .here rfl fun w s => ⟨β 10, rfl, trivial⟩

theorem ratioCmp0_ok (w : World) : Ok Tryz.prog 82 [.agg #[.bool false, .slice none 0 0, .slice none 0 0], .agg #[.bool false, .slice none 0 0, .slice none 0 0]].toArray w fun r _ => r = .int .i64 0 := by
  refine ok_enter Tryz.func82 rfl Tryz.ntmps82 rfl ?_
  focus (refine gc_seq ?_; refine gc_region ?_; refine gw_boxd (v := .agg _) rfl rfl (fun _ => ?_); refine gw_boxd (v := .agg _) rfl rfl (fun _ => ?_); apply gw_d; exact det_m rfl rfl (by conv => (lhs; whnf)); refine gw_nil ?_; refine gx_next ?_; refine gc_seq ?_)
  refine gc_block_draw Nat 4 (fun i => ([[], [0], [], [0, 1, 2]] : List (List Nat)).getD i []) rfl (by kernel_rfl) ?_
  focus (apply gb_d; (intro γ; exact w_load_boxN rfl rfl rfl (.there .here) rfl); (intros; rfl); (intros; rfl))
  refine gb_call (l := fun _ => [.agg #[.bool false, .slice none 0 0, .slice none 0 0]]) (fun _ b => .agg #[.bool false, .slice none 0 0, .slice (some ⟨b, 0, none⟩) 1 2]) (fun _ b => [Box b 171 #[.int .u32 1, .int .u32 0]]) (fun _ => rfl) (fun _ w s => value0_ok w) (fun _ => rfl) (fun _ _ => ⟨rfl, rfl⟩) (fun _ => ⟨rfl, rfl⟩) ?_
  focus (apply gb_d; (intro γ; exact w_load_boxN rfl rfl rfl .here rfl); (intros; rfl); (intros; rfl))
  refine gb_call (l := fun _ => [.agg #[.bool false, .slice none 0 0, .slice none 0 0]]) (fun _ b => .agg #[.bool false, .slice none 0 0, .slice (some ⟨b, 0, none⟩) 1 2]) (fun _ b => [Box b 171 #[.int .u32 1, .int .u32 0]]) (fun _ => rfl) (fun _ w s => value0_ok w) (fun _ => rfl) (fun _ _ => ⟨rfl, rfl⟩) (fun _ => ⟨rfl, rfl⟩) ?_
  refine GB.nil (fun β => ?_)
  focus (refine w_store_all rfl rfl rfl rfl rfl (.there (.there (.there .here))) rfl ?_; refine w_store_all rfl rfl rfl rfl rfl (.there (.there (.there .here))) rfl ?_; refine gw_nil ?_; refine gx_next ?_; refine gc_seq ?_)
  refine gc_block_draw Nat 13 (fun i => ([[], [0], [], [2], [2, 3], [0, 1, 2, 3, 4], [], [6], [], [8], [0, 1, 2, 3, 4, 5, 8, 9], [0, 1, 2, 3, 4, 5, 6, 7, 8, 9, 10], [0, 1, 2, 3, 4, 5, 6, 7, 8, 9, 10, 11]] : List (List Nat)).getD i []) rfl (by kernel_rfl) ?_
  focus (apply gb_d; (intro γ; exact w_field rfl rfl rfl); (intros; rfl); (intros; rfl); apply gb_d; (intro γ; exact w_load_part rfl rfl rfl (.there .here) rfl rfl); (intros; rfl); (intros; rfl); apply gb_d; (intro γ; exact w_field rfl rfl rfl); (intros; rfl); (intros; rfl); apply gb_d; (intro γ; exact w_load_box rfl rfl rfl .here rfl); (intros; rfl); (intros; rfl); apply gb_d; (intro γ; exact w_call rfl rfl (fun w s => positive_ok w _ _ _) rfl); (intros; rfl); (intros; rfl))
  refine gb_call (l := fun _ => [.agg #[.bool false, .slice none 0 0], .agg #[.bool false, .slice (some ⟨β 3, 0, none⟩) 1 2]]) (fun _ b => .agg #[.bool false, .slice (some ⟨b, 0, none⟩) 0 0]) (fun _ _ => []) (fun _ => rfl) (fun _ w s => intMul0_ok w none (some ⟨β 3, 0, none⟩) 0 2 [] [1] (Sl.none0 _ w _ _ (by decide)) ((Sl.box32 (l := [1, 0]) s (.there (.there (.there .here))) (by decide) (by decide)).take (m := 1) (by decide)) rfl rfl) (fun _ => rfl) (fun _ _ => ⟨rfl, rfl⟩) (fun _ => ⟨rfl, rfl⟩) ?_
  focus (apply gb_d; (intro γ; exact w_field rfl rfl rfl); (intros; rfl); (intros; rfl); apply gb_d; (intro γ; exact w_load_part rfl rfl rfl .here rfl rfl); (intros; rfl); (intros; rfl); apply gb_d; (intro γ; exact w_field rfl rfl rfl); (intros; rfl); (intros; rfl); apply gb_d; (intro γ; exact w_load_box rfl rfl rfl (.there .here) rfl); (intros; rfl); (intros; rfl); apply gb_d; (intro γ; exact w_call rfl rfl (fun w s => positive_ok w _ _ _) rfl); (intros; rfl); (intros; rfl))
  refine gb_call (l := fun _ => [.agg #[.bool false, .slice none 0 0], .agg #[.bool false, .slice (some ⟨β 1, 0, none⟩) 1 2]]) (fun _ b => .agg #[.bool false, .slice (some ⟨b, 0, none⟩) 0 0]) (fun _ _ => []) (fun _ => rfl) (fun _ w s => intMul0_ok w none (some ⟨β 1, 0, none⟩) 0 2 [] [1] (Sl.none0 _ w _ _ (by decide)) ((Sl.box32 (l := [1, 0]) s (.there (.there .here)) (by decide) (by decide)).take (m := 1) (by decide)) rfl rfl) (fun _ => rfl) (fun _ _ => ⟨rfl, rfl⟩) (fun _ => ⟨rfl, rfl⟩) ?_
  focus (apply gb_d; (intro γ; exact w_call rfl rfl (fun w s => intCmp0_ok w _ _) rfl); (intros; rfl); (intros; rfl))
  refine GB.nil (fun β2 => ?_)
  focus (apply gw_d; exact det_m rfl rfl (by conv => (lhs; whnf)); refine gw_nil ?_; refine gx_next ?_; refine gc_ret ?_)
  refine gx_ret1 (v := .int _ _) rfl rfl (fun _ _ => ?_)
  rfl

end Go.Proofs.YteiboodeepjanaaGreat
