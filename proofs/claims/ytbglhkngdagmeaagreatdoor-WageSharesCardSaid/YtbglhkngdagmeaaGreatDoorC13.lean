/- Contracts: pieces without notches. -/
import Derived.Test.YtbglhkngdagmeaaGreatDoorC12
namespace Go.Proofs.YtbglhkngdagmeaaGreatDoor
open Go.RowKit
set_option maxRecDepth 100000
set_option maxHeartbeats 4000000

theorem Sl.at' {α : Type} {R : Rp α} {w : World} {B : Nat} {v : Value} {l : List α} (h : Sl R w B v l) (sz : Nat) (hsz : R.size = sz) (hl : 0 < l.length) : ∃ ad c, v = .slice (some ad) l.length c ∧ l.length ≤ c ∧ l.length ≤ 9223372036854775807 ∧ ad.block < B ∧
    ∀ k (hk : k < l.length), ∃ cs, (∀ j u, cs[j]? = some u → w.cell? (ad.add (k * sz + j)) = some u) ∧ R.rep w (fun b => b < B) l[k] cs := by
  subst hsz
  obtain ⟨A, c, hv, h1, h2, h3⟩ := h
  obtain ⟨ad, _, ha, hlt, _⟩ := h3 0 hl
  subst ha
  refine ⟨ad, c, hv, h1, by unfold maxLen at h2; omega, hlt, fun k hk => ?_⟩
  obtain ⟨ad', cs, ha, _, hc, hr⟩ := h3 k hk
  injection ha with ha
  subst ha
  exact ⟨cs, hc, hr⟩

structure Pc where
  name : ByteArray
  edges : List Edg
  grain : Int
  notches : List (Int × Int)
  corners : List (Int × Int)
  widths : List Int
  mt : Bool
def rPiece : Rp Pc where
  size := 7
  rep w S p cs := ∃ Ae ce An cn Ac cc Aw cw, cs = [.string p.name, .slice Ae p.edges.length ce, .int .i64 p.grain, .slice An p.notches.length cn, .slice Ac p.corners.length cc, .slice Aw p.widths.length cw, .bool p.mt] ∧
    (p.name.size ≤ maxLen ∧ inI64 p.grain) ∧ SlS rEdge w S (.slice Ae p.edges.length ce) p.edges ∧ SlS rSpot w S (.slice An p.notches.length cn) p.notches ∧ SlS rSpot w S (.slice Ac p.corners.length cc) p.corners ∧ SlS rInt w S (.slice Aw p.widths.length cw) p.widths
  len h := by obtain ⟨_, _, _, _, _, _, _, _, rfl, _⟩ := h; rfl
  mono hb h := by obtain ⟨Ae, ce, An, cn, Ac, cc, Aw, cw, h0, h1, h2, h3, h4, h5⟩ := h; exact ⟨Ae, ce, An, cn, Ac, cc, Aw, cw, h0, h1, h2.mono hb, h3.mono hb, h4.mono hb, h5.mono hb⟩
  grow hb h := by obtain ⟨Ae, ce, An, cn, Ac, cc, Aw, cw, h0, h1, h2, h3, h4, h5⟩ := h; exact ⟨Ae, ce, An, cn, Ac, cc, Aw, cw, h0, h1, h2.grow hb, h3.grow hb, h4.grow hb, h5.grow hb⟩

theorem placed0_ok (w : World) (nm : ByteArray) (g : Int) (m : Bool) (Ae An Ac Aw : Option Addr) (ce cn cc nw cw : Nat) (l : List Edg) (cs : List (Int × Int))
    (hl : Sl rEdge w w.heap.size (.slice Ae l.length ce) l) (hcs : Sl rSpot w w.heap.size (.slice Ac cs.length cc) cs) :
    OkM Tryz.prog 129 [.agg #[.string nm, .slice Ae l.length ce, .int .i64 g, .slice An 0 cn, .slice Ac cs.length cc, .slice Aw nw cw, .bool m], .int .i64 0].toArray w
      (fun x : Option Addr × Nat × Nat => .tuple #[.slice none 0 0, .slice x.1 x.2.1 x.2.2, .int .i64 (gradedE l cs)]) (fun _ => []) := by
  unfold OkM
  refine ok_enter Tryz.func129 rfl Tryz.ntmps129 rfl ?_
  focus (refine gc_seq ?_; refine gc_region ?_; refine gw_boxd (v := .agg _) rfl rfl (fun _ => ?_); apply gw_d; exact det_m rfl rfl (by conv => (lhs; whnf)); apply gw_d; exact det_m rfl rfl (by conv => (lhs; whnf)); apply gw_d; exact det_m rfl rfl (by conv => (lhs; whnf)); refine gw_nil ?_; refine gx_next ?_; refine gc_seq ?_; refine gc_region ?_; apply gw_d; exact w_load_boxN rfl rfl rfl .here rfl; apply gw_d; exact det_m rfl rfl (by conv => (lhs; whnf)))
  refine gw_callm rfl (fun w s => graded_ok w nm g m _ _ _ _ _ _ _ _ _ _ l cs (hl.later s) (hcs.later s)) rfl (fun x => ?_)
  focus (apply gw_d; exact det_m rfl rfl (by conv => (lhs; whnf)); apply gw_d; exact det_extract rfl rfl rfl (by conv => (lhs; whnf)); apply gw_d; exact det_extract rfl rfl rfl (by conv => (lhs; whnf)); apply gw_d; exact det_m rfl rfl (by conv => (lhs; whnf)); apply gw_d; exact det_m rfl rfl (by conv => (lhs; whnf)); refine gw_nil ?_; refine gx_next ?_; refine gc_seq ?_; refine gc_seq ?_; refine gc_region ?_; apply gw_d; exact det_m rfl rfl (by conv => (lhs; whnf)); apply gw_d; exact det_cmp rfl rfl rfl rfl rfl; refine gw_nil ?_; refine gx_next ?_)
  refine gc_if_dec rfl (fun h => ?_) (fun h => ?_)
  · focus (refine gc_seq ?_; refine gc_region ?_; apply gw_d; exact det_m rfl rfl (by conv => (lhs; whnf)); apply gw_d; exact det_m rfl rfl (by conv => (lhs; whnf)); apply gw_d; exact det_m rfl rfl (by conv => (lhs; whnf)); apply gw_d; exact det_m rfl rfl (by conv => (lhs; whnf)); refine gw_nil ?_; refine gx_next ?_; refine gc_ret ?_; refine gx_then_ret ?_)
    refine gx_ret3 (u := .slice _ _ _) (v := .slice _ _ _) (x := .int _ _) rfl rfl rfl rfl (fun _ _ => ?_)
    exact ⟨(none, 0, 0), rfl, trivial⟩
  have h0 : gradedE l cs = 0 := by simpa using h
  rw [if_pos h0]
  refine gc_ent (K := [Box _ _ _]) (Sub.ent (.cons (.there .here) .nil)) ?_
  focus (refine gc_skip ?_; refine gx_next ?_; refine gc_seq ?_; refine gc_seq ?_; refine gc_region ?_; apply gw_d; exact w_field rfl rfl rfl; apply gw_d; exact w_load_box rfl rfl rfl .here rfl; apply gw_d; exact w_len rfl rfl rfl; apply gw_d; exact det_cmp rfl rfl rfl rfl rfl; refine gw_nil ?_; refine gx_next ?_)
  refine gc_if_dec rfl (fun h => absurd h (by decide)) (fun _ => ?_)
  focus (refine gc_skip ?_; refine gx_next ?_; refine gc_seq ?_; refine gc_region ?_; apply gw_d; exact det_m rfl rfl (by conv => (lhs; whnf)); refine gw_nil ?_; refine gx_next ?_; refine gc_seq ?_; refine gc_seq ?_; refine gc_region ?_; apply gw_d; exact w_field rfl rfl rfl; apply gw_d; exact w_load_box rfl rfl rfl .here rfl; apply gw_d; exact w_len rfl rfl rfl; apply gw_d; exact det_m rfl rfl (by conv => (lhs; whnf)); refine gw_nil ?_; refine gx_next ?_; refine gc_block ?_)
  refine gc_loopK (σ := Unit) [33, 34, 35, 11, 36, 37, 38, 39, 40, 41, 42, 43, 44, 45, 46, 4, 5, 6, 48, 49, 50, 51, 52, 53, 54, 55, 47, 56, 57, 12, 13, 58, 59, 60, 62, 63, 64, 65, 66, 67, 68, 61, 69, 70, 14, 71, 72, 73, 75, 76, 77, 78, 79, 74, 80, 81, 15, 82, 83, 84, 85, 86, 87, 88, 9, 89, 32] (fun _ => [(32, .int .i64 0), (9, .slice none 0 0)]) (fun _ => True) (fun _ => 0) () trivial ⟨rfl, rfl, trivial⟩ ?_
  rintro _ _ -
  focus (refine gc_seq ?_; refine gc_region ?_; apply gw_d; exact det_cmp rfl rfl rfl rfl rfl; refine gw_nil ?_; refine gx_next ?_; refine gc_seq ?_)
  refine gc_if_dec rfl (fun h => absurd h (by decide)) (fun _ => ?_)
  focus (refine gc_exit ?_; refine gx_then_exit ?_; refine gx_then_exit ?_; refine gx_block_exit ?_; refine gx_next ?_; refine gc_seq ?_; refine gc_region ?_; apply gw_d; exact det_m rfl rfl (by conv => (lhs; whnf)); apply gw_d; exact det_m rfl rfl (by conv => (lhs; whnf)); apply gw_d; exact det_m rfl rfl (by conv => (lhs; whnf)); apply gw_d; exact det_m rfl rfl (by conv => (lhs; whnf)); apply gw_d; exact det_m rfl rfl (by conv => (lhs; whnf)); refine gw_nil ?_; refine gx_next ?_; refine gc_ret ?_)
  refine gx_ret3 (u := .slice _ _ _) (v := .slice _ _ _) (x := .int _ _) rfl rfl rfl rfl (fun _ _ => ?_)
  exact ⟨(x.1, _, x.2.1), by rw [h0], trivial⟩
theorem Placed0_ok (w : World) (nm : ByteArray) (g : Int) (m : Bool) (Ae An Ac Aw : Option Addr) (ce cn cc nw cw : Nat) (l : List Edg) (cs : List (Int × Int))
    (hl : Sl rEdge w w.heap.size (.slice Ae l.length ce) l) (hcs : Sl rSpot w w.heap.size (.slice Ac cs.length cc) cs) :
    Ok Tryz.prog 113 [.agg #[.string nm, .slice Ae l.length ce, .int .i64 g, .slice An 0 cn, .slice Ac cs.length cc, .slice Aw nw cw, .bool m], .int .i64 0].toArray w
      fun r _ => r = .tuple #[.slice none 0 0, .int .i64 (gradedE l cs)] := by
  refine ok_enter Tryz.func113 rfl Tryz.ntmps113 rfl ?_
  focus (refine gc_seq ?_; refine gc_region ?_; refine gw_boxd (v := .agg _) rfl rfl (fun _ => ?_); apply gw_d; exact det_m rfl rfl (by conv => (lhs; whnf)); apply gw_d; exact det_m rfl rfl (by conv => (lhs; whnf)); refine gw_nil ?_; refine gx_next ?_; refine gc_seq ?_; refine gc_region ?_; apply gw_d; exact w_load_boxN rfl rfl rfl .here rfl; apply gw_d; exact det_m rfl rfl (by conv => (lhs; whnf)))
  refine gw_callm rfl (fun w s => placed0_ok w nm g m _ _ _ _ _ _ _ _ _ l cs (hl.later s) (hcs.later s)) rfl (fun x => ?_)
  focus (apply gw_d; exact det_m rfl rfl (by conv => (lhs; whnf)); apply gw_d; exact det_extract rfl rfl rfl (by conv => (lhs; whnf)); apply gw_d; exact det_extract rfl rfl rfl (by conv => (lhs; whnf)); apply gw_d; exact det_extract rfl rfl rfl (by conv => (lhs; whnf)); apply gw_d; exact det_m rfl rfl (by conv => (lhs; whnf)); apply gw_d; exact det_m rfl rfl (by conv => (lhs; whnf)); apply gw_d; exact det_m rfl rfl (by conv => (lhs; whnf)); refine gw_nil ?_; refine gx_next ?_; refine gc_seq ?_; refine gc_region ?_; apply gw_d; exact det_m rfl rfl (by conv => (lhs; whnf)); apply gw_d; exact det_m rfl rfl (by conv => (lhs; whnf)); apply gw_d; exact det_m rfl rfl (by conv => (lhs; whnf)); apply gw_d; exact det_m rfl rfl (by conv => (lhs; whnf)); refine gw_nil ?_; refine gx_next ?_; refine gc_ret ?_)
  refine gx_ret2 (u := .slice _ _ _) (v := .int _ _) rfl rfl rfl (fun _ _ => ?_)
  rfl
end Go.Proofs.YtbglhkngdagmeaaGreatDoor
