/- How pieces lie. -/
import Derived.Test.YteiboodeepjanaaGreatC12
namespace Go.Proofs.YteiboodeepjanaaGreat
open Go.RowKit
set_option maxRecDepth 100000
set_option maxHeartbeats 4000000

theorem Sl.at' {α : Type} {R : Rp α} {w : World} {B : Nat} {v : Value} {l : List α} (h : Sl R w B v l) (sz : Nat) (hsz : R.size = sz) (hl : 0 < l.length) : ∃ ad c, v = .slice (some ad) l.length c ∧ l.length ≤ c ∧ l.length ≤ 9223372036854775807 ∧ ad.block < B ∧
    ∀ k (hk : k < l.length), ∃ cs, (∀ j u, cs[j]? = some u → w.cell? (ad.add (k * sz + j)) = some u) ∧ R.rep w (fun b => b < B) l[k] cs := by
  subst hsz
  obtain ⟨A, c, hv, h1, h2, h3⟩ := h
  obtain ⟨ad, _, ha, hlt, _⟩ := h3 0 hl
  subst ha
  refine ⟨ad, c, hv, h1, by unfold maxLen at h2; omega, hlt, fun k hk => ?_⟩
  obtain ⟨ad', cs, ha, _, hc, hr⟩ := h3 k hk
  injection ha with ha
  subst ha
  exact ⟨cs, hc, hr⟩

structure Pc where
  name : ByteArray
  edges : List Edg
  grain : Int
  notches : List (Int × Int)
  corners : List (Int × Int)
  widths : List Int
  mt : Bool
def rPiece : Rp Pc where
  size := 7
  rep w S p cs := ∃ Ae ce An cn Ac cc Aw cw, cs = [.string p.name, .slice Ae p.edges.length ce, .int .i64 p.grain, .slice An p.notches.length cn, .slice Ac p.corners.length cc, .slice Aw p.widths.length cw, .bool p.mt] ∧
    (p.name.size ≤ maxLen ∧ inI64 p.grain) ∧ SlS rEdge w S (.slice Ae p.edges.length ce) p.edges ∧ SlS rSpot w S (.slice An p.notches.length cn) p.notches ∧ SlS rSpot w S (.slice Ac p.corners.length cc) p.corners ∧ SlS rInt w S (.slice Aw p.widths.length cw) p.widths
  len h := by obtain ⟨_, _, _, _, _, _, _, _, rfl, _⟩ := h; rfl
  mono hb h := by obtain ⟨Ae, ce, An, cn, Ac, cc, Aw, cw, h0, h1, h2, h3, h4, h5⟩ := h; exact ⟨Ae, ce, An, cn, Ac, cc, Aw, cw, h0, h1, h2.mono hb, h3.mono hb, h4.mono hb, h5.mono hb⟩
  grow hb h := by obtain ⟨Ae, ce, An, cn, Ac, cc, Aw, cw, h0, h1, h2, h3, h4, h5⟩ := h; exact ⟨Ae, ce, An, cn, Ac, cc, Aw, cw, h0, h1, h2.grow hb, h3.grow hb, h4.grow hb, h5.grow hb⟩
end Go.Proofs.YteiboodeepjanaaGreat
