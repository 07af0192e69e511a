/- Rows of the function's own, read as lists; pieces of memory that are handed on. No program in sight. -/
import Derived.Test.YteiboodeepjanaaGreatFwJ
namespace Go.Proofs.YteiboodeepjanaaGreat
open Go.RowKit

theorem flat_get {α : Type} {enc : α → List Value} {sz : Nat} : ∀ (l : List α) (_ : ∀ x ∈ l, (enc x).length = sz) (k : Nat) (hk : k < l.length) (j : Nat), j < sz → (l.flatMap enc)[k * sz + j]? = (enc l[k])[j]?
  | x :: l, hl, 0, _, j, hj => by
    have hx := hl x List.mem_cons_self
    rw [List.flatMap_cons, Nat.zero_mul, Nat.zero_add, List.getElem?_append_left (by omega)]
    rfl
  | x :: l, hl, k + 1, hk, j, hj => by
    have hx := hl x List.mem_cons_self
    rw [List.flatMap_cons, List.getElem?_append_right (by rw [hx, Nat.succ_mul]; omega), hx, show (k + 1) * sz + j - sz = k * sz + j by rw [Nat.succ_mul]; omega]
    exact flat_get l (fun y hy => hl y (List.mem_cons_of_mem _ hy)) k (by simpa using hk) j hj

/-- A row of the function's own reads as a list. -/
theorem Sl.own {α : Type} {R : Rp α} {enc : α → List Value} {w0 w : World} {L L' : List Res} {A : Option Addr} {n c : Nat} {el : TypeId} {l : List α} (s : St w0 L w) (hp : Pick L (Own A n c el R.size (l.flatMap enc)) L') (hn : n = l.length)
    (henc : ∀ x ∈ l, R.rep w (fun b => b < w.heap.size) x (enc x)) : Sl R w w.heap.size (.slice A n c) l := by
  have hs := s.pick hp
  have hown : w.ownsRow 0 el R.size (.slice A n c) n (l.flatMap enc) := hs.head
  subst hn
  rcases hown.2 with ⟨hv, h0⟩ | ⟨g, cap, cur, hv, _, hg, h1, h2, _⟩
  · injection hv with e1 e2 e3
    subst e1 e3
    exact ⟨none, 0, rfl, by omega, Nat.zero_le _, fun k hk => by omega⟩
  · injection hv with e1 e2 e3
    subst e1 e3
    have hb : g < w.heap.size := (Array.getElem?_eq_some_iff.1 hg).1
    refine ⟨_, _, rfl, h1, h2, fun k hk => ⟨⟨g, 0, none⟩, enc l[k], rfl, hb, fun j u hu => ?_, henc _ (List.getElem_mem hk)⟩⟩
    refine hown.cells rfl _ u ?_
    have hj : j < (enc l[k]).length := (List.getElem?_eq_some_iff.1 hu).1
    rw [R.len (henc _ (List.getElem_mem hk))] at hj
    rw [flat_get l (fun x hx => R.len (henc x hx)) k hk j hj]
    exact hu
theorem own_len {A : Option Addr} {n c : Nat} {el : TypeId} {sz : Nat} {xs : List Value} {w0 w : World} {L L' : List Res} (s : St w0 L w) (hp : Pick L (Own A n c el sz xs) L') : n ≤ c ∧ c ≤ maxLen := by
  have hown : w.ownsRow 0 el sz (.slice A n c) n xs := (s.pick hp).head
  rcases hown.2 with ⟨hv, h0⟩ | ⟨g, cap, cur, hv, _, hg, h1, h2, _⟩
  · injection hv with e1 e2 e3
    subst e3
    exact ⟨by omega, Nat.zero_le _⟩
  · injection hv with e1 e2 e3
    subst e3
    exact ⟨h1, h2⟩
end Go.Proofs.YteiboodeepjanaaGreat
