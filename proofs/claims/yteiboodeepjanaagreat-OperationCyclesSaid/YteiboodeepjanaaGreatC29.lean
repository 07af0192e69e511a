/- The cells of a slice as one list; a slice that reads from the cells of an own box. No program in sight. -/
import Derived.Test.YteiboodeepjanaaGreatC24
import Derived.Test.YteiboodeepjanaaGreatFwO
namespace Go.Proofs.YteiboodeepjanaaGreat
open Go.RowKit

theorem Sl.raws {α : Type} {R : Rp α} {w : World} {B : Nat} {v : Value} {l : List α} (h : Sl R w B v l) (hl : 0 < l.length) : ∃ ad c, ∃ raw : List Value, v = .slice (some ad) l.length c ∧ raw.length = l.length * R.size ∧ (∀ j u, raw[j]? = some u → w.cell? (ad.add j) = some u) ∧
    ∀ k (hk : k < l.length), R.rep w (fun b => b < B) l[k] ((raw.drop (k * R.size)).take R.size) := by
  obtain ⟨ad, c, hv, _, _, _, hcell⟩ := h.at' R.size rfl hl
  suffices H : ∀ m, m ≤ l.length → ∃ raw : List Value, raw.length = m * R.size ∧ (∀ j u, raw[j]? = some u → w.cell? (ad.add j) = some u) ∧ ∀ k (hk : k < l.length), k < m → R.rep w (fun b => b < B) l[k] ((raw.drop (k * R.size)).take R.size) by
    obtain ⟨raw, h1, h2, h3⟩ := H _ (Nat.le_refl _)
    exact ⟨ad, c, raw, hv, h1, h2, fun k hk => h3 k hk hk⟩
  intro m
  induction m with
  | zero => intro _; exact ⟨[], by simp, fun j u hu => by simp at hu, fun k _ hk => by omega⟩
  | succ m ih =>
    intro hm
    obtain ⟨raw, h1, h2, h3⟩ := ih (by omega)
    obtain ⟨cs, hc, hr⟩ := hcell m (by omega)
    have hlen := R.len hr
    refine ⟨raw ++ cs, by rw [List.length_append, h1, hlen, Nat.succ_mul], fun j u hu => ?_, fun k hk hkm => ?_⟩
    · by_cases hj : j < raw.length
      · rw [List.getElem?_append_left hj] at hu; exact h2 j u hu
      · rw [List.getElem?_append_right (by omega)] at hu
        have := hc _ u hu
        rwa [show m * R.size + (j - raw.length) = j by omega] at this
    · by_cases hkk : k = m
      · subst hkk
        rw [← h1, List.drop_left, ← hlen, List.take_length]
        exact hr
      · have hle : (k + 1) * R.size ≤ m * R.size := Nat.mul_le_mul_right _ (by omega)
        rw [Nat.succ_mul] at hle
        rw [List.drop_append_of_le_length (by omega), List.take_append_of_le_length (by rw [List.length_drop]; omega)]
        exact h3 k hk (by omega)
theorem Sl.ofBox {α : Type} {R : Rp α} {w : World} {b n c : Nat} {cs : Array Value} {ty : TypeId} {l : List α} (hb : w.heap[b]? = some (.cells cs ty (0, 0))) (hn : n = l.length) (hc : n ≤ c) (hc2 : c ≤ maxLen) (h : ∀ k (hk : k < l.length), R.rep w (fun b => b < w.heap.size) l[k] ((cs.toList.drop (k * R.size)).take R.size)) : Sl R w w.heap.size (.slice (some ⟨b, 0, none⟩) n c) l := by
  subst hn
  refine ⟨_, c, rfl, hc, hc2, fun k hk => ⟨⟨b, 0, none⟩, _, rfl, (Array.getElem?_eq_some_iff.1 hb).1, fun j u hu => ?_, h k hk⟩⟩
  rw [add_zero]
  simp only [World.cell?, hb]
  rw [List.getElem?_take] at hu
  split at hu
  · rw [List.getElem?_drop] at hu
    simpa using hu
  · cases hu
end Go.Proofs.YteiboodeepjanaaGreat
