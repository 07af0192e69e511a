/- The cells of a slice as one list; a slice that reads from the cells of an own box. No program in sight. -/
import Derived.Test.YteiboodeepjanaaGreatFwM
import Derived.Test.YteiboodeepjanaaGreatC15
namespace Go.Proofs.YteiboodeepjanaaGreat
open Go.RowKit

theorem Sl.raws {α : Type} {R : Rp α} {w : World} {B : Nat} {v : Value} {l : List α} (h : Sl R w B v l) (hl : 0 < l.length) : ∃ ad c, ∃ raw : List Value, v = .slice (some ad) l.length c ∧ raw.length = l.length * R.size ∧ (∀ j u, raw[j]? = some u → w.cell? (ad.add j) = some u) ∧
    ∀ k (hk : k < l.length), R.rep w (fun b => b < B) l[k] ((raw.drop (k * R.size)).take R.size) := by
  obtain ⟨ad, c, hv, _, _, _, hcell⟩ := h.at' R.size rfl hl
  suffices H : ∀ m, m ≤ l.length → ∃ raw : List Value, raw.length = m * R.size ∧ (∀ j u, raw[j]? = some u → w.cell? (ad.add j) = some u) ∧ ∀ k (hk : k < l.length), k < m → R.rep w (fun b => b < B) l[k] ((raw.drop (k * R.size)).take R.size) by
    obtain ⟨raw, h1, h2, h3⟩ := H _ (Nat.le_refl _)
    exact ⟨ad, c, raw, hv, h1, h2, fun k hk => h3 k hk hk⟩
  intro m
  induction m with
  | zero => intro _; exact ⟨[], by simp, fun j u hu => by simp at hu, fun k _ hk => by omega⟩
  | succ m ih =>
    intro hm
    obtain ⟨raw, h1, h2, h3⟩ := ih (by omega)
    obtain ⟨cs, hc, hr⟩ := hcell m (by omega)
    have hlen := R.len hr
    refine ⟨raw ++ cs, by rw [List.length_append, h1, hlen, Nat.succ_mul], fun j u hu => ?_, fun k hk hkm => ?_⟩
    · by_cases hj : j < raw.length
      · rw [List.getElem?_append_left hj] at hu; exact h2 j u hu
      · rw [List.getElem?_append_right (by omega)] at hu
        have := hc _ u hu
        rwa [show m * R.size + (j - raw.length) = j by omega] at this
    · by_cases hkk : k = m
      · subst hkk
        rw [← h1, List.drop_left, ← hlen, List.take_length]
        exact hr
      · have hle : (k + 1) * R.size ≤ m * R.size := Nat.mul_le_mul_right _ (by omega)
        rw [Nat.succ_mul] at hle
        rw [List.drop_append_of_le_length (by omega), List.take_append_of_le_length (by rw [List.length_drop]; omega)]
        exact h3 k hk (by omega)
theorem Sl.ofBox {α : Type} {R : Rp α} {w : World} {b n c : Nat} {cs : Array Value} {ty : TypeId} {l : List α} (hb : w.heap[b]? = some (.cells cs ty (0, 0))) (hn : n = l.length) (hc : n ≤ c) (hc2 : c ≤ maxLen) (h : ∀ k (hk : k < l.length), R.rep w (fun b => b < w.heap.size) l[k] ((cs.toList.drop (k * R.size)).take R.size)) : Sl R w w.heap.size (.slice (some ⟨b, 0, none⟩) n c) l := by
  subst hn
  refine ⟨_, c, rfl, hc, hc2, fun k hk => ⟨⟨b, 0, none⟩, _, rfl, (Array.getElem?_eq_some_iff.1 hb).1, fun j u hu => ?_, h k hk⟩⟩
  rw [add_zero]
  simp only [World.cell?, hb]
  rw [List.getElem?_take] at hu
  split at hu
  · rw [List.getElem?_drop] at hu
    simpa using hu
  · cases hu
theorem raw_one {w : World} {B : Nat} {l : List Opn} {raw : List Value} (hlen : raw.length = l.length * rOp.size) (h : ∀ k (hk : k < l.length), rOp.rep w (fun b => b < B) l[k] ((raw.drop (k * rOp.size)).take rOp.size)) : ∀ u ∈ raw, u.oneCell' = true := fun u hu => by
  change raw.length = l.length * 5 at hlen
  obtain ⟨j, hj, rfl⟩ := List.getElem_of_mem hu
  obtain ⟨Aa, ca, Au, cu, h0, _⟩ := h (j / 5) (by omega)
  change (raw.drop (j / 5 * 5)).take 5 = _ at h0
  have h1 : raw[j] ∈ (raw.drop (j / 5 * 5)).take 5 := by
    rw [List.mem_iff_getElem]
    refine ⟨j % 5, by rw [List.length_take, List.length_drop]; omega, ?_⟩
    rw [List.getElem_take, List.getElem_drop]
    congr 1
    omega
  rw [h0] at h1
  simp only [List.mem_cons, List.not_mem_nil, or_false] at h1
  rcases h1 with h1 | h1 | h1 | h1 | h1 <;> rw [h1] <;> rfl

section
variable {P : Program} {ops : Array Oper} {Q : Exit → Act → World → Prop} {N : Nat} {w0 : World} {L L' : List Res} {rest : List Oper} {e : Env}
theorem gw_ownbox {A : Option Addr} {n c : Nat} {el : TypeId} {sz : Nat} {xs : List Value} (hn : 0 < n) (hp : Pick L (Own A n c el sz xs) L') (k : ∀ g cs, A = some ⟨g, 0, none⟩ → (n ≤ c ∧ c ≤ maxLen ∧ cs.size = c * sz) → cs.toList.take (n * sz) = xs → GW P ops Q N w0 (Box g el cs :: L') rest e) : GW P ops Q N w0 L rest e := ⟨fun w s => by
  have s1 := s.pick hp
  have hown : w.ownsRow 0 el sz (.slice A n c) n xs := s1.head
  rcases hown.2 with ⟨_, h0⟩ | ⟨g, cap, cur, hv, _, hg, h1, h2, h3, h4⟩
  · omega
  · injection hv with e1 e2 e3
    subst e1 e3
    exact (k g cur rfl ⟨h1, h2, h3⟩ h4).h w (s1.turn (r' := Box g el cur) (Nat.le_refl _) rfl rfl rfl (fun _ _ _ => rfl) hg fun x hx => .inl (by show some g = some x; rw [show x = g from hx]))⟩
end
theorem Sl.ofOwn {α : Type} {R : Rp α} {w0 w : World} {L L' : List Res} {A : Option Addr} {n c : Nat} {el : TypeId} {xs : List Value} {l : List α} (s : St w0 L w) (hp : Pick L (Own A n c el R.size xs) L') (hn : n = l.length)
    (h : ∀ k (hk : k < l.length), R.rep w (fun b => b < w.heap.size) l[k] ((xs.drop (k * R.size)).take R.size)) : Sl R w w.heap.size (.slice A n c) l := by
  have hown : w.ownsRow 0 el R.size (.slice A n c) n xs := (s.pick hp).head
  subst hn
  rcases hown.2 with ⟨hv, h0⟩ | ⟨g, cap, cur, hv, _, hg, h1, h2, h3, h4⟩
  · injection hv with e1 e2 e3
    subst e1 e3
    exact ⟨none, 0, rfl, by omega, Nat.zero_le _, fun k hk => by omega⟩
  · injection hv with e1 e2 e3
    subst e1 e3
    refine Sl.ofBox hg rfl h1 h2 fun k hk => ?_
    have e : (cur.toList.drop (k * R.size)).take R.size = (xs.drop (k * R.size)).take R.size := by
      rw [← h4, List.drop_take, List.take_take, Nat.min_eq_left]
      have : (k + 1) * R.size ≤ l.length * R.size := Nat.mul_le_mul_right _ hk
      rw [Nat.add_mul, Nat.one_mul] at this
      omega
    rw [e]
    exact h k hk
end Go.Proofs.YteiboodeepjanaaGreat
