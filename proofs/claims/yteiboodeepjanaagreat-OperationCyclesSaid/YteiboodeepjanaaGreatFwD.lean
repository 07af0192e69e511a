/- How Go's data lie in memory: slices of whatever elements, read as lists. No program in sight. -/
import Derived.Test.YteiboodeepjanaaGreatFwC
namespace Go.Proofs.YteiboodeepjanaaGreat
open Go.RowKit

theorem add_block (a : Addr) (n : Nat) : (a.add n).block = a.block := by unfold Addr.add; split <;> rfl
theorem add_add (a : Addr) (i j : Nat) : (a.add i).add j = a.add (i + j) := by
  unfold Addr.add
  by_cases hi : i = 0 <;> by_cases hj : j = 0 <;> simp [hi, hj, Nat.add_assoc]

/-- How a value of type α lies in cells: everything that it leads to lies in the blocks S. -/
structure Rp (α : Type) where
  size : Nat
  rep : World → (Nat → Prop) → α → List Value → Prop
  len : ∀ {w S x cs}, rep w S x cs → cs.length = size
  mono : ∀ {w w' S x cs}, (∀ b, S b → w'.heap[b]? = w.heap[b]?) → rep w S x cs → rep w' S x cs
  grow : ∀ {w S S' x cs}, (∀ b, S b → S' b) → rep w S x cs → rep w S' x cs

/-- The slice value v reads as the list l, inside the blocks S. -/
def SlS {α : Type} (R : Rp α) (w : World) (S : Nat → Prop) (v : Value) (l : List α) : Prop :=
  ∃ A c, v = .slice A l.length c ∧ l.length ≤ c ∧ c ≤ maxLen ∧ ∀ k (h : k < l.length), ∃ ad cs, A = some ad ∧ S ad.block ∧ (∀ j u, cs[j]? = some u → w.cell? (ad.add (k * R.size + j)) = some u) ∧ R.rep w S l[k] cs
/-- The slice value v reads as the list l, below block B. -/
def Sl {α : Type} (R : Rp α) (w : World) (B : Nat) (v : Value) (l : List α) : Prop := SlS R w (fun b => b < B) v l

theorem cell_same {w w' : World} {a : Addr} (h : w'.heap[a.block]? = w.heap[a.block]?) : w'.cell? a = w.cell? a := by
  unfold World.cell?
  rw [h]
theorem SlS.mono {α : Type} {R : Rp α} {w w' : World} {S : Nat → Prop} {v : Value} {l : List α} (hb : ∀ b, S b → w'.heap[b]? = w.heap[b]?) (h : SlS R w S v l) : SlS R w' S v l := by
  obtain ⟨A, c, hv, h1, h2, h3⟩ := h
  refine ⟨A, c, hv, h1, h2, fun k hk => ?_⟩
  obtain ⟨ad, cs, ha, hlt, hc, hr⟩ := h3 k hk
  exact ⟨ad, cs, ha, hlt, fun j u hu => (cell_same (by rw [add_block]; exact hb _ hlt)).trans (hc j u hu), R.mono hb hr⟩
theorem SlS.grow {α : Type} {R : Rp α} {w : World} {S S' : Nat → Prop} {v : Value} {l : List α} (hB : ∀ b, S b → S' b) (h : SlS R w S v l) : SlS R w S' v l := by
  obtain ⟨A, c, hv, h1, h2, h3⟩ := h
  refine ⟨A, c, hv, h1, h2, fun k hk => ?_⟩
  obtain ⟨ad, cs, ha, hlt, hc, hr⟩ := h3 k hk
  exact ⟨ad, cs, ha, hB _ hlt, hc, R.grow hB hr⟩
theorem Sl.mono {α : Type} {R : Rp α} {w w' : World} {B : Nat} {v : Value} {l : List α} (hb : Below B w w') (h : Sl R w B v l) : Sl R w' B v l := SlS.mono (fun b hb' => hb.block b hb') h
theorem Sl.grow {α : Type} {R : Rp α} {w : World} {B B' : Nat} {v : Value} {l : List α} (hB : B ≤ B') (h : Sl R w B v l) : Sl R w B' v l := SlS.grow (fun _ hb => Nat.lt_of_lt_of_le hb hB) h
/-- What was read at the function's beginning is read so at every later point. -/
theorem Sl.later {α : Type} {R : Rp α} {w0 w : World} {L : List Res} {v : Value} {l : List α} (s : St w0 L w) (h : Sl R w0 w0.heap.size v l) : Sl R w w.heap.size v l :=
  (h.mono s.below).grow s.below.size

/-- Data that the function itself has made, in the blocks S. -/
def Deep {α : Type} (S : Nat → Prop) (R : Rp α) (v : Value) (l : List α) : Res := ⟨S, fun w => SlS R w S v l, fun _ _ h p => SlS.mono h p⟩
theorem Sl.deep {α : Type} {R : Rp α} {w0 w : World} {L L' : List Res} {S : Nat → Prop} {v : Value} {l : List α} (s : St w0 L w) (hp : Pick L (Deep S R v l) L') : Sl R w w.heap.size v l :=
  SlS.grow (fun b hb => ((s.pick hp).sep.fp _ List.mem_cons_self b hb).2) (s.pick hp).head

def inI64 (i : Int) : Prop := -9223372036854775808 ≤ i ∧ i ≤ 9223372036854775807

def rInt : Rp Int where
  size := 1
  rep _ _ i cs := cs = [.int .i64 i] ∧ inI64 i
  len h := by rw [h.1]; rfl
  mono _ h := h
  grow _ h := h
def rBool : Rp Bool where
  size := 1
  rep _ _ b cs := cs = [.bool b]
  len h := by rw [h]; rfl
  mono _ h := h
  grow _ h := h
def rStr : Rp ByteArray where
  size := 1
  rep _ _ s cs := cs = [.string s] ∧ s.size ≤ maxLen
  len h := by rw [h.1]; rfl
  mono _ h := h
  grow _ h := h

theorem Sl.int {w : World} {B : Nat} {v : Value} {l : List Int} (h : Sl rInt w B v l) : ∃ A c, v = .slice A l.length c ∧ l.length ≤ c ∧ l.length ≤ 9223372036854775807 ∧
    ∀ k (hk : k < l.length), ∃ ad, A = some ad ∧ ad.block < B ∧ w.cell? (ad.add (k * 1)) = some (.int .i64 l[k]) ∧ inI64 l[k] := by
  obtain ⟨A, c, hv, h1, h2, h3⟩ := h
  refine ⟨A, c, hv, h1, by unfold maxLen at h2; omega, fun k hk => ?_⟩
  obtain ⟨ad, cs, ha, hlt, hc, hr⟩ := h3 k hk
  obtain ⟨rfl, hr⟩ := hr
  exact ⟨ad, ha, hlt, hc 0 _ rfl, hr⟩

theorem cast0 : (0 : Int) = ((0 : Nat) : Int) := rfl
theorem cast1 : (1 : Int) = ((1 : Nat) : Int) := rfl
theorem castA (k : Nat) : (k : Int) + 1 = ((k + 1 : Nat) : Int) := by omega
theorem castB (k : Nat) : (k : Int) + 2 = ((k + 2 : Nat) : Int) := by omega
theorem castC (i k : Nat) : (i : Int) + (k : Int) = ((i + k : Nat) : Int) := by omega
theorem castM (k n : Nat) : ((k : Int) + 1) % (n : Int) = (((k + 1) % n : Nat) : Int) := by rw [castA]; rfl
theorem castN (k n : Nat) : ((k : Int) + 2) % (n : Int) = (((k + 2) % n : Nat) : Int) := by rw [castB]; rfl
theorem castR (k n : Nat) : (k : Int) % (n : Int) = ((k % n : Nat) : Int) := by omega
theorem castS {n : Nat} (h : 1 ≤ n) : (n : Int) - 1 = ((n - 1 : Nat) : Int) := by omega
theorem wrap_in {z : Int} (h : -9223372036854775808 ≤ z ∧ z ≤ 9223372036854775807) : IntKind.i64.wrap z = z := by rw [IntKind.wrap_i64]; omega
end Go.Proofs.YteiboodeepjanaaGreat
