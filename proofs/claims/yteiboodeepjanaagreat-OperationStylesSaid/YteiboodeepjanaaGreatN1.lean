/- Square roots, rounded down: plain facts. No program in sight. -/
import Derived.Test.YteiboodeepjanaaGreatFwA
namespace Go.Proofs.YteiboodeepjanaaGreat

def isq : Nat → Nat
  | 0 => 0
  | n + 1 => if (isq n + 1) * (isq n + 1) ≤ n + 1 then isq n + 1 else isq n
theorem isq_spec : ∀ n, isq n * isq n ≤ n ∧ n < (isq n + 1) * (isq n + 1)
  | 0 => by decide
  | n + 1 => by
    obtain ⟨h1, h2⟩ := isq_spec n
    have e0 : isq (n + 1) = if (isq n + 1) * (isq n + 1) ≤ n + 1 then isq n + 1 else isq n := rfl
    rw [e0]
    split
    · rename_i h
      refine ⟨h, ?_⟩
      have : (isq n + 1) * (isq n + 1) ≤ (isq n + 1 + 1) * (isq n + 1) := Nat.mul_le_mul_right _ (by omega)
      have e : (isq n + 1 + 1) * (isq n + 1 + 1) = (isq n + 1 + 1) * (isq n + 1) + (isq n + 1 + 1) := Nat.mul_succ _ _
      omega
    · rename_i h
      exact ⟨by omega, by omega⟩
theorem isq_le {n s : Nat} (h : n < (s + 1) * (s + 1)) : isq n ≤ s := by
  have h1 := (isq_spec n).1
  refine Nat.le_of_not_lt fun hc => ?_
  have := Nat.mul_le_mul (show s + 1 ≤ isq n from hc) (show s + 1 ≤ isq n from hc)
  omega
theorem le_isq {n s : Nat} (h : s * s ≤ n) : s ≤ isq n := by
  have h1 := (isq_spec n).2
  refine Nat.le_of_not_lt fun hc => ?_
  have := Nat.mul_le_mul (show isq n + 1 ≤ s from hc) (show isq n + 1 ≤ s from hc)
  omega
theorem nt_ge {n x s : Nat} (hx : 0 < x) (hs : s * s ≤ n) : s ≤ (x + n / x) / 2 := by
  suffices h : 2 * s ≤ x + n / x by omega
  by_cases h : 2 * s ≤ x
  · exact Nat.le_trans h (Nat.le_add_right _ _)
  · have hd : 2 * s - x ≤ n / x := by
      rw [Nat.le_div_iff_mul_le hx]
      refine Nat.le_trans ?_ hs
      by_cases hxs : x ≤ s
      · obtain ⟨t, rfl⟩ : ∃ t, s = x + t := ⟨s - x, by omega⟩
        rw [show 2 * (x + t) - x = x + 2 * t by omega]
        simp only [Nat.add_mul, Nat.mul_add, Nat.mul_assoc, Nat.mul_comm t x]
        omega
      · obtain ⟨t, rfl⟩ : ∃ t, x = s + t := ⟨x - s, by omega⟩
        obtain ⟨u, rfl⟩ : ∃ u, s = t + u := ⟨s - t, by omega⟩
        rw [show 2 * (t + u) - (t + u + t) = u by omega]
        simp only [Nat.add_mul, Nat.mul_add, Nat.mul_comm u t]
        omega
    omega
theorem nt_lt {n x s : Nat} (hs : n < (s + 1) * (s + 1)) (h : s < x) : (x + n / x) / 2 < x := by
  have h1 : (s + 1) * (s + 1) ≤ x * x := Nat.mul_le_mul h h
  have h2 : n / x < x := (Nat.div_lt_iff_lt_mul (by omega)).2 (by omega)
  omega
theorem nt_step {n x : Nat} (hx : 0 < x) (h : isq n ≤ x) : isq n ≤ (x + n / x) / 2 ∧ (x ≤ (x + n / x) / 2 → x = isq n) := by
  refine ⟨nt_ge hx (isq_spec n).1, fun h1 => ?_⟩
  refine Nat.le_antisymm (Nat.le_of_not_lt fun hc => ?_) h
  have := nt_lt (isq_spec n).2 hc
  omega
end Go.Proofs.YteiboodeepjanaaGreat
