/- Plain facts on followers. No program in sight. -/
import Derived.Test.YteiboodeepjanaaGreatL6
namespace Go.Proofs.YteiboodeepjanaaGreat
open Go.RowKit

theorem follT_eq (bs : List Bool) (n : Nat) : follT bs n = (ixs n).filter fun i => bit bs i.toNat := by
  unfold follT ixs
  rw [List.filter_map]
  rfl
theorem ixs_sorted (n : Nat) : (ixs n).Pairwise (· < ·) := by
  unfold ixs
  rw [List.pairwise_map]
  exact List.pairwise_lt_range.imp fun h => by omega
theorem foll_has {bs : List Bool} {n b : Nat} (hb : b < n) : hasB (follT bs n) (b : Int) = bit bs b := by
  rw [Bool.eq_iff_iff, hasB_iff, follT_eq, List.mem_filter, ixs_mem, Int.toNat_natCast]
  constructor
  · exact fun h => h.2
  · exact fun h => ⟨by omega, h⟩
theorem foll_asc {bs : List Bool} {n : Nat} : (follT bs n).Pairwise (· < ·) := by
  rw [follT_eq]
  exact (ixs_sorted n).filter _
theorem foll_in {bs : List Bool} {n : Nat} : ∀ x ∈ follT bs n, 0 ≤ x ∧ x < n := fun x hx => by
  rw [follT_eq, List.mem_filter, ixs_mem] at hx
  exact hx.1
theorem sorted_nodup (l : List Opn) : (sortedL l).Nodup := by
  rw [List.Nodup, List.pairwise_iff_getElem]
  intro i j hi hj hij he
  have := sorted_inj hi hj he
  omega
theorem sorted_perm {l : List Opn} (hG : Good l) : (sortedL l).Perm (ixs l.length) := by
  rw [List.perm_ext_iff_of_nodup (sorted_nodup l) (ixs_nodup _)]
  intro x
  constructor
  · intro hx; exact ixs_mem.2 (sorted_mem x hx)
  · intro hx
    have hx := ixs_mem.1 hx
    obtain ⟨k, hk, he⟩ := hG.all (b := x.toNat) (by omega)
    have : x = (sortedL l)[k] := by rw [he]; omega
    rw [this]
    exact List.getElem_mem hk
def cntB (bs : List Bool) (o : List Int) : Nat := (o.filter fun i => bit bs i.toNat).length
theorem cnt_snoc {bs : List Bool} {o : List Int} {k : Nat} (hk : k < o.length) : cntB bs (o.take (k + 1)) = cntB bs (o.take k) + if bit bs o[k].toNat = true then 1 else 0 := by
  unfold cntB
  rw [List.take_succ_eq_append_getElem hk, List.filter_append, List.length_append, List.filter_cons]
  split <;> simp
theorem cnt_le (bs : List Bool) (o : List Int) : cntB bs o ≤ o.length := List.length_filter_le _ _
theorem cnt_all {l : List Opn} (hG : Good l) (bs : List Bool) : cntB bs (sortedL l) = (follT bs l.length).length := by
  unfold cntB
  rw [follT_eq]
  exact ((sorted_perm hG).filter _).length_eq
end Go.Proofs.YteiboodeepjanaaGreat
