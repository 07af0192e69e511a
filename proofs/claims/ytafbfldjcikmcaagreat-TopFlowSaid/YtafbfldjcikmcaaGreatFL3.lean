/- Texts in one file: C1 C7 C8 C9 C10 C11 C12 C13 N9 N10 C14 C15 C17 C18 C19 C20 C20O TA TB. -/
import Derived.Test.YtafbfldjcikmcaaGreatFL2
import Derived.Test.YtafbfldjcikmcaaGreatFL1
import Derived.Laws.Strings
set_option maxRecDepth 100000
set_option maxHeartbeats 8000000
namespace Go.Proofs.YtafbfldjcikmcaaGreat
open Go.RowKit
def letterB (c : Int) : Bool := decide (97 ≤ c) && decide (c ≤ 122)
def furtherB (c : Int) : Bool := (decide (48 ≤ c) && decide (c ≤ 57)) || decide (c = 95)
def charB (s : ByteArray) (i : Nat) : Bool := letterB (bAt s i) || (decide (i ≠ 0) && furtherB (bAt s i))
def nameB (s : ByteArray) : Bool := decide (s.size ≠ 0) && decide (s.size ≤ 24) && !(s.toList == (ByteArray.mk #[109, 105, 110]).toList) && !(s.toList == (ByteArray.mk #[109, 97, 120]).toList) && (List.range s.size).all (charB s)

theorem nameB_no {s : ByteArray} {k : Nat} (hk : k < s.size) (h : charB s k = false) : nameB s = false := by
 unfold nameB
 rw [Bool.and_eq_false_iff]
 right
 rw [List.all_eq_false]
 exact ⟨k, List.mem_range.2 hk, by rw [h]; simp⟩
theorem chars_snoc {s : ByteArray} {k : Nat} (h : (List.range k).all (charB s) = true) (hc : charB s k = true) : (List.range (k + 1)).all (charB s) = true := by
 rw [List.range_succ, List.all_append, h]
 simp [hc]
theorem char_yes {s : ByteArray} {k : Nat} (h : (97 ≤ bAt s k ∧ bAt s k ≤ 122) ∨ (k ≠ 0 ∧ ((48 ≤ bAt s k ∧ bAt s k ≤ 57) ∨ bAt s k = 95))) : charB s k = true := by
 unfold charB letterB furtherB
 simp only [Bool.or_eq_true, Bool.and_eq_true, decide_eq_true_eq]
 exact h
theorem char_no {s : ByteArray} {k : Nat} (h : ¬ ((97 ≤ bAt s k ∧ bAt s k ≤ 122) ∨ (k ≠ 0 ∧ ((48 ≤ bAt s k ∧ bAt s k ≤ 57) ∨ bAt s k = 95)))) : charB s k = false := by
 rw [← Bool.not_eq_true]
 unfold charB letterB furtherB
 simp only [Bool.or_eq_true, Bool.and_eq_true, decide_eq_true_eq]
 exact h
theorem ba_toList (a : ByteArray) : a.toList = a.data.toList :=
 Go.ByteArray.toList_eq a
theorem ba_empty {s : ByteArray} : (s.toList == (ByteArray.mk #[]).toList) = decide (s.size = 0) := by
 rw [ba_toList, ba_toList]
 show (s.data.toList == []) = decide (s.data.size = 0)
 rw [← Array.length_toList]
 cases s.data.toList <;> simp

set_option maxHeartbeats 4000000 in
theorem isName_ok (w : World) (s : ByteArray) (hs : s.size ≤ 9223372036854775807) : Ok Tryz.prog 73 [.string s].toArray w fun r _ => r = .bool (nameB s) := by
 refine ok_enter Tryz.func73 rfl Tryz.ntmps73 rfl ?_
 focus (refine gV ?_; refine gM ?_; refine gO ?_; refine gQ ?_; refine gV ?_; refine gM ?_; apply gw_d; exact det_seq rfl rfl rfl rfl; refine gM ?_; refine gw_guard rfl rfl (fun _ => ?_) (fun _ => ?_); (iterate 3 refine gU ?_); refine gPp ?_; refine gM ?_; (iterate 2 refine gU ?_); refine gPp ?_; refine gM ?_; (iterate 2 refine gU ?_); refine gPp ?_; refine gO ?_; refine gc_if_true rfl ?_; refine gV ?_; refine gM ?_; refine gO ?_; refine gR ?_; refine gT ?_; rotate_left; refine gM ?_; apply gw_d; exact w_len_str rfl rfl rfl; refine gC ?_; refine gPq ?_; refine gM ?_; refine gD (fun _ => ?_) (fun _ => ?_); (iterate 2 refine gU ?_); refine gPp ?_; refine gM ?_; (iterate 2 refine gU ?_); refine gPp ?_; refine gO ?_; refine gc_if_true rfl ?_; refine gV ?_; refine gM ?_; refine gO ?_; refine gR ?_; refine gT ?_; rotate_left; refine gM ?_; apply gw_d; exact det_seq rfl rfl rfl rfl; refine gPq ?_; refine gM ?_; refine gw_guard rfl rfl (fun _ => ?_) (fun _ => ?_); (iterate 2 refine gU ?_); refine gPp ?_; refine gO ?_; refine gc_if_true rfl ?_; refine gV ?_; refine gM ?_; refine gO ?_; refine gR ?_; refine gT ?_; rotate_left; refine gM ?_; apply gw_d; exact det_seq rfl rfl rfl rfl; refine gPq ?_; refine gO ?_; refine gc_if rfl (fun _ => ?_) (fun _ => ?_); refine gV ?_; refine gM ?_; refine gO ?_; refine gR ?_; refine gT ?_; rotate_left; refine gK ?_; refine gX ?_; refine gQ ?_; refine gV ?_; refine gM ?_; apply gw_d; exact w_len_str rfl rfl rfl; refine gM ?_; refine gO ?_; refine gB ?_; rotate_left)
 ·refine gb1 (fun _ _ => ?_)
  rename_i h _ _
  rw [ba_empty] at h
  unfold nameB
  simp at h
  simp [h]
 ·refine gb1 (fun _ _ => ?_)
  rename_i h _ _
  have h' : ¬ s.size ≤ 24 := by omega
  unfold nameB
  simp [h']
 ·refine gb1 (fun _ _ => ?_)
  rename_i h _ _
  unfold nameB
  rw [h]
  simp
 ·refine gb1 (fun _ _ => ?_)
  rename_i h _ _
  unfold nameB
  rw [h]
  simp
 ·rename_i h1 h2 h3 h4
  refine gc_loop (σ := Nat) [24, 25, 3, 26, 27, 28, 29, 30, 31, 32, 33, 34, 35, 4, 36, 37, 38, 39, 40, 41, 42, 43, 44, 45, 46, 47, 48, 49, 50, 51, 5, 52, 53, 54, 55, 56, 57, 58, 59, 60, 61, 2, 62, 23] (fun k => [(23, .int .i64 k)]) (fun _ => []) (fun k => k ≤ s.size ∧ (List.range k).all (charB s) = true) (fun k => s.size - k) 0 ⟨Nat.zero_le _, rfl⟩ ⟨rfl, trivial⟩ .nil ?_
  rintro k base ⟨hk, hI⟩
  focus (refine gV ?_; refine gC ?_; refine gO ?_; refine gQ ?_; refine gc_if_dec rfl (fun _ => ?_) (fun _ => ?_); refine gK ?_; refine gX ?_; refine gQ ?_; refine gB ?_; refine gV ?_; (iterate 2 refine gM ?_); refine gN ?_; (iterate 2 refine gM ?_); apply gw_d; exact w_sidx rfl rfl rfl rfl (by with_reducible exact rfl) (by omega); refine gC ?_; refine gM ?_; refine gD (fun _ => ?_) (fun _ => ?_); (iterate 2 refine gM ?_); apply gw_d; exact w_sidx rfl rfl rfl rfl (by with_reducible exact rfl) (by omega); refine gC ?_; refine gPp ?_; refine gM ?_; refine gN ?_; (iterate 2 refine gM ?_); apply gw_d; exact w_sidx rfl rfl rfl rfl (by with_reducible exact rfl) (by omega); refine gC ?_; refine gM ?_; refine gD (fun _ => ?_) (fun _ => ?_); (iterate 2 refine gM ?_); apply gw_d; exact w_sidx rfl rfl rfl rfl (by with_reducible exact rfl) (by omega); refine gC ?_; refine gPp ?_; refine gM ?_; refine gD (fun _ => ?_) (fun _ => ?_); (iterate 4 refine gU ?_); refine gPp ?_; refine gM ?_; refine gN ?_; refine gM ?_; apply gw_d; exact det_not_dec rfl rfl rfl; refine gM ?_; refine gD (fun _ => ?_) (fun _ => ?_); refine gM ?_; refine gC ?_; refine gM ?_; refine gD (fun _ => ?_) (fun _ => ?_); (iterate 2 refine gU ?_); (iterate 2 refine gPp ?_); refine gO ?_; refine gc_if_true rfl ?_; refine gV ?_; refine gM ?_; refine gO ?_; refine gR ?_; refine gY ?_; (iterate 2 refine gT ?_); refine gY ?_; refine gT ?_; rotate_left; refine gM ?_; apply gw_d; exact det_not_ rfl rfl rfl; refine gPq ?_; refine gPp ?_; refine gO ?_; refine gc_if_false rfl ?_; refine gK ?_; refine gH ?_; refine gX ?_; refine gG ?_; refine gA ?_; refine gM ?_; refine gw_nil ?_; rotate_left; (iterate 6 refine gU ?_); refine gPq ?_; refine gO ?_; refine gc_if_false rfl ?_; refine gK ?_; refine gH ?_; refine gX ?_; refine gG ?_; refine gA ?_; refine gM ?_; refine gw_nil ?_; rotate_left; (iterate 2 refine gM ?_); apply gw_d; exact w_sidx rfl rfl rfl rfl (by with_reducible exact rfl) (by omega); refine gC ?_; refine gPq ?_; refine gM ?_; refine gN ?_; refine gM ?_; apply gw_d; exact det_not_dec rfl rfl rfl; refine gM ?_; refine gD (fun _ => ?_) (fun _ => ?_); refine gM ?_; refine gC ?_; refine gM ?_; refine gD (fun _ => ?_) (fun _ => ?_); (iterate 2 refine gU ?_); (iterate 2 refine gPp ?_); refine gO ?_; refine gc_if_true rfl ?_; refine gV ?_; refine gM ?_; refine gO ?_; refine gR ?_; refine gY ?_; (iterate 2 refine gT ?_); refine gY ?_; refine gT ?_; rotate_left; refine gM ?_; apply gw_d; exact det_not_dec rfl rfl rfl; refine gPq ?_; refine gPp ?_; refine gO ?_; refine gc_if_dec rfl (fun _ => ?_) (fun _ => ?_); refine gV ?_; refine gM ?_; refine gO ?_; refine gR ?_; refine gY ?_; (iterate 2 refine gT ?_); refine gY ?_; refine gT ?_; rotate_left; refine gK ?_; refine gH ?_; refine gX ?_; refine gG ?_; refine gA ?_; refine gM ?_; refine gw_nil ?_; rotate_left; (iterate 6 refine gU ?_); refine gPq ?_; refine gO ?_; refine gc_if_false rfl ?_; refine gK ?_; refine gH ?_; refine gX ?_; refine gG ?_; refine gA ?_; refine gM ?_; refine gw_nil ?_; rotate_left; (iterate 4 refine gU ?_); refine gPq ?_; (iterate 3 refine gM ?_); apply gw_d; exact w_sidx rfl rfl rfl rfl (by with_reducible exact rfl) (by omega); refine gC ?_; refine gPq ?_; refine gM ?_; refine gN ?_; refine gM ?_; apply gw_d; exact det_not_dec rfl rfl rfl; refine gM ?_; refine gD (fun _ => ?_) (fun _ => ?_); refine gM ?_; refine gC ?_; refine gM ?_; refine gD (fun _ => ?_) (fun _ => ?_); (iterate 2 refine gU ?_); (iterate 2 refine gPp ?_); refine gO ?_; refine gc_if_true rfl ?_; refine gV ?_; refine gM ?_; refine gO ?_; refine gR ?_; refine gY ?_; (iterate 2 refine gT ?_); refine gY ?_; refine gT ?_; rotate_left; refine gM ?_; apply gw_d; exact det_not_dec rfl rfl rfl; refine gPq ?_; refine gPp ?_; refine gO ?_; refine gc_if_dec rfl (fun _ => ?_) (fun _ => ?_); refine gV ?_; refine gM ?_; refine gO ?_; refine gR ?_; refine gY ?_; (iterate 2 refine gT ?_); refine gY ?_; refine gT ?_; rotate_left; refine gK ?_; refine gH ?_; refine gX ?_; refine gG ?_; refine gA ?_; refine gM ?_; refine gw_nil ?_; rotate_left; (iterate 6 refine gU ?_); refine gPq ?_; refine gO ?_; refine gc_if_false rfl ?_; refine gK ?_; refine gH ?_; refine gX ?_; refine gG ?_; refine gA ?_; refine gM ?_; refine gw_nil ?_; rotate_left; (iterate 4 refine gU ?_); refine gPq ?_; refine gM ?_; refine gN ?_; (iterate 2 refine gM ?_); apply gw_d; exact w_sidx rfl rfl rfl rfl (by with_reducible exact rfl) (by omega); refine gC ?_; refine gM ?_; refine gD (fun _ => ?_) (fun _ => ?_); (iterate 2 refine gM ?_); apply gw_d; exact w_sidx rfl rfl rfl rfl (by with_reducible exact rfl) (by omega); refine gC ?_; refine gPp ?_; refine gM ?_; refine gD (fun _ => ?_) (fun _ => ?_); (iterate 4 refine gU ?_); refine gPp ?_; refine gM ?_; refine gN ?_; refine gM ?_; apply gw_d; exact det_not_ rfl rfl rfl; (iterate 2 refine gM ?_); refine gC ?_; refine gM ?_; refine gD (fun _ => ?_) (fun _ => ?_); (iterate 2 refine gU ?_); (iterate 2 refine gPp ?_); refine gO ?_; refine gc_if_true rfl ?_; refine gV ?_; refine gM ?_; refine gO ?_; refine gR ?_; refine gY ?_; (iterate 2 refine gT ?_); refine gY ?_; refine gT ?_; rotate_left; refine gM ?_; apply gw_d; exact det_not_ rfl rfl rfl; refine gPq ?_; refine gPp ?_; refine gO ?_; refine gc_if_false rfl ?_; refine gK ?_; refine gH ?_; refine gX ?_; refine gG ?_; refine gA ?_; refine gM ?_; refine gw_nil ?_; rotate_left; (iterate 2 refine gM ?_); apply gw_d; exact w_sidx rfl rfl rfl rfl (by with_reducible exact rfl) (by omega); refine gC ?_; refine gPq ?_; refine gM ?_; refine gN ?_; refine gM ?_; apply gw_d; exact det_not_ rfl rfl rfl; (iterate 2 refine gM ?_); refine gC ?_; refine gM ?_; refine gD (fun _ => ?_) (fun _ => ?_); (iterate 2 refine gU ?_); (iterate 2 refine gPp ?_); refine gO ?_; refine gc_if_true rfl ?_; refine gV ?_; refine gM ?_; refine gO ?_; refine gR ?_; refine gY ?_; (iterate 2 refine gT ?_); refine gY ?_; refine gT ?_; rotate_left; refine gM ?_; apply gw_d; exact det_not_dec rfl rfl rfl; refine gPq ?_; refine gPp ?_; refine gO ?_; refine gc_if_dec rfl (fun _ => ?_) (fun _ => ?_); refine gV ?_; refine gM ?_; refine gO ?_; refine gR ?_; refine gY ?_; (iterate 2 refine gT ?_); refine gY ?_; refine gT ?_; rotate_left; refine gK ?_; refine gH ?_; refine gX ?_; refine gG ?_; refine gA ?_; refine gM ?_; refine gw_nil ?_; rotate_left; (iterate 4 refine gU ?_); refine gPq ?_; (iterate 3 refine gM ?_); apply gw_d; exact w_sidx rfl rfl rfl rfl (by with_reducible exact rfl) (by omega); refine gC ?_; refine gPq ?_; refine gM ?_; refine gN ?_; refine gM ?_; apply gw_d; exact det_not_ rfl rfl rfl; (iterate 2 refine gM ?_); refine gC ?_; refine gM ?_; refine gD (fun _ => ?_) (fun _ => ?_); (iterate 2 refine gU ?_); (iterate 2 refine gPp ?_); refine gO ?_; refine gc_if_true rfl ?_; refine gV ?_; refine gM ?_; refine gO ?_; refine gR ?_; refine gY ?_; (iterate 2 refine gT ?_); refine gY ?_; refine gT ?_; rotate_left; refine gM ?_; apply gw_d; exact det_not_dec rfl rfl rfl; refine gPq ?_; refine gPp ?_; refine gO ?_; refine gc_if_dec rfl (fun _ => ?_) (fun _ => ?_); refine gV ?_; refine gM ?_; refine gO ?_; refine gR ?_; refine gY ?_; (iterate 2 refine gT ?_); refine gY ?_; refine gT ?_; rotate_left; refine gK ?_; refine gH ?_; refine gX ?_; refine gG ?_; refine gA ?_; refine gM ?_; refine gw_nil ?_; rotate_left; refine gI ?_; (iterate 2 refine gZ ?_); refine gJ ?_; refine gX ?_; refine gV ?_; refine gM ?_; refine gO ?_; refine gR ?_; rotate_left)
  all_goals first
   | exact gx_round (k + 1) ⟨by omega, chars_snoc hI (char_yes (by omega))⟩ (by omega) kK ⟨rfl, trivial⟩ .nil
   | (refine gb1 (fun _ _ => ?_); rw [nameB_no (by omega) (char_no (k := k) (by omega))])
   | skip
  refine gb1 (fun _ _ => ?_)
  obtain rfl : k = s.size := by omega
  rw [ba_empty] at h1
  simp only [decide_eq_false_iff_not] at h1
  have h2' : s.size ≤ 24 := by omega
  unfold nameB
  rw [h3, h4, hI]
  simp [h1, h2']
theorem isDigit_ok (w : World) (c : Int) : Ok Tryz.prog 89 [.int .u8 c].toArray w fun r _ => r = .bool (decide (48 ≤ c ∧ c ≤ 57)) := by
 refine ok_enter Tryz.func89 rfl Tryz.ntmps89 rfl ?_
 focus (refine gV ?_; refine gM ?_; refine gN ?_; refine gM ?_; refine gC ?_; refine gM ?_; refine gD (fun _ => ?_) (fun _ => ?_); refine gM ?_; refine gC ?_; refine gPp ?_; refine gM ?_; refine gO ?_; refine gR ?_; rotate_left; (iterate 2 refine gU ?_); refine gPq ?_; refine gM ?_; refine gO ?_; refine gR ?_; rotate_left)
 all_goals (refine gb1 (fun _ _ => ?_); simp [*])
theorem operands2_ok (w : World) : Ok Tryz.prog 76 [.int .i64 2].toArray w fun r _ => r = .tuple #[.int .i64 0, .int .i64 0] := by
 refine ok_enter Tryz.func76 rfl Tryz.ntmps76 rfl ?_
 (refine gV ?_; (iterate 2 refine gM ?_); refine gO ?_; refine gQ ?_; refine gV ?_; refine gM ?_; refine gO ?_; refine gB ?_; refine gQ ?_; refine gV ?_; refine gC ?_; refine gM ?_; refine gO ?_)
 refine gc_if_dec rfl (fun h => absurd h (by decide)) (fun _ => ?_)
 (refine gG ?_; refine gC ?_; refine gM ?_; refine gO ?_)
 refine gc_if_dec rfl (fun _ => ?_) (fun h => absurd rfl h)
 (refine gV ?_; (iterate 2 refine gM ?_); refine gO ?_; refine gR ?_; refine gY ?_; refine gT ?_)
 refine gx_ret2 (u := .int _ _) (v := .int _ _) rfl rfl rfl (fun _ _ => ?_)
 rfl

theorem fname_ok (w : World) (s : ByteArray) (hs : s.size ≤ 9223372036854775807) : Ok Tryz.prog 77 [.string s].toArray w fun r _ => r = .bool (nameB s) := by
 refine ok_enter Tryz.func77 rfl Tryz.ntmps77 rfl ?_
 focus (refine gV ?_; refine gM ?_; refine gO ?_; refine gQ ?_; refine gV ?_; refine gM ?_; apply gw_d; exact w_len_str rfl rfl rfl; refine gC ?_; refine gM ?_; refine gD (fun _ => ?_) (fun _ => ?_); (iterate 3 refine gU ?_); refine gPp ?_; refine gM ?_; (iterate 2 refine gU ?_); refine gPp ?_; refine gM ?_; (iterate 2 refine gU ?_); refine gPp ?_; refine gO ?_; refine gc_if_true rfl ?_; refine gV ?_; refine gM ?_; refine gO ?_; refine gR ?_; refine gT ?_; rotate_left; refine gM ?_; apply gw_d; exact w_len_str rfl rfl rfl; refine gC ?_; refine gPq ?_; refine gM ?_; refine gD (fun _ => ?_) (fun _ => ?_); (iterate 2 refine gU ?_); refine gPp ?_; refine gM ?_; (iterate 2 refine gU ?_); refine gPp ?_; refine gO ?_; refine gc_if_true rfl ?_; refine gV ?_; refine gM ?_; refine gO ?_; refine gR ?_; refine gT ?_; rotate_left; refine gM ?_; apply gw_d; exact det_seq rfl rfl rfl rfl; refine gPq ?_; refine gM ?_; refine gw_guard rfl rfl (fun _ => ?_) (fun _ => ?_); (iterate 2 refine gU ?_); refine gPp ?_; refine gO ?_; refine gc_if_true rfl ?_; refine gV ?_; refine gM ?_; refine gO ?_; refine gR ?_; refine gT ?_; rotate_left; refine gM ?_; apply gw_d; exact det_seq rfl rfl rfl rfl; refine gPq ?_; refine gO ?_; refine gc_if rfl (fun _ => ?_) (fun _ => ?_); refine gV ?_; refine gM ?_; refine gO ?_; refine gR ?_; refine gT ?_; rotate_left; refine gK ?_; refine gX ?_; refine gQ ?_; refine gV ?_; refine gM ?_; apply gw_d; exact w_len_str rfl rfl rfl; refine gM ?_; refine gO ?_; refine gB ?_; rotate_left)
 ·refine gb1 (fun _ _ => ?_)
  rename_i h _ _
  unfold nameB
  have h' : s.size = 0 := by omega
  simp [h']
 ·refine gb1 (fun _ _ => ?_)
  rename_i h _ _
  have h' : ¬ s.size ≤ 24 := by omega
  unfold nameB
  simp [h']
 ·refine gb1 (fun _ _ => ?_)
  rename_i h _ _
  unfold nameB
  rw [h]
  simp
 ·refine gb1 (fun _ _ => ?_)
  rename_i h _ _
  unfold nameB
  rw [h]
  simp
 ·rename_i h1 h2 h3 h4
  refine gc_loop (σ := Nat) [25, 26, 3, 27, 28, 29, 4, 30, 31, 32, 33, 34, 35, 5, 36, 37, 38, 39, 40, 41, 42, 43, 44, 45, 46, 47, 48, 49, 50, 2, 51, 24] (fun k => [(24, .int .i64 k)]) (fun _ => []) (fun k => k ≤ s.size ∧ (List.range k).all (charB s) = true) (fun k => s.size - k) 0 ⟨Nat.zero_le _, rfl⟩ ⟨rfl, trivial⟩ .nil ?_
  rintro k base ⟨hk, hI⟩
  focus (refine gV ?_; refine gC ?_; refine gO ?_; refine gQ ?_; refine gc_if_dec rfl (fun _ => ?_) (fun _ => ?_); refine gK ?_; refine gX ?_; refine gQ ?_; refine gB ?_; refine gV ?_; (iterate 2 refine gM ?_); refine gN ?_; (iterate 2 refine gM ?_); apply gw_d; exact w_sidx rfl rfl rfl rfl (by with_reducible exact rfl) (by omega); refine gM ?_; refine gN ?_; refine gM ?_; refine gC ?_; refine gM ?_; refine gD (fun _ => ?_) (fun _ => ?_); refine gM ?_; refine gC ?_; refine gPp ?_; refine gM ?_; refine gN ?_; refine gM ?_; apply gw_d; exact det_not_dec rfl rfl rfl; refine gM ?_; refine gD (fun _ => ?_) (fun _ => ?_); refine gM ?_; refine gC ?_; refine gM ?_; refine gD (fun _ => ?_) (fun _ => ?_); (iterate 7 refine gU ?_); (iterate 2 refine gPp ?_); refine gO ?_; refine gc_if_true rfl ?_; refine gV ?_; refine gM ?_; refine gO ?_; refine gR ?_; refine gY ?_; (iterate 2 refine gT ?_); refine gY ?_; refine gT ?_; rotate_left; refine gM ?_; refine gC ?_; refine gM ?_; refine gD (fun _ => ?_) (fun _ => ?_); refine gM ?_; apply gw_d; exact w_call rfl rfl (fun w s => isDigit_ok w _) rfl; apply gw_d; exact det_not_dec rfl rfl rfl; refine gPp ?_; refine gPq ?_; refine gPp ?_; refine gO ?_; refine gc_if_dec rfl (fun _ => ?_) (fun _ => ?_); refine gV ?_; refine gM ?_; refine gO ?_; refine gR ?_; refine gY ?_; (iterate 2 refine gT ?_); refine gY ?_; refine gT ?_; rotate_left; refine gK ?_; refine gH ?_; refine gX ?_; refine gG ?_; refine gA ?_; refine gM ?_; refine gw_nil ?_; rotate_left; (iterate 3 refine gU ?_); (iterate 2 refine gPq ?_); refine gPp ?_; refine gO ?_; refine gc_if_false rfl ?_; refine gK ?_; refine gH ?_; refine gX ?_; refine gG ?_; refine gA ?_; refine gM ?_; refine gw_nil ?_; rotate_left; (iterate 11 refine gU ?_); refine gPq ?_; refine gO ?_; refine gc_if_false rfl ?_; refine gK ?_; refine gH ?_; refine gX ?_; refine gG ?_; refine gA ?_; refine gM ?_; refine gw_nil ?_; rotate_left; (iterate 2 refine gU ?_); refine gPq ?_; refine gM ?_; refine gN ?_; refine gM ?_; apply gw_d; exact det_not_ rfl rfl rfl; (iterate 2 refine gM ?_); refine gC ?_; refine gM ?_; refine gD (fun _ => ?_) (fun _ => ?_); (iterate 7 refine gU ?_); (iterate 2 refine gPp ?_); refine gO ?_; refine gc_if_true rfl ?_; refine gV ?_; refine gM ?_; refine gO ?_; refine gR ?_; refine gY ?_; (iterate 2 refine gT ?_); refine gY ?_; refine gT ?_; rotate_left; refine gM ?_; refine gC ?_; refine gM ?_; refine gD (fun _ => ?_) (fun _ => ?_); refine gM ?_; apply gw_d; exact w_call rfl rfl (fun w s => isDigit_ok w _) rfl; apply gw_d; exact det_not_dec rfl rfl rfl; refine gPp ?_; refine gPq ?_; refine gPp ?_; refine gO ?_; refine gc_if_dec rfl (fun _ => ?_) (fun _ => ?_); refine gV ?_; refine gM ?_; refine gO ?_; refine gR ?_; refine gY ?_; (iterate 2 refine gT ?_); refine gY ?_; refine gT ?_; rotate_left; refine gK ?_; refine gH ?_; refine gX ?_; refine gG ?_; refine gA ?_; refine gM ?_; refine gw_nil ?_; rotate_left; (iterate 3 refine gU ?_); (iterate 2 refine gPq ?_); refine gPp ?_; refine gO ?_; refine gc_if_false rfl ?_; refine gK ?_; refine gH ?_; refine gX ?_; refine gG ?_; refine gA ?_; refine gM ?_; refine gw_nil ?_; rotate_left; refine gI ?_; (iterate 2 refine gZ ?_); refine gJ ?_; refine gX ?_; refine gV ?_; refine gM ?_; refine gO ?_; refine gR ?_; rotate_left)
  all_goals first
   | exact gx_round (k + 1) ⟨by omega, chars_snoc hI (char_yes (by omega))⟩ (by omega) kK ⟨rfl, trivial⟩ .nil
   | (refine gb1 (fun _ _ => ?_); rw [nameB_no (by omega) (char_no (k := k) (by omega))])
   | skip
  refine gb1 (fun _ _ => ?_)
  obtain rfl : k = s.size := by omega
  have h2' : s.size ≤ 24 := by omega
  have h1' : ¬ s.size = 0 := by omega
  unfold nameB
  rw [h3, h4, hI]
  simp [h1', h2']

theorem right_ok (w : World) (s : ByteArray) (hs : s.size ≤ 9223372036854775807) : Ok Tryz.prog 59 [.agg #[.int .i64 2, .bool false, .slice none 0 0, .slice none 0 0, .string s, .slice none 0 0]].toArray w fun r _ => r = .bool (nameB s) := by
 refine ok_enter Tryz.func59 rfl Tryz.ntmps59 rfl ?_
 (refine gV ?_; refine gw_boxd (v := .agg _) rfl rfl (fun _ => ?_); refine gM ?_; refine gN ?_; refine gF ?_; refine gW .here ?_; apply gw_d; exact w_call rfl rfl (fun w s => operands2_ok w) rfl; refine gM ?_; apply gw_d; exact det_extract rfl rfl rfl (by conv => (lhs; whnf)); apply gw_d; exact det_extract rfl rfl rfl (by conv => (lhs; whnf)); (iterate 2 refine gM ?_); refine gO ?_; refine gQ ?_; refine gV ?_; refine gF ?_; refine gW .here ?_; refine gL ?_; refine gM ?_; refine gC ?_; refine gM ?_; refine gF ?_; refine gW .here ?_; refine gL ?_; refine gM ?_; refine gC ?_; refine gPq ?_; refine gO ?_)
 refine gc_if_dec rfl (fun h => absurd h (by decide)) (fun _ => ?_)
 (refine gK ?_; refine gX ?_; refine gQ ?_; refine gV ?_; refine gF ?_; refine gW .here ?_; refine gC ?_; refine gO ?_)
 refine gc_if_dec rfl (fun _ => ?_) (fun h => absurd rfl h)
 (refine gV ?_; refine gF ?_; refine gW .here ?_; apply gw_d; exact w_call rfl rfl (fun w _ => fname_ok w s hs) rfl; apply gw_d; exact det_not_ rfl rfl rfl; refine gO ?_)
 refine gc_if rfl (fun h => ?_) (fun h => ?_)
 ·(refine gV ?_; refine gM ?_; refine gO ?_; refine gR ?_; refine gT ?_)
  refine gb1 (fun _ _ => ?_)
  simp at h
  rw [h]
 ·(refine gK ?_; refine gX ?_; refine gQ ?_; refine gV ?_; refine gF ?_; refine gW .here ?_; refine gC ?_; refine gO ?_)
  refine gc_if_dec rfl (fun h => absurd h (by decide)) (fun _ => ?_)
  (refine gK ?_; refine gX ?_; refine gV ?_; refine gF ?_; apply gw_d; exact w_load_part rfl rfl rfl .here rfl rfl; apply gw_d; exact w_build (cells := #[.bool false, .slice none 0 0, .slice none 0 0]) rfl rfl (by kernel_rfl); apply gw_d; exact w_call rfl rfl (fun w _ => ratioCmp0_ok w) rfl; refine gC ?_; refine gM ?_; refine gO ?_; refine gR ?_)
  refine gb1 (fun _ _ => ?_)
  simp at h
  rw [h]
  rfl
theorem check_ok (w : World) (s : ByteArray) (hs : s.size ≤ 9223372036854775807) : Ok Tryz.prog 41 [.agg #[.int .i64 2, .bool false, .slice none 0 0, .slice none 0 0, .string s, .slice none 0 0], .int .i64 1].toArray w fun r _ => r = .int .i64 (if nameB s = true then 0 else 1) := by
 refine ok_enter Tryz.func41 rfl Tryz.ntmps41 rfl ?_
 (refine gV ?_; refine gw_boxd (v := .agg _) rfl rfl (fun _ => ?_); refine gM ?_; refine gO ?_; refine gQ ?_; refine gV ?_; refine gM ?_; refine gC ?_; refine gO ?_)
 refine gc_if_dec rfl (fun h => absurd h (by decide)) (fun _ => ?_)
 (refine gK ?_; refine gX ?_; refine gQ ?_; refine gV ?_; apply gw_d; exact w_load_boxN rfl rfl rfl .here rfl; apply gw_d; exact w_call rfl rfl (fun w _ => right_ok w s hs) rfl; apply gw_d; exact det_not_ rfl rfl rfl; refine gO ?_)
 refine gc_if rfl (fun h => ?_) (fun h => ?_)
 ·(refine gV ?_; refine gM ?_; refine gO ?_; refine gR ?_; refine gT ?_)
  refine gi1 (fun _ _ => ?_)
  simp at h
  rw [h]
  rfl
 ·(refine gK ?_; refine gX ?_; refine gQ ?_; refine gV ?_; refine gF ?_; refine gW .here ?_; refine gL ?_; refine gM ?_; refine gO ?_; refine gB ?_)
  refine gc_loop (σ := Unit) [17, 18, 19, 6, 20, 21, 22, 23, 7, 24, 25, 26, 4, 27, 16] (fun _ => [(16, .int .i64 0)]) (fun _ => []) (fun _ => True) (fun _ => 0) () trivial ⟨rfl, trivial⟩ .nil ?_
  rintro k base -
  (refine gV ?_; refine gC ?_; refine gO ?_; refine gQ ?_)
  refine gc_if_dec rfl (fun h => absurd h (by decide)) (fun _ => ?_)
  (refine gI ?_; (iterate 2 refine gZ ?_); refine gJ ?_; refine gX ?_; refine gV ?_; refine gM ?_; refine gO ?_; refine gR ?_)
  refine gi1 (fun _ _ => ?_)
  simp at h
  rw [h]
  rfl
theorem fcheck_ok (w : World) (s : ByteArray) (hs : s.size ≤ 9223372036854775807) : Ok Tryz.prog 28 [.agg #[.int .i64 2, .bool false, .slice none 0 0, .slice none 0 0, .string s, .slice none 0 0]].toArray w fun r _ => r = .int .i64 (if nameB s = true then 0 else 1) := by
 refine ok_enter Tryz.func28 rfl Tryz.ntmps28 rfl ?_
 (refine gV ?_; refine gw_boxd (v := .agg _) rfl rfl (fun _ => ?_); refine gM ?_; refine gN ?_; apply gw_d; exact w_load_boxN rfl rfl rfl .here rfl; apply gw_d; exact w_call rfl rfl (fun w _ => check_ok w s hs) rfl; refine gM ?_; refine gO ?_; refine gR ?_)
 refine gi1 (fun _ _ => ?_)
 rfl
theorem name_eq (b : Bool) : decide ((if b = true then (0 : Int) else 1) = 0) = b := by cases b <;> rfl
theorem styleName_ok (w : World) (s : ByteArray) (hs : s.size ≤ 9223372036854775807) : Ok Tryz.prog 68 [.string s].toArray w fun r _ => r = .bool (nameB s) := by
 refine ok_enter Tryz.func68 rfl Tryz.ntmps68 rfl ?_
 (refine gV ?_; refine gM ?_; refine gN ?_; refine gM ?_; apply gw_d; exact w_build (cells := #[.int .i64 2, .bool false, .slice none 0 0, .slice none 0 0, .string s, .slice none 0 0]) rfl rfl (by kernel_rfl); apply gw_d; exact w_call rfl rfl (fun w _ => fcheck_ok w s hs) rfl; refine gC ?_; refine gM ?_; refine gO ?_; refine gR ?_)
 refine gb1 (fun _ _ => ?_)
 rw [name_eq]
theorem outlineName_ok (w : World) (s : ByteArray) (hs : s.size ≤ 9223372036854775807) : Ok Tryz.prog 112 [.string s].toArray w fun r _ => r = .bool (nameB s) := by
 refine ok_enter Tryz.func112 rfl Tryz.ntmps112 rfl ?_
 (refine gV ?_; refine gM ?_; refine gN ?_; refine gM ?_; apply gw_d; exact w_build (cells := #[.int .i64 2, .bool false, .slice none 0 0, .slice none 0 0, .string s, .slice none 0 0]) rfl rfl (by kernel_rfl); apply gw_d; exact w_call rfl rfl (fun w _ => fcheck_ok w s hs) rfl; refine gC ?_; refine gM ?_; refine gO ?_; refine gR ?_)
 refine gb1 (fun _ _ => ?_)
 rw [name_eq]
def isI (q p : Int) : Bool := decide (q = p)
theorem indexInt_ok (w : World) (v : Value) (l : List Int) (x : Int) (hl : Sl rInt w w.heap.size v l) :
  Ok Tryz.prog 83 [v, .int .i64 x].toArray w fun r _ => r = .int .i64 (idxI (isI x) l) := by
 obtain ⟨A, c, rfl, hc, hm, hcell⟩ := hl.int
 refine ok_enter Tryz.func83 rfl Tryz.ntmps83 rfl ?_
 (refine gV ?_; refine gM ?_; refine gO ?_; refine gQ ?_; refine gV ?_; refine gM ?_; refine gL ?_; refine gM ?_; refine gO ?_; refine gB ?_)
 refine gc_loop (σ := Nat) [9, 10, 5, 11, 12, 13, 14, 15, 16, 17, 4, 18, 8] (fun k => [(8, .int .i64 k)]) (fun _ => []) (fun k => k ≤ l.length ∧ (l.take k).any (isI x) = false) (fun k => l.length - k) 0 ⟨Nat.zero_le _, rfl⟩ ⟨rfl, trivial⟩ .nil ?_
 rintro k base ⟨hk, hI⟩
 (refine gV ?_; refine gC ?_; refine gO ?_; refine gQ ?_)
 refine gc_if_dec rfl (fun h => ?_) (fun h => ?_)
 ·obtain ⟨ad, rfl, hb, hce, hi⟩ := hcell k (by omega)
  have hlt : k < l.length := by omega
  focus (refine gK ?_; refine gX ?_; refine gQ ?_; refine gB ?_; refine gV ?_; (iterate 2 refine gM ?_); refine gN ?_; (iterate 3 refine gM ?_); apply gw_d; exact w_index rfl rfl rfl rfl (by with_reducible exact rfl) (by omega); apply gw_d; exact w_load_at rfl rfl rfl (by assumption) (by assumption); refine gC ?_; refine gO ?_; refine gc_if_dec rfl (fun _ => ?_) (fun _ => ?_); refine gV ?_; (iterate 2 refine gM ?_); refine gO ?_; refine gR ?_; refine gY ?_; (iterate 2 refine gT ?_); refine gY ?_; refine gT ?_; rotate_left; refine gK ?_; refine gH ?_; refine gX ?_; refine gG ?_; refine gA ?_; refine gM ?_; refine gw_nil ?_; rotate_left)
  ·refine gi1 (fun _ _ => ?_)
   rw [idx_found hlt hI (by simpa [isI] using ‹x = _›)]
  ·exact gx_round (k + 1) ⟨by omega, any_snoc hlt hI (by simpa [isI] using ‹¬ x = _›)⟩ (by omega) kK ⟨rfl, trivial⟩ .nil
 ·(refine gI ?_; (iterate 2 refine gZ ?_); refine gJ ?_; refine gX ?_; refine gV ?_; refine gM ?_; refine gO ?_; refine gR ?_)
  refine gi1 (fun _ _ => ?_)
  rw [List.take_of_length_le (by omega)] at hI
  rw [idx_none hI]
theorem containsInt_ok (w : World) (v : Value) (l : List Int) (x : Int) (hl : Sl rInt w w.heap.size v l) :
  Ok Tryz.prog 70 [v, .int .i64 x].toArray w fun r _ => r = .bool (l.any (isI x)) := by
 obtain ⟨A, c, rfl, _⟩ := hl.int
 refine ok_enter Tryz.func70 rfl Tryz.ntmps70 rfl ?_
 (refine gV ?_; refine gM ?_; refine gN ?_; (iterate 2 refine gM ?_); apply gw_d; exact w_call rfl rfl (fun w s => indexInt_ok w _ l _ (hl.later s)) rfl; refine gC ?_; refine gM ?_; refine gO ?_; refine gR ?_)
 refine gb1 (fun _ _ => ?_)
 congr 1
 have := idx_nonneg (isI x) l
 by_cases h : l.any (isI x) = true
 ·rw [h]; simp [this.2 h]
 ·have h2 : ¬ 0 ≤ idxI (isI x) l := fun h' => h (this.1 h')
  simp only [Bool.not_eq_true] at h
  rw [h]; simp; omega

theorem indexStr0_ok (w : World) (A : Option Addr) (c : Nat) (s : ByteArray) : Ok Tryz.prog 130 [.slice A 0 c, .string s].toArray w fun r _ => r = .int .i64 (-1) := by
 refine ok_enter Tryz.func130 rfl Tryz.ntmps130 rfl ?_
 (refine gV ?_; refine gM ?_; refine gO ?_; refine gQ ?_; refine gV ?_; refine gM ?_; refine gL ?_; refine gM ?_; refine gO ?_; refine gB ?_)
 refine gc_loop (σ := Unit) [9, 10, 5, 11, 12, 13, 14, 15, 16, 17, 4, 18, 8] (fun _ => [(8, .int .i64 0)]) (fun _ => []) (fun _ => True) (fun _ => 0) () trivial ⟨rfl, trivial⟩ .nil ?_
 rintro k base -
 (refine gV ?_; refine gC ?_; refine gO ?_; refine gQ ?_)
 refine gc_if_dec rfl (fun h => absurd h (by decide)) (fun _ => ?_)
 (refine gI ?_; (iterate 2 refine gZ ?_); refine gJ ?_; refine gX ?_; refine gV ?_; refine gM ?_; refine gO ?_; refine gR ?_)
 refine gi1 (fun _ _ => ?_)
 rfl
theorem containsStr0_ok (w : World) (A : Option Addr) (c : Nat) (s : ByteArray) : Ok Tryz.prog 109 [.slice A 0 c, .string s].toArray w fun r _ => r = .bool false := by
 refine ok_enter Tryz.func109 rfl Tryz.ntmps109 rfl ?_
 (refine gV ?_; refine gM ?_; refine gN ?_; (iterate 2 refine gM ?_); apply gw_d; exact w_call rfl rfl (fun w _ => indexStr0_ok w _ _ _) rfl; refine gC ?_; refine gM ?_; refine gO ?_; refine gR ?_)
 refine gb1 (fun _ _ => ?_)
 rfl

def sizeC (c : Int) : Bool := (decide (65 ≤ c) && decide (c ≤ 90)) || (decide (48 ≤ c) && decide (c ≤ 57))
def sizeB' (s : ByteArray) : Bool := decide (1 ≤ s.size) && decide (s.size ≤ 8) && (List.range s.size).all fun i => sizeC (bAt s i)
theorem sizeC_yes {c : Int} (h : (65 ≤ c ∧ c ≤ 90) ∨ (48 ≤ c ∧ c ≤ 57)) : sizeC c = true := by
 unfold sizeC
 simp only [Bool.or_eq_true, Bool.and_eq_true, decide_eq_true_eq]
 exact h
theorem sizeC_no {c : Int} (h : ¬ ((65 ≤ c ∧ c ≤ 90) ∨ (48 ≤ c ∧ c ≤ 57))) : sizeC c = false := by
 rw [← Bool.not_eq_true]
 unfold sizeC
 simp only [Bool.or_eq_true, Bool.and_eq_true, decide_eq_true_eq]
 exact h
theorem sizeB_no {s : ByteArray} {k : Nat} (hk : k < s.size) (h : sizeC (bAt s k) = false) : sizeB' s = false := by
 unfold sizeB'
 rw [Bool.and_eq_false_iff]
 right
 rw [List.all_eq_false]
 exact ⟨k, List.mem_range.2 hk, by rw [h]; simp⟩
theorem sizes_snoc {s : ByteArray} {k : Nat} (h : (List.range k).all (fun i => sizeC (bAt s i)) = true) (hc : sizeC (bAt s k) = true) : (List.range (k + 1)).all (fun i => sizeC (bAt s i)) = true := by
 rw [List.range_succ, List.all_append, h]
 simp [hc]

theorem chartSize_ok (w : World) (s : ByteArray) (hs : s.size ≤ 9223372036854775807) : Ok Tryz.prog 107 [.string s].toArray w fun r _ => r = .bool (sizeB' s) := by
 refine ok_enter Tryz.func107 rfl Tryz.ntmps107 rfl ?_
 (refine gV ?_; refine gM ?_; refine gO ?_; refine gQ ?_; refine gV ?_; refine gM ?_; apply gw_d; exact w_len_str rfl rfl rfl; refine gM ?_; refine gO ?_; refine gB ?_)
 refine gc_loop (σ := Nat) [9, 10, 3, 11, 12, 13, 14, 15, 16, 17, 18, 19, 20, 4, 21, 22, 23, 24, 25, 26, 27, 28, 29, 30, 5, 31, 32, 33, 34, 35, 36, 2, 37, 8] (fun k => [(8, .int .i64 k)]) (fun _ => []) (fun k => k ≤ s.size ∧ (List.range k).all (fun i => sizeC (bAt s i)) = true) (fun k => s.size - k) 0 ⟨Nat.zero_le _, rfl⟩ ⟨rfl, trivial⟩ .nil ?_
 rintro k base ⟨hk, hI⟩
 focus (refine gV ?_; refine gC ?_; refine gO ?_; refine gQ ?_; refine gc_if_dec rfl (fun _ => ?_) (fun _ => ?_); refine gK ?_; refine gX ?_; refine gQ ?_; refine gB ?_; refine gV ?_; (iterate 2 refine gM ?_); refine gN ?_; (iterate 2 refine gM ?_); apply gw_d; exact w_sidx rfl rfl rfl rfl (by with_reducible exact rfl) (by omega); refine gC ?_; refine gM ?_; refine gD (fun _ => ?_) (fun _ => ?_); (iterate 2 refine gM ?_); apply gw_d; exact w_sidx rfl rfl rfl rfl (by with_reducible exact rfl) (by omega); refine gC ?_; refine gPp ?_; refine gM ?_; refine gN ?_; (iterate 2 refine gM ?_); apply gw_d; exact w_sidx rfl rfl rfl rfl (by with_reducible exact rfl) (by omega); refine gC ?_; refine gM ?_; refine gD (fun _ => ?_) (fun _ => ?_); (iterate 2 refine gM ?_); apply gw_d; exact w_sidx rfl rfl rfl rfl (by with_reducible exact rfl) (by omega); refine gC ?_; refine gPp ?_; refine gM ?_; refine gN ?_; refine gM ?_; apply gw_d; exact det_not_dec rfl rfl rfl; refine gM ?_; refine gD (fun _ => ?_) (fun _ => ?_); refine gM ?_; apply gw_d; exact det_not_dec rfl rfl rfl; refine gPp ?_; refine gO ?_; refine gc_if_dec rfl (fun _ => ?_) (fun _ => ?_); refine gV ?_; refine gM ?_; refine gO ?_; refine gR ?_; refine gY ?_; (iterate 2 refine gT ?_); refine gY ?_; refine gT ?_; rotate_left; refine gK ?_; refine gH ?_; refine gX ?_; refine gG ?_; refine gA ?_; refine gM ?_; refine gw_nil ?_; rotate_left; (iterate 2 refine gU ?_); refine gPq ?_; refine gO ?_; refine gc_if_false rfl ?_; refine gK ?_; refine gH ?_; refine gX ?_; refine gG ?_; refine gA ?_; refine gM ?_; refine gw_nil ?_; rotate_left; (iterate 4 refine gU ?_); refine gPq ?_; refine gM ?_; refine gN ?_; refine gM ?_; apply gw_d; exact det_not_dec rfl rfl rfl; refine gM ?_; refine gD (fun _ => ?_) (fun _ => ?_); refine gM ?_; apply gw_d; exact det_not_ rfl rfl rfl; refine gPp ?_; refine gO ?_; refine gc_if_true rfl ?_; refine gV ?_; refine gM ?_; refine gO ?_; refine gR ?_; refine gY ?_; (iterate 2 refine gT ?_); refine gY ?_; refine gT ?_; rotate_left; (iterate 2 refine gU ?_); refine gPq ?_; refine gO ?_; refine gc_if_false rfl ?_; refine gK ?_; refine gH ?_; refine gX ?_; refine gG ?_; refine gA ?_; refine gM ?_; refine gw_nil ?_; rotate_left; (iterate 4 refine gU ?_); refine gPq ?_; refine gM ?_; refine gN ?_; (iterate 2 refine gM ?_); apply gw_d; exact w_sidx rfl rfl rfl rfl (by with_reducible exact rfl) (by omega); refine gC ?_; refine gM ?_; refine gD (fun _ => ?_) (fun _ => ?_); (iterate 2 refine gM ?_); apply gw_d; exact w_sidx rfl rfl rfl rfl (by with_reducible exact rfl) (by omega); refine gC ?_; refine gPp ?_; refine gM ?_; refine gN ?_; refine gM ?_; apply gw_d; exact det_not_ rfl rfl rfl; (iterate 2 refine gM ?_); apply gw_d; exact det_not_dec rfl rfl rfl; refine gPp ?_; refine gO ?_; refine gc_if_dec rfl (fun _ => ?_) (fun _ => ?_); refine gV ?_; refine gM ?_; refine gO ?_; refine gR ?_; refine gY ?_; (iterate 2 refine gT ?_); refine gY ?_; refine gT ?_; rotate_left; refine gK ?_; refine gH ?_; refine gX ?_; refine gG ?_; refine gA ?_; refine gM ?_; refine gw_nil ?_; rotate_left; (iterate 4 refine gU ?_); refine gPq ?_; refine gM ?_; refine gN ?_; refine gM ?_; apply gw_d; exact det_not_ rfl rfl rfl; (iterate 2 refine gM ?_); apply gw_d; exact det_not_ rfl rfl rfl; refine gPp ?_; refine gO ?_; refine gc_if_true rfl ?_; refine gV ?_; refine gM ?_; refine gO ?_; refine gR ?_; refine gY ?_; (iterate 2 refine gT ?_); refine gY ?_; refine gT ?_; rotate_left; refine gI ?_; (iterate 2 refine gZ ?_); refine gJ ?_; refine gX ?_; refine gV ?_; refine gM ?_; apply gw_d; exact w_len_str rfl rfl rfl; refine gC ?_; refine gM ?_; refine gD (fun _ => ?_) (fun _ => ?_); refine gM ?_; apply gw_d; exact w_len_str rfl rfl rfl; refine gC ?_; refine gPp ?_; refine gM ?_; refine gO ?_; refine gR ?_; rotate_left; (iterate 3 refine gU ?_); refine gPq ?_; refine gM ?_; refine gO ?_; refine gR ?_; rotate_left)
 all_goals first
  | exact gx_round (k + 1) ⟨by omega, sizes_snoc hI (sizeC_yes (by omega))⟩ (by omega) kK ⟨rfl, trivial⟩ .nil
  | (refine gb1 (fun _ _ => ?_); rw [sizeB_no (k := k) (by omega) (sizeC_no (by omega))])
  | skip
 ·refine gb1 (fun _ _ => ?_)
  obtain rfl : k = s.size := by omega
  have h1 : 1 ≤ s.size := by omega
  unfold sizeB'
  rw [hI]
  by_cases h2 : s.size ≤ 8
  ·have h3 : (s.size : Int) ≤ 8 := by omega
   simp [h1, h2, h3]
  ·have h3 : ¬ (s.size : Int) ≤ 8 := by omega
   simp [h2, h3]
 ·refine gb1 (fun _ _ => ?_)
  have h1 : ¬ 1 ≤ s.size := by omega
  unfold sizeB'
  simp only [h1, decide_false, Bool.false_and]
theorem isIndex0_ok (w : World) (A : Option Addr) : Ok Tryz.prog 111 [.agg #[.slice A 1 1, .int .i64 0, .slice none 0 0], .int .i64 0].toArray w fun r _ => r = .bool true := by
 refine ok_enter Tryz.func111 rfl Tryz.ntmps111 rfl ?_
 (refine gV ?_; refine gw_boxd (v := .agg _) rfl rfl (fun _ => ?_); refine gM ?_; refine gN ?_; refine gM ?_; refine gC ?_; (iterate 2 refine gM ?_); refine gF ?_; refine gW .here ?_; refine gL ?_; refine gC ?_; refine gPp ?_; refine gM ?_; refine gO ?_; refine gR ?_)
 refine gb1 (fun _ _ => ?_)
 rfl
theorem chartCheck_ok (w : World) (ad : Addr) (s : ByteArray) (hs : s.size ≤ 9223372036854775807) (hb : ad.block < w.heap.size) (hc : w.cell? (ad.add 0) = some (.string s)) :
  Ok Tryz.prog 82 [.agg #[.slice (some ad) 1 1, .int .i64 0, .slice none 0 0]].toArray w fun r _ => r = .int .i64 (if sizeB' s = true then 0 else 1) := by
 refine ok_enter Tryz.func82 rfl Tryz.ntmps82 rfl ?_
 (refine gV ?_; refine gw_boxd (v := .agg _) rfl rfl (fun _ => ?_); refine gM ?_; refine gO ?_; refine gQ ?_; refine gV ?_; refine gF ?_; refine gW .here ?_; refine gL ?_; refine gC ?_; refine gM ?_; refine gF ?_; refine gW .here ?_; refine gL ?_; refine gC ?_; refine gPq ?_; refine gO ?_)
 refine gc_if_dec rfl (fun h => absurd h (by decide)) (fun _ => ?_)
 (refine gK ?_; refine gX ?_; refine gQ ?_; refine gV ?_; refine gF ?_; refine gW .here ?_; refine gL ?_; refine gC ?_; refine gO ?_)
 refine gc_if_dec rfl (fun h => absurd h (by decide)) (fun _ => ?_)
 (refine gK ?_; refine gX ?_; refine gQ ?_; refine gV ?_; refine gF ?_; refine gW .here ?_; refine gL ?_; refine gM ?_; refine gO ?_; refine gB ?_)
 refine gc_loopK (σ := Nat) [29, 30, 31, 4, 32, 33, 34, 2, 35, 28] (fun k => [(28, .int .i64 k)]) (fun k => k ≤ 1 ∧ (1 ≤ k → sizeB' s = true)) (fun k => 1 - k) 0 ⟨Nat.zero_le _, fun h => absurd h (by decide)⟩ ⟨rfl, trivial⟩ ?_
 rintro k base ⟨hk, hI⟩
 (refine gV ?_; refine gC ?_; refine gO ?_; refine gQ ?_)
 refine gc_if_dec rfl (fun h => ?_) (fun h => ?_)
 ·obtain rfl : k = 0 := by omega
  (refine gK ?_; refine gX ?_; refine gQ ?_; refine gB ?_; refine gV ?_; apply gw_d; exact w_index rfl rfl rfl rfl (by with_reducible exact rfl) (by omega); apply gw_d; exact w_load_at rfl rfl rfl (by assumption) (by assumption); refine gM ?_; refine gN ?_; refine gM ?_; apply gw_d; exact w_call rfl rfl (fun w _ => chartSize_ok w s hs) rfl; apply gw_d; exact det_not_ rfl rfl rfl; refine gO ?_)
  refine gc_if rfl (fun h => ?_) (fun h => ?_)
  ·(refine gV ?_; refine gM ?_; refine gO ?_; refine gR ?_; refine gY ?_; (iterate 2 refine gT ?_); refine gY ?_; refine gT ?_)
   refine gi1 (fun _ _ => ?_)
   simp at h
   rw [h]
   rfl
  ·(refine gK ?_; refine gH ?_; refine gX ?_; refine gG ?_; refine gA ?_; refine gM ?_; refine gw_nil ?_)
   exact gx_round 1 ⟨Nat.le_refl _, fun _ => by simpa using h⟩ (by decide) kK ⟨rfl, trivial⟩ (Sub.all _)
 ·obtain rfl : k = 1 := by omega
  have hS := hI (Nat.le_refl _)
  (refine gI ?_; (iterate 2 refine gZ ?_); refine gJ ?_; refine gX ?_; refine gQ ?_; refine gV ?_; refine gF ?_; refine gW .here ?_; refine gL ?_; refine gM ?_; refine gO ?_; refine gB ?_)
  refine gc_loopK (σ := Unit) [40, 41, 42, 6, 43, 44, 45, 46, 47, 48, 49, 50, 51, 52, 53, 54, 55, 56, 57, 58, 59, 60, 61, 62, 63, 64, 2, 65, 39] (fun _ => [(39, .int .i64 0)]) (fun _ => True) (fun _ => 0) () trivial ⟨rfl, trivial⟩ ?_
  rintro _ _ -
  (refine gV ?_; refine gC ?_; refine gO ?_; refine gQ ?_)
  refine gc_if_dec rfl (fun h => absurd h (by decide)) (fun _ => ?_)
  (refine gI ?_; (iterate 2 refine gZ ?_); refine gJ ?_; refine gX ?_; refine gQ ?_; refine gV ?_; refine gF ?_; refine gW .here ?_; refine gL ?_; refine gM ?_; refine gO ?_; refine gB ?_)
  refine gc_loopK (σ := Nat) [70, 71, 72, 73, 7, 8, 74, 75, 76, 77, 78, 79, 2, 80, 69] (fun k => [(69, .int .i64 k)]) (fun k => k ≤ 1) (fun k => 1 - k) 0 (Nat.zero_le _) ⟨rfl, trivial⟩ ?_
  rintro k base2 hk2
  (refine gV ?_; refine gC ?_; refine gO ?_; refine gQ ?_)
  refine gc_if_dec rfl (fun h => ?_) (fun h => ?_)
  ·obtain rfl : k = 0 := by omega
   (refine gK ?_; refine gX ?_; refine gQ ?_; refine gB ?_; refine gV ?_; refine gM ?_; apply gw_d; exact w_index rfl rfl rfl rfl (by with_reducible exact rfl) (by omega); apply gw_d; exact w_load_at rfl rfl rfl (by assumption) (by assumption); (iterate 2 refine gM ?_); refine gN ?_; refine gF ?_; refine gW .here ?_; refine gM ?_; apply gw_d; exact w_cut_hi rfl rfl rfl rfl (by with_reducible exact rfl) (by omega); refine gM ?_; apply gw_d; exact w_call rfl rfl (fun w _ => containsStr0_ok w _ _ _) rfl; refine gO ?_)
   refine gc_if_false rfl ?_
   (refine gK ?_; refine gH ?_; refine gX ?_; refine gG ?_; refine gA ?_; refine gM ?_; refine gw_nil ?_)
   exact gx_round 1 (Nat.le_refl _) (by decide) kK ⟨rfl, trivial⟩ (Sub.all _)
  ·obtain rfl : k = 1 := by omega
   (refine gI ?_; (iterate 2 refine gZ ?_); refine gJ ?_; refine gX ?_; refine gQ ?_; refine gV ?_; refine gF ?_; refine gW .here ?_; refine gL ?_; refine gM ?_; refine gO ?_; refine gB ?_)
   refine gc_loopK (σ := Unit) [85, 86, 87, 88, 10, 9, 89, 90, 91, 92, 93, 94, 95, 96, 2, 97, 84] (fun _ => [(84, .int .i64 0)]) (fun _ => True) (fun _ => 0) () trivial ⟨rfl, trivial⟩ ?_
   rintro _ _ -
   (refine gV ?_; refine gC ?_; refine gO ?_; refine gQ ?_)
   refine gc_if_dec rfl (fun h => absurd h (by decide)) (fun _ => ?_)
   (refine gI ?_; (iterate 2 refine gZ ?_); refine gJ ?_; refine gX ?_; refine gQ ?_; refine gV ?_; apply gw_d; exact w_load_boxN rfl rfl rfl .here rfl; refine gF ?_; refine gW .here ?_)
   (apply gw_d; exact w_call rfl rfl (fun w _ => isIndex0_ok w _) rfl; apply gw_d; exact det_not_ rfl rfl rfl; refine gO ?_)
   refine gc_if_false rfl ?_
   (refine gK ?_; refine gX ?_; refine gV ?_; refine gM ?_; refine gO ?_; refine gR ?_)
   refine gi1 (fun _ _ => ?_)
   rw [if_pos hS]
theorem styleSize_ok (w : World) (s : ByteArray) (hs : s.size ≤ 9223372036854775807) : Ok Tryz.prog 69 [.string s].toArray w fun r _ => r = .bool (sizeB' s) := by
 refine ok_enter Tryz.func69 rfl Tryz.ntmps69 rfl ?_
 (refine gV ?_; refine gM ?_; refine gN ?_; refine gM ?_)
 refine gw_bslice1 rfl rfl rfl rfl rfl (fun b => ?_)
 (apply gw_d; exact w_build (cells := #[.slice (some ⟨b, 0, none⟩) 1 1, .int .i64 0, .slice none 0 0]) rfl rfl (by kernel_rfl); apply gw_d; exact w_call rfl rfl (fun w s => chartCheck_ok w ⟨b, 0, none⟩ _ hs (s.sep.fp _ List.mem_cons_self b rfl).2 (Box.cell s.head 0)) rfl; refine gC ?_; refine gM ?_; refine gO ?_; refine gR ?_)
 refine gb1 (fun _ _ => ?_)
 rw [name_eq]
/-- The first error of f 0, f 1, .. -/
def firstE (f : Nat → Int) : Nat → Int
 | 0 => 0
 | n + 1 => if firstE f n = 0 then f n else firstE f n
theorem firstE_snoc {f : Nat → Int} {k : Nat} (h : firstE f k = 0) (hf : f k = 0) : firstE f (k + 1) = 0 := by
 show (if firstE f k = 0 then f k else firstE f k) = 0
 rw [if_pos h, hf]
theorem firstE_stop {f : Nat → Int} {k : Nat} (h : firstE f k = 0) (hf : ¬ f k = 0) : ∀ {n}, k < n → firstE f n = f k
 | 0, hn => by omega
 | n + 1, hn => by
  show (if firstE f n = 0 then f n else firstE f n) = f k
  by_cases he : n = k
  ·subst he; rw [if_pos h]
  ·have := firstE_stop h hf (n := n) (by omega)
   rw [this, if_neg hf]
theorem firstE_at {f : Nat → Int} : ∀ {n}, firstE f n = 0 → ∀ k, k < n → f k = 0
 | 0, _, k, hk => by omega
 | n + 1, h, k, hk => by
  have h' : (if firstE f n = 0 then f n else firstE f n) = 0 := h
  split at h'
  ·rename_i h0
   by_cases he : k = n
   ·rw [he]; exact h'
   ·exact firstE_at h0 k (by omega)
  ·rename_i h0; exact absurd h' h0

abbrev Edg := ByteArray × List (Int × Int)
def rEdge : Rp Edg where
 size := 2
 rep w S p cs := ∃ v, cs = [.string p.1, v] ∧ p.1.size ≤ maxLen ∧ SlS rSpot w S v p.2
 len h := by obtain ⟨v, rfl, _⟩ := h; rfl
 mono hb h := by obtain ⟨v, h0, h1, h2⟩ := h; exact ⟨v, h0, h1, h2.mono hb⟩
 grow hB h := by obtain ⟨v, h0, h1, h2⟩ := h; exact ⟨v, h0, h1, h2.grow hB⟩
def gE (l : List Edg) (k : Nat) : Edg := l.getD k (ByteArray.empty, [])
theorem gE_get {l : List Edg} {k : Nat} (hk : k < l.length) : gE l k = l[k] := by
 unfold gE
 simp [hk]
theorem Sl.edge' {w : World} {B : Nat} {v : Value} {l : List Edg} (h : Sl rEdge w B v l) (hl : 0 < l.length) : ∃ ad c, v = .slice (some ad) l.length c ∧ l.length ≤ c ∧ l.length ≤ 9223372036854775807 ∧ ad.block < B ∧
  ∀ k (_ : k < l.length), ∃ A' c', (∀ j u, [Value.string (gE l k).1, Value.slice A' (gE l k).2.length c'][j]? = some u → w.cell? (ad.add (k * 2 + j)) = some u) ∧ (gE l k).1.size ≤ 9223372036854775807 ∧
   (gE l k).2.length ≤ c' ∧ (gE l k).2.length ≤ 9223372036854775807 ∧ Sl rSpot w B (.slice A' (gE l k).2.length c') (gE l k).2 := by
 obtain ⟨A, c, hv, h1, h2, h3⟩ := h
 obtain ⟨ad, _, ha, hlt, _⟩ := h3 0 hl
 subst ha
 refine ⟨ad, c, hv, h1, by unfold maxLen at h2; omega, hlt, fun k hk => ?_⟩
 obtain ⟨ad', cs, ha, _, hc, u, rfl, hs, hsl⟩ := h3 k hk
 injection ha with ha
 subst ha
 rw [gE_get hk]
 obtain ⟨A', c', rfl, h4, h5⟩ := len_small hsl
 exact ⟨A', c', hc, by unfold maxLen at hs; omega, h4, h5, hsl⟩
theorem Sl.spots_in {w : World} {B : Nat} {v : Value} {l : List (Int × Int)} (h : Sl rSpot w B v l) : ∀ p ∈ l, inI64 p.1 ∧ inI64 p.2 := fun p hp => by
 obtain ⟨A, c, _, _, _, h3⟩ := h
 obtain ⟨k, hk, rfl⟩ := List.getElem_of_mem hp
 obtain ⟨_, _, _, _, _, hr⟩ := h3 k hk
 exact hr.2
theorem Sl.edges_in {w : World} {B : Nat} {v : Value} {l : List Edg} (h : Sl rEdge w B v l) : ∀ x ∈ l, ∃ u, Sl rSpot w B u x.2 := fun p hp => by
 obtain ⟨A, c, _, _, _, h3⟩ := h
 obtain ⟨k, hk, rfl⟩ := List.getElem_of_mem hp
 obtain ⟨_, _, _, _, _, u, _, _, hr⟩ := h3 k hk
 exact ⟨u, hr⟩

def encS (p : Int × Int) : List Value := [.int .i64 p.1, .int .i64 p.2]
theorem encS_len (l : List (Int × Int)) : (l.flatMap encS).length = l.length * 2 := by
 induction l with
 | nil => rfl
 | cons p l ih => rw [List.flatMap_cons, List.length_append, ih]; simp [encS]; omega
theorem encS_one (l : List (Int × Int)) : ∀ u ∈ l.flatMap encS, u.oneCell' = true := fun u hu => by
 rw [List.mem_flatMap] at hu
 obtain ⟨p, _, hu⟩ := hu
 simp only [encS, List.mem_cons, List.not_mem_nil, or_false] at hu
 rcases hu with rfl | rfl <;> rfl
theorem Sl.row {w : World} {B : Nat} {A : Option Addr} {n c : Nat} {l : List (Int × Int)} (h : Sl rSpot w B (.slice A n c) l) (hl : 0 < l.length) : ∃ ad, A = some ad ∧ ∀ j u, (l.flatMap encS)[j]? = some u → w.cell? (ad.add j) = some u := by
 obtain ⟨ad, c', hv, _, _, _, hcell⟩ := h.spot' hl
 injection hv with e1 e2 e3
 subst e1
 refine ⟨ad, rfl, fun j u hu => ?_⟩
 have hj : j < (l.flatMap encS).length := (List.getElem?_eq_some_iff.1 hu).1
 rw [encS_len] at hj
 have hk : j / 2 < l.length := by omega
 have h2 := flat_get (enc := encS) (sz := 2) l (fun _ _ => rfl) (j / 2) hk (j % 2) (by omega)
 rw [show j / 2 * 2 + j % 2 = j by omega, hu] at h2
 have h3 := hcell (j / 2) hk (j % 2) u (by rw [gS_get hk]; exact h2.symm)
 rwa [show j / 2 * 2 + j % 2 = j by omega] at h3

def vertsOf (l : List Edg) : List (Int × Int) := l.flatMap fun x => x.2.dropLast
theorem verts_snoc {l : List Edg} {k : Nat} (hk : k < l.length) : vertsOf (l.take (k + 1)) = vertsOf (l.take k) ++ (gE l k).2.dropLast := by
 unfold vertsOf
 rw [List.take_succ_eq_append_getElem hk, List.flatMap_append, gE_get hk]
 simp
theorem verts_le {l : List Edg} (h : ∀ x ∈ l, x.2.length ≤ 40) : (vertsOf l).length ≤ l.length * 40 := by
 induction l with
 | nil => simp [vertsOf]
 | cons x l ih =>
  have h1 := h x List.mem_cons_self
  have h2 := ih fun y hy => h y (List.mem_cons_of_mem _ hy)
  unfold vertsOf at *
  rw [List.flatMap_cons, List.length_append, List.length_dropLast, List.length_cons]
  omega
theorem verts_in {w : World} {B : Nat} {v : Value} {l : List Edg} (h : Sl rEdge w B v l) : ∀ p ∈ vertsOf l, inI64 p.1 ∧ inI64 p.2 := fun p hp => by
 unfold vertsOf at hp
 rw [List.mem_flatMap] at hp
 obtain ⟨x, hx, hp⟩ := hp
 obtain ⟨u, hu⟩ := h.edges_in x hx
 exact hu.spots_in p (List.dropLast_subset _ hp)

theorem vertices_ok (w : World) (v : Value) (l : List Edg) (hl : Sl rEdge w w.heap.size v l) (h0 : 0 < l.length) (h16 : l.length ≤ 16) (hlen : ∀ x ∈ l, 1 ≤ x.2.length ∧ x.2.length ≤ 40) :
  OkM Tryz.prog 115 [v].toArray w (fun x : Option Addr × Nat => .slice x.1 (vertsOf l).length x.2) (fun x => [Own x.1 (vertsOf l).length x.2 114 2 ((vertsOf l).flatMap encS)]) := by
 obtain ⟨ad, c, rfl, hc, hm, hb, hcell⟩ := hl.edge' h0
 unfold OkM
 refine ok_enter Tryz.func115 rfl Tryz.ntmps115 rfl ?_
 refine gc_own0 114 2 ?_
 (refine gV ?_; refine gM ?_; refine gN ?_; refine gM ?_; refine gO ?_; refine gQ ?_; refine gV ?_; refine gM ?_; refine gL ?_; refine gM ?_; refine gO ?_; refine gB ?_)
 refine gc_loop (σ := Nat × Option Addr × Nat) [9, 10, 11, 5, 12, 13, 14, 15, 16, 17, 18, 19, 20, 3, 21, 8] (fun s => [(3, .slice s.2.1 (vertsOf (l.take s.1)).length s.2.2), (8, .int .i64 s.1)]) (fun s => [Own s.2.1 (vertsOf (l.take s.1)).length s.2.2 114 2 ((vertsOf (l.take s.1)).flatMap encS)])
  (fun s => s.1 ≤ l.length) (fun s => l.length - s.1) (0, none, 0) (Nat.zero_le _) ⟨rfl, rfl, trivial⟩ (.cons .here .nil) ?_
 rintro ⟨k, A, c2⟩ base hk
 dsimp only at hk ⊢
 (refine gV ?_; refine gC ?_; refine gO ?_; refine gQ ?_)
 refine gc_if_dec rfl (fun h => ?_) (fun h => ?_)
 ·have hlt : k < l.length := by omega
  obtain ⟨A1, c1, hce, hsz, hc1, hm1, hsl⟩ := hcell k hlt
  obtain ⟨h1, h2⟩ := hlen _ (by rw [gE_get hlt]; exact List.getElem_mem hlt : gE l k ∈ l)
  have hv := verts_snoc hlt
  have hn : (vertsOf (l.take (k + 1))).length = (vertsOf (l.take k)).length + ((gE l k).2.length - 1) := by rw [hv, List.length_append, List.length_dropLast]
  have hle := verts_le (l := l.take k) (fun x hx => (hlen x (List.mem_of_mem_take hx)).2)
  rw [List.length_take] at hle
  have hlast : (gE l k).2.dropLast = (gE l k).2.take ((gE l k).2.length - 1) := List.dropLast_eq_take
  have hsl2 := hsl.take (m := (gE l k).2.length - 1) (by omega)
  (refine gK ?_; refine gX ?_; refine gQ ?_; refine gB ?_; refine gV ?_; apply gw_d; exact w_index rfl rfl rfl rfl (by with_reducible exact rfl) (by omega); apply gw_d; exact w_load_elem rfl rfl rfl (by assumption) (by assumption) (by rfl); refine w_alloc rfl (fun _ => ?_); refine w_store_all rfl rfl rfl rfl rfl .here rfl ?_; refine gO ?_; refine gG ?_; refine gM ?_; refine gF ?_; refine gW .here ?_; refine gF ?_; refine gW .here ?_; refine gL ?_; refine gA ?_; apply gw_d; exact w_cut_hi rfl rfl rfl rfl (by with_reducible exact castS (by omega)) (by omega))
  refine gw_append (news := ((gE l k).2.dropLast).flatMap encS) rfl rfl rfl (.there .here) (by rw [encS_len, List.length_dropLast]) (fun w' s hpos => ?_) (encS_one _) (by unfold maxLen; omega) (by omega) (by decide) rfl (fun A2 c3 => ?_)
  ·rw [hlast]
   exact (hsl2.later s).row (by rw [List.length_take]; omega)
  ·(refine gM ?_; refine gw_nil ?_; refine gH ?_; refine gX ?_; refine gG ?_; refine gA ?_; refine gM ?_; refine gw_nil ?_)
   exact gx_round (k + 1, A2, c3) (by dsimp only; omega) (by dsimp only; omega) kK ⟨by rw [hn]; rfl, rfl, trivial⟩ (by rw [hn, hv, List.flatMap_append]; exact .cons .here .nil)
 ·obtain rfl : k = l.length := by omega
  rw [List.take_length]
  (refine gI ?_; (iterate 2 refine gZ ?_); refine gJ ?_; refine gX ?_; refine gV ?_; (iterate 2 refine gM ?_); refine gO ?_; refine gR ?_)
  exact gx_ret1 rfl rfl fun w s => ⟨(A, c2), rfl, s.sep⟩
def eqS (p q : ByteArray) : Bool := p.toList == q.toList
def oldName (l : List Edg) (k n : Nat) : Bool := (l.take n).any fun x => eqS x.1 (gE l k).1
def edgeE (l : List Edg) (k : Nat) : Int := if nameB (gE l k).1 = true then if oldName l k k = true then 7 else plineE (gE l k).2 else 1
def gapAt (l : List Edg) (i : Nat) : Bool := decide (¬ gS (gE l i).2 ((gE l i).2.length - 1) = gS (gE l ((i + 1) % l.length)).2 0)
def gapB (l : List Edg) (n : Nat) : Bool := (List.range n).any (gapAt l)
def outlineE (l : List Edg) : Int := if 16 < l.length then 5 else if l.length < 2 then 11 else if firstE (edgeE l) l.length = 0 then if gapB l l.length = true then 11 else polyE (vertsOf l) else firstE (edgeE l) l.length

theorem old_snoc {l : List Edg} {k n : Nat} (hn : n < l.length) (h : oldName l k n = false) (hp : eqS (gE l n).1 (gE l k).1 = false) : oldName l k (n + 1) = false := by
 unfold oldName at *
 rw [List.take_succ_eq_append_getElem hn, List.any_append, h]
 rw [gE_get hn] at hp
 simp [hp]
theorem old_yes {l : List Edg} {k n m : Nat} (hn : n < l.length) (hm : n < m) (hp : eqS (gE l n).1 (gE l k).1 = true) : oldName l k m = true := by
 unfold oldName
 rw [List.any_eq_true]
 refine ⟨gE l n, ?_, hp⟩
 rw [gE_get hn, List.mem_take_iff_getElem]
 exact ⟨n, by omega, rfl⟩
theorem pline_len {l : List (Int × Int)} (h : plineE l = 0) : 2 ≤ l.length ∧ l.length ≤ 40 := by
 unfold plineE at h
 split at h
 ·cases h
 ·split at h
  ·cases h
  ·omega
theorem edge_pline {l : List Edg} {k : Nat} (h : edgeE l k = 0) : plineE (gE l k).2 = 0 := by
 unfold edgeE at h
 split at h
 ·split at h
  ·cases h
  ·exact h
 ·cases h

theorem outline_ok (w : World) (v : Value) (l : List Edg) (hl : Sl rEdge w w.heap.size v l) : Ok Tryz.prog 85 [v].toArray w fun r _ => r = .int .i64 (outlineE l) := by
 by_cases hlen : 2 ≤ l.length
 ·obtain ⟨ad, c, rfl, hc, hm, hb, hcell⟩ := hl.edge' (by omega)
  have h2 : ¬ l.length < 2 := by omega
  refine ok_enter Tryz.func85 rfl Tryz.ntmps85 rfl ?_
  (refine gV ?_; refine gM ?_; refine gO ?_; refine gQ ?_; refine gV ?_; refine gM ?_; refine gL ?_; refine gC ?_; refine gO ?_)
  refine gc_if_dec rfl (fun h => ?_) (fun h => ?_)
  ·(refine gV ?_; refine gM ?_; refine gO ?_; refine gR ?_; refine gT ?_)
   refine gi1 (fun _ _ => ?_)
   have : 16 < l.length := by omega
   simp [outlineE, this]
  have h16 : ¬ 16 < l.length := by omega
  (refine gK ?_; refine gX ?_; refine gQ ?_; refine gV ?_; refine gM ?_; refine gL ?_; refine gC ?_; refine gO ?_)
  refine gc_if_dec rfl (fun h => by omega) (fun _ => ?_)
  (refine gK ?_; refine gX ?_; refine gQ ?_; refine gV ?_; refine gM ?_; refine gL ?_; refine gM ?_; refine gO ?_; refine gB ?_)
  refine gc_loop (σ := Nat) [20, 21, 22, 23, 4, 3, 24, 25, 26, 27, 2, 28, 29, 30, 31, 32, 33, 34, 35, 6, 36, 37, 38, 39, 40, 41, 42, 43, 44, 7, 45, 46, 47, 48, 19] (fun k => [(19, .int .i64 k)]) (fun _ => []) (fun k => k ≤ l.length ∧ firstE (edgeE l) k = 0) (fun k => l.length - k) 0 ⟨Nat.zero_le _, rfl⟩ ⟨rfl, trivial⟩ .nil ?_
  rintro k base ⟨hk, hI⟩
  (refine gV ?_; refine gC ?_; refine gO ?_; refine gQ ?_)
  refine gc_if_dec rfl (fun h => ?_) (fun h => ?_)
  ·have hlt : k < l.length := by omega
   obtain ⟨A1, c1, hce, hsz, hc1, hm1, hsl⟩ := hcell k hlt
   have hstop : ¬ edgeE l k = 0 → outlineE l = edgeE l k := fun hne => by
    have h3 := firstE_stop hI hne hlt
    unfold outlineE
    rw [if_neg h16, if_neg h2, h3, if_neg hne]
   (refine gK ?_; refine gX ?_; refine gQ ?_; refine gB ?_; refine gV ?_; refine gM ?_; apply gw_d; exact w_index rfl rfl rfl rfl (by with_reducible exact rfl) (by omega); apply gw_d; exact w_load_elem rfl rfl rfl (by assumption) (by assumption) (by rfl); refine w_alloc rfl (fun _ => ?_); refine gM ?_; refine w_store_all rfl rfl rfl rfl rfl .here rfl ?_; refine gO ?_; refine gQ ?_; refine gV ?_; refine gF ?_; refine gW .here ?_; apply gw_d; exact w_call rfl rfl (fun w s => outlineName_ok w _ hsz) rfl; apply gw_d; exact det_not_ rfl rfl rfl; refine gO ?_)
   refine gc_if rfl (fun h3 => ?_) (fun h3 => ?_)
   ·(refine gV ?_; refine gM ?_; refine gO ?_; refine gR ?_; refine gT ?_; refine gY ?_; (iterate 2 refine gT ?_); refine gY ?_; refine gT ?_)
    refine gi1 (fun _ _ => ?_)
    have : edgeE l k = 1 := by unfold edgeE; rw [if_neg (by simpa using h3)]
    rw [hstop (by rw [this]; decide), this]
   have hname : nameB (gE l k).1 = true := by simpa using h3
   (refine gK ?_; refine gX ?_; refine gQ ?_; refine gV ?_; (iterate 2 refine gM ?_); apply gw_d; exact w_cut_hi rfl rfl rfl rfl (by with_reducible exact rfl) (by omega); refine gL ?_; refine gM ?_; refine gO ?_; refine gB ?_)
   refine gc_loopK (σ := Nat) [33, 34, 35, 6, 36, 37, 38, 39, 40, 2, 41, 32] (fun j => [(32, .int .i64 j)]) (fun j => j ≤ k ∧ oldName l k j = false) (fun j => k - j) 0 ⟨Nat.zero_le _, rfl⟩ ⟨rfl, trivial⟩ ?_
   rintro j base2 ⟨hj, hJ⟩
   (refine gV ?_; refine gC ?_; refine gO ?_; refine gQ ?_)
   refine gc_if_dec rfl (fun h4 => ?_) (fun h4 => ?_)
   ·have hjl : j < l.length := by omega
    obtain ⟨A2, c2, hce2, _, _, _, _⟩ := hcell j hjl
    (refine gK ?_; refine gX ?_; refine gQ ?_; refine gB ?_; refine gV ?_; apply gw_d; exact w_index rfl rfl rfl rfl (by with_reducible exact rfl) (by omega); apply gw_d; exact w_load_elem rfl rfl rfl (by assumption) (by assumption) (by rfl); refine w_alloc rfl (fun _ => ?_); refine w_store_all rfl rfl rfl rfl rfl .here rfl ?_; refine gN ?_; refine gF ?_; refine gW .here ?_; refine gF ?_; refine gW (.there .here) ?_; apply gw_d; exact det_seq rfl rfl rfl rfl; refine gO ?_)
    refine gc_if rfl (fun h5 => ?_) (fun h5 => ?_)
    ·(refine gV ?_; refine gM ?_; refine gO ?_; refine gR ?_; refine gY ?_; (iterate 2 refine gT ?_); refine gY ?_; refine gT ?_; refine gY ?_; (iterate 2 refine gT ?_); refine gY ?_; refine gT ?_)
     refine gi1 (fun _ _ => ?_)
     have hold : oldName l k k = true := old_yes hjl (by omega) h5
     have : edgeE l k = 7 := by unfold edgeE; rw [if_pos hname, if_pos hold]
     rw [hstop (by rw [this]; decide), this]
    ·(refine gK ?_; refine gH ?_; refine gX ?_; refine gG ?_; refine gA ?_; refine gM ?_; refine gw_nil ?_)
     exact gx_round (j + 1) ⟨by omega, old_snoc hjl hJ h5⟩ (by omega) kK ⟨rfl, trivial⟩ Sub.tail
   ·obtain rfl : j = k := by omega
    have he : edgeE l j = plineE (gE l j).2 := by unfold edgeE; rw [if_pos hname, if_neg (by simpa using hJ)]
    (refine gI ?_; (iterate 2 refine gZ ?_); refine gJ ?_; refine gX ?_; refine gV ?_; refine gF ?_; refine gW .here ?_; apply gw_d; exact w_call rfl rfl (fun w s => polyline_ok w _ _ (hsl.later s)) rfl; refine gM ?_; refine gN ?_; refine gM ?_; refine gC ?_; refine gO ?_)
    refine gc_if_dec rfl (fun h5 => ?_) (fun h5 => ?_)
    ·(refine gV ?_; (iterate 2 refine gM ?_); refine gO ?_; refine gR ?_; refine gY ?_; (iterate 2 refine gT ?_); refine gY ?_; refine gT ?_)
     refine gi1 (fun _ _ => ?_)
     rw [hstop (by rw [he]; exact h5), he]
    ·(refine gK ?_; refine gH ?_; refine gX ?_; refine gG ?_; refine gA ?_; refine gM ?_; refine gw_nil ?_)
     exact gx_round (j + 1) ⟨by omega, firstE_snoc hI (by rw [he]; simpa using h5)⟩ (by omega) kK ⟨rfl, trivial⟩ .nil
  ·obtain rfl : k = l.length := by omega
   have hall : ∀ i, i < l.length → 2 ≤ (gE l i).2.length ∧ (gE l i).2.length ≤ 40 := fun i hi => pline_len (edge_pline (firstE_at hI i hi))
   (refine gI ?_; (iterate 2 refine gZ ?_); refine gJ ?_; refine gX ?_; refine gQ ?_; refine gV ?_; refine gM ?_; refine gL ?_; refine gM ?_; refine gO ?_; refine gB ?_)
   refine gc_loop (σ := Nat) [52, 53, 54, 55, 9, 8, 56, 57, 58, 59, 60, 61, 62, 63, 10, 64, 65, 66, 67, 68, 69, 70, 71, 72, 73, 74, 75, 76, 2, 77, 51] (fun k => [(51, .int .i64 k)]) (fun _ => []) (fun k => k ≤ l.length ∧ gapB l k = false) (fun k => l.length - k) 0 ⟨Nat.zero_le _, rfl⟩ ⟨rfl, trivial⟩ .nil ?_
   rintro i base2 ⟨hi, hJ⟩
   (refine gV ?_; refine gC ?_; refine gO ?_; refine gQ ?_)
   refine gc_if_dec rfl (fun h => ?_) (fun h => ?_)
   ·have hlt : i < l.length := by omega
    have hp1 : (i + 1) % l.length < l.length := Nat.mod_lt _ (by omega)
    obtain ⟨A1, c1, hce1, _, hc1, hm1, hsl1⟩ := hcell i hlt
    obtain ⟨A2, c2, hce2, _, hc2, hm2, hsl2⟩ := hcell _ hp1
    have hn1 := hall i hlt
    have hn2 := hall _ hp1
    obtain ⟨a1, c1', hv1, _, _, hb1, hs1⟩ := hsl1.spot' (by omega)
    obtain ⟨a2, c2', hv2, _, _, hb2, hs2⟩ := hsl2.spot' (by omega)
    injection hv1 with e1 e2 e3
    injection hv2 with e4 e5 e6
    subst e1 e3 e4 e6
    have hcs1 := hs1 ((gE l i).2.length - 1) (by omega)
    have hcs2 := hs2 0 (by omega)
    (refine gK ?_; refine gX ?_; refine gQ ?_; refine gB ?_; refine gV ?_; refine gM ?_; apply gw_d; exact w_index rfl rfl rfl rfl (by with_reducible exact rfl) (by omega); apply gw_d; exact w_load_elem rfl rfl rfl (by assumption) (by assumption) (by rfl); refine w_alloc rfl (fun _ => ?_); refine gM ?_; refine w_store_all rfl rfl rfl rfl rfl .here rfl ?_; refine gN ?_; (iterate 2 refine gM ?_); refine gA ?_; refine gM ?_; refine gL ?_; apply gw_d; exact det_rem rfl rfl rfl rfl (by omega) (by omega); apply gw_d; exact w_index rfl rfl rfl rfl (by with_reducible exact castM _ _) (by omega); apply gw_d; exact w_load_elem rfl rfl rfl (by assumption) (by assumption) (by rfl); refine w_alloc rfl (fun _ => ?_); refine w_store_all rfl rfl rfl rfl rfl .here rfl ?_; refine gO ?_; refine gQ ?_)
    refine gc_draw 13 (by kernel_rfl) (by kernel_rfl) ?_
    (apply gd_d; exact w_field rfl rfl rfl; apply gd_d; exact w_load_box rfl rfl rfl (.there .here) rfl; apply gd_d; exact w_field rfl rfl rfl; apply gd_d; exact w_load_box rfl rfl rfl (.there .here) rfl; apply gd_d; exact w_len rfl rfl rfl; apply gd_d; exact det_ar rfl rfl rfl rfl rfl (by omega); apply gd_d; exact w_index rfl rfl rfl rfl (by with_reducible exact castS (by omega)) (by omega); apply gd_d; exact w_load_elem rfl rfl rfl (by assumption) (by assumption) (by rfl); apply gd_d; exact w_field rfl rfl rfl; apply gd_d; exact w_load_box rfl rfl rfl .here rfl; apply gd_d; exact w_index rfl rfl rfl rfl (by with_reducible exact cast0) (by omega); apply gd_d; exact w_load_elem rfl rfl rfl (by assumption) (by assumption) (by rfl); apply gd_d; exact w_ne2 rfl rfl rfl rfl; refine gd_nil ?_; refine gO ?_)
    refine gc_if_dec rfl (fun h5 => ?_) (fun h5 => ?_)
    ·(refine gV ?_; refine gM ?_; refine gO ?_; refine gR ?_; refine gY ?_; (iterate 2 refine gT ?_); refine gY ?_; refine gT ?_)
     refine gi1 (fun _ _ => ?_)
     have : gapB l l.length = true := range_any_no hlt (by unfold gapAt; exact decide_eq_true h5)
     unfold outlineE
     rw [if_neg h16, if_neg h2, if_pos hI, if_pos this]
    ·(refine gK ?_; refine gH ?_; refine gX ?_; refine gG ?_; refine gA ?_; refine gM ?_; refine gw_nil ?_)
     exact gx_round (i + 1) ⟨by omega, range_any_snoc hJ (by unfold gapAt; exact decide_eq_false h5)⟩ (by omega) kK ⟨rfl, trivial⟩ .nil
   ·obtain rfl : i = l.length := by omega
    have hpoly : outlineE l = polyE (vertsOf l) := by
     unfold outlineE
     rw [if_neg h16, if_neg h2, if_pos hI, if_neg (by rw [hJ]; decide)]
    (refine gI ?_; (iterate 2 refine gZ ?_); refine gJ ?_; refine gX ?_; refine gV ?_; refine gM ?_)
    refine gw_callm rfl (fun w s => vertices_ok w _ l (hl.later s) (by omega) (by omega) (fun x hx => ?_)) rfl (fun x => ?_)
    ·obtain ⟨i, hi, rfl⟩ := List.getElem_of_mem hx
     have := hall i hi
     rw [gE_get hi] at this
     omega
    ·(apply gw_d; exact w_call rfl rfl (fun w s => polygon_ok w _ (vertsOf l) (Sl.own (enc := encS) s .here rfl (fun p hp => ⟨rfl, verts_in hl p hp⟩))) rfl; refine gM ?_; refine gO ?_; refine gR ?_)
     refine gi1 (fun _ _ => ?_)
     rw [hpoly]
 ·obtain ⟨A, c, rfl, hc, hm⟩ := len_small hl
  refine ok_enter Tryz.func85 rfl Tryz.ntmps85 rfl ?_
  (refine gV ?_; refine gM ?_; refine gO ?_; refine gQ ?_; refine gV ?_; refine gM ?_; refine gL ?_; refine gC ?_; refine gO ?_)
  refine gc_if_dec rfl (fun h => by omega) (fun h => ?_)
  (refine gK ?_; refine gX ?_; refine gQ ?_; refine gV ?_; refine gM ?_; refine gL ?_; refine gC ?_; refine gO ?_)
  refine gc_if_dec rfl (fun h => ?_) (fun h => by omega)
  (refine gV ?_; refine gM ?_; refine gO ?_; refine gR ?_; refine gT ?_)
  refine gi1 (fun _ _ => ?_)
  have h1 : ¬ 16 < l.length := by omega
  have h2 : l.length < 2 := by omega
  simp [outlineE, h1, h2]
theorem within_ok (w : World) (n b : Int) (hb : 0 ≤ b ∧ b ≤ 100000) : Ok Tryz.prog 84 [.int .i64 n, .int .i64 b].toArray w fun r _ => r = .bool (decide (-b ≤ n ∧ n ≤ b)) := by
 refine ok_enter Tryz.func84 rfl Tryz.ntmps84 rfl ?_
 focus (refine gV ?_; refine gM ?_; refine gN ?_; refine gM ?_; apply gw_d; exact det_neg rfl rfl rfl (wrap_in (by omega)); refine gM ?_; refine gC ?_; refine gM ?_; refine gD (fun _ => ?_) (fun _ => ?_); (iterate 2 refine gM ?_); refine gC ?_; refine gPp ?_; refine gM ?_; refine gO ?_; refine gR ?_; rotate_left; (iterate 3 refine gU ?_); refine gPq ?_; refine gM ?_; refine gO ?_; refine gR ?_; rotate_left)
 all_goals (refine gb1 (fun _ _ => ?_); congr 1; symm; first | (apply decide_eq_true; omega) | (apply decide_eq_false; omega) | (congr 1; apply propext; constructor <;> omega))
theorem rounded0_ok (w : World) (a b : Int) (ha : a = 0) (hb : 1 ≤ b ∧ b ≤ 1000) : Ok Tryz.prog 116 [.int .i64 a, .int .i64 b].toArray w fun r _ => r = .int .i64 0 := by
 subst ha
 refine ok_enter Tryz.func116 rfl Tryz.ntmps116 rfl ?_
 (refine gV ?_; refine gM ?_; refine gO ?_; refine gQ ?_; refine gV ?_; refine gM ?_; refine gC ?_; refine gO ?_)
 refine gc_if_dec rfl (fun h => absurd h (by decide)) (fun _ => ?_)
 (refine gK ?_; refine gX ?_; refine gV ?_; refine gM ?_; refine gA ?_; refine gM ?_; refine gA ?_; refine gM ?_; refine gA ?_; apply gw_d; exact det_quo rfl rfl rfl rfl (by omega) (by omega) (by omega); refine gM ?_; refine gO ?_; refine gR ?_)
 refine gi1 (fun _ _ => ?_)
 rw [Int.ediv_eq_zero_of_lt (by omega) (by omega)]
theorem corner0_ok (w : World) (A : Option Addr) (c : Nat) (l : List (Int × Int)) (i : Int) (hl : Sl rSpot w w.heap.size (.slice A l.length c) l) (h0 : 0 < l.length) (hi : 0 ≤ i ∧ i ≤ 1000) :
  Ok Tryz.prog 86 [.agg #[.slice A l.length c, .int .i64 0], .int .i64 i].toArray w fun r _ => r = .agg #[.int .i64 0, .int .i64 0] := by
 obtain ⟨ad, c', hv, hc, hm, hb, hcell⟩ := hl.spot' h0
 injection hv with e1 e2 e3
 subst e1 e3
 obtain ⟨i, rfl⟩ : ∃ j : Nat, i = j := ⟨i.toNat, by omega⟩
 have hp : i % l.length < l.length := Nat.mod_lt _ h0
 have hce := hcell _ hp
 refine ok_enter Tryz.func86 rfl Tryz.ntmps86 rfl ?_
 (refine gV ?_; refine gw_boxd (v := .agg _) rfl rfl (fun _ => ?_); refine w_alloc rfl (fun _ => ?_); refine gO ?_; refine gQ ?_)
 refine gc_block_draw Nat 10 (fun i => ([[], [0], [], [], [3], [3, 4], [2, 3, 4, 5], [0, 1, 2, 3, 4, 5, 6], [0, 1, 2, 3, 4, 5, 6, 7], []] : List (List Nat)).getD i []) rfl (by kernel_rfl) ?_
 (apply gb_d; (intro γ; exact w_field rfl rfl rfl); (intros; rfl); (intros; rfl); apply gb_d; (intro γ; exact w_load_box rfl rfl rfl (.there .here) rfl); (intros; rfl); (intros; rfl); apply gb_d; (intro γ; exact det_m rfl rfl (by conv => (lhs; whnf))); (intros; rfl); (intros; rfl); apply gb_d; (intro γ; exact w_field rfl rfl rfl); (intros; rfl); (intros; rfl); apply gb_d; (intro γ; exact w_load_box rfl rfl rfl (.there .here) rfl); (intros; rfl); (intros; rfl); apply gb_d; (intro γ; exact w_len rfl rfl rfl); (intros; rfl); (intros; rfl); apply gb_d; (intro γ; exact det_rem rfl rfl rfl rfl (by omega) (by omega)); (intros; rfl); (intros; rfl); apply gb_d; (intro γ; exact w_index rfl rfl rfl rfl (by with_reducible exact castR _ _) (by omega)); (intros; rfl); (intros; rfl); apply gb_d; (intro γ; exact w_load_elem rfl rfl rfl (by assumption) (by assumption) (by rfl)); (intros; rfl); (intros; rfl))
 refine gb_alloc id id (fun _ => rfl) (fun _ => rfl) ?_
 refine GB.nil (fun β => ?_)
 (refine w_store_all rfl rfl rfl rfl rfl .here rfl ?_; refine gN ?_; refine gF ?_; refine gW (.there (.there .here)) ?_; refine gF ?_; refine gW .here ?_; refine gA ?_; refine gF ?_; refine gW (.there (.there .here)) ?_; refine gF ?_; refine gW .here ?_; refine gA ?_; apply gw_d; exact w_build (cells := #[.int .i64 (0 * (gS l (i % l.length)).1), .int .i64 (0 * (gS l (i % l.length)).2)]) rfl rfl (by rfl); refine w_store_all rfl rfl rfl rfl rfl (.there .here) rfl ?_; refine gO ?_; refine gR ?_)
 refine gx_retc rfl rfl .here rfl fun w s => ?_
 simp

def rowS (l : List (Int × Int)) (k : Nat) : Array Value := ((l.take k).flatMap encS ++ List.replicate ((l.length - k) * 2) (Value.int .i64 0)).toArray
theorem rowS_zero (l : List (Int × Int)) : madeCells (Value.agg #[Value.int .i64 0, Value.int .i64 0]).cells (l.length * 2) = rowS l 0 := by
 unfold madeCells rowS
 apply Array.ext'
 simp only [List.take_zero, List.flatMap_nil, List.nil_append, Nat.sub_zero]
 apply List.ext_getElem
 ·simp
 ·intro i h1 h2
  simp only [Array.toList_map, Array.toList_range, List.getElem_map, List.getElem_range, List.getElem_replicate]
  show (#[Value.int .i64 0, Value.int .i64 0])[i % 2]! = _
  have : i % 2 = 0 ∨ i % 2 = 1 := by omega
  rcases this with h | h <;> rw [h] <;> rfl
theorem rowS_size (l : List (Int × Int)) {k : Nat} (hk : k ≤ l.length) : (rowS l k).size = l.length * 2 := by
 unfold rowS
 simp only [List.size_toArray, List.length_append, encS_len, List.length_take, List.length_replicate]
 omega
theorem rowS_set {l : List (Int × Int)} {k : Nat} (hk : k < l.length) {x y : Int} (hx : x = (gS l k).1) (hy : y = (gS l k).2) :
  ((rowS l k).toList.take (k * 2) ++ [Value.int .i64 x, Value.int .i64 y] ++ (rowS l k).toList.drop (k * 2 + 2)).toArray = rowS l (k + 1) := by
 subst hx hy
 have hF : ((l.take k).flatMap encS).length = k * 2 := by rw [encS_len, List.length_take]; omega
 unfold rowS
 simp only
 rw [List.take_left' hF, List.drop_append, hF, List.drop_eq_nil_of_le (by rw [hF]; omega), List.nil_append, List.drop_replicate, List.take_succ_eq_append_getElem hk, List.flatMap_append]
 congr 1
 rw [gS_get hk]
 have : (l.length - k) * 2 - (k * 2 + 2 - k * 2) = (l.length - (k + 1)) * 2 := by omega
 rw [this]
 simp [encS]
theorem rowS_all (l : List (Int × Int)) : rowS l l.length = (l.flatMap encS).toArray := by
 unfold rowS
 simp

theorem moved0_ok (w : World) (A : Option Addr) (c : Nat) (l : List (Int × Int)) (hl : Sl rSpot w w.heap.size (.slice A l.length c) l) (h2 : 2 ≤ l.length) (h40 : l.length ≤ 40) :
  OkM Tryz.prog 87 [.slice A l.length c, .agg #[.int .i64 0, .int .i64 0], .agg #[.int .i64 0, .int .i64 0]].toArray w (fun b => .slice (some ⟨b, 0, none⟩) l.length l.length) (fun b => [Box b 114 (l.flatMap encS).toArray]) := by
 obtain ⟨ad, c', hv, hc, hm, hb, hcell⟩ := hl.spot' (by omega)
 injection hv with e1 e2 e3
 subst e1 e3
 unfold OkM
 refine ok_enter Tryz.func87 rfl Tryz.ntmps87 rfl ?_
 (refine gV ?_; refine gw_boxd (v := .agg _) rfl rfl (fun _ => ?_); refine gw_boxd (v := .agg _) rfl rfl (fun _ => ?_); refine gM ?_; refine gN ?_; refine gM ?_; refine gL ?_; refine gA ?_; refine gM ?_; refine gN ?_; refine gM ?_; refine gL ?_)
 rename_i ba bb
 refine gw_makeN (n := l.length) rfl rfl rfl rfl rfl (by omega) (by omega) (fun b => ?_)
 rw [rowS_zero]
 (refine gM ?_; refine gO ?_; refine gQ ?_; refine gV ?_; refine gM ?_; refine gL ?_; refine gM ?_; refine gO ?_; refine gB ?_)
 refine gc_loop (σ := Nat) [20, 21, 22, 23, 10, 9, 24, 25, 26, 27, 28, 29, 30, 31, 32, 33, 34, 35, 36, 37, 38, 39, 40, 41, 42, 43, 44, 45, 46, 47, 48, 49, 50, 51, 52, 53, 54, 55, 56, 57, 58, 59, 60, 19] (fun k => [(19, .int .i64 k)]) (fun k => [Box b 114 (rowS l k), Box bb 114 #[.int .i64 0, .int .i64 0], Box ba 114 #[.int .i64 0, .int .i64 0]]) (fun k => k ≤ l.length) (fun k => l.length - k) 0 (Nat.zero_le _) ⟨rfl, trivial⟩ (.cons .here (.cons .here (.cons .here .nil))) ?_
 rintro k base hk
 (refine gV ?_; refine gC ?_; refine gO ?_; refine gQ ?_)
 refine gc_if_dec rfl (fun h => ?_) (fun h => ?_)
 ·have hlt : k < l.length := by omega
  have hce := hcell k hlt
  have hin := hl.spots_in (gS l k) (by rw [gS_get hlt]; exact List.getElem_mem hlt)
  unfold inI64 at hin
  (refine gK ?_; refine gX ?_; refine gQ ?_; refine gB ?_; refine gV ?_; refine gM ?_; apply gw_d; exact w_index rfl rfl rfl rfl (by with_reducible exact rfl) (by omega); apply gw_d; exact w_load_elem rfl rfl rfl (by assumption) (by assumption) (by rfl); refine w_alloc rfl (fun _ => ?_); refine gM ?_; refine w_store_all rfl rfl rfl rfl rfl .here rfl ?_; refine gO ?_)
  refine gc_draw 35 (by kernel_rfl) (by kernel_rfl) ?_
  ((iterate 2 refine dM ?_); apply gd_d; exact w_field rfl rfl rfl; apply gd_d; exact w_load_box rfl rfl rfl .here rfl; (iterate 2 refine dM ?_); apply gd_d; exact det_ar rfl rfl rfl rfl rfl (by omega); apply gd_d; exact w_field rfl rfl rfl; apply gd_d; exact w_load_box rfl rfl rfl (.there (.there (.there .here))) rfl; apply gd_d; exact det_ar rfl rfl rfl rfl rfl (by omega); refine dM ?_; apply gd_d; exact w_field rfl rfl rfl; apply gd_d; exact w_load_box rfl rfl rfl (.there (.there .here)) rfl; apply gd_d; exact det_ar rfl rfl rfl rfl rfl (by omega); apply gd_d; exact det_ar rfl rfl rfl rfl rfl (by omega); refine dM ?_; apply gd_d; exact w_call rfl rfl (fun w s => rounded0_ok w _ _ (by omega) (by omega)) rfl; apply gd_d; exact det_ar rfl rfl rfl rfl rfl (by omega); apply gd_d; exact w_field rfl rfl rfl; apply gd_d; exact w_load_box rfl rfl rfl .here rfl; (iterate 2 refine dM ?_); apply gd_d; exact det_ar rfl rfl rfl rfl rfl (by omega); apply gd_d; exact w_field rfl rfl rfl; apply gd_d; exact w_load_box rfl rfl rfl (.there (.there (.there .here))) rfl; apply gd_d; exact det_ar rfl rfl rfl rfl rfl (by omega); refine dM ?_; apply gd_d; exact w_field rfl rfl rfl; apply gd_d; exact w_load_box rfl rfl rfl (.there (.there .here)) rfl; apply gd_d; exact det_ar rfl rfl rfl rfl rfl (by omega); apply gd_d; exact det_ar rfl rfl rfl rfl rfl (by omega); refine dM ?_; apply gd_d; exact w_call rfl rfl (fun w s => rounded0_ok w _ _ (by omega) (by omega)) rfl; apply gd_d; exact det_ar rfl rfl rfl rfl rfl (by omega); apply gd_d; exact w_build (cells := #[.int .i64 ((gS l k).1 + 0), .int .i64 ((gS l k).2 + 0)]) rfl rfl (by rfl); refine gd_nil ?_; apply gw_d; exact w_index rfl rfl rfl rfl (by with_reducible exact rfl) (by omega))
  refine w_store_row (n := 2) (v := .agg #[.int .i64 ((gS l k).1 + 0), .int .i64 ((gS l k).2 + 0)]) rfl rfl rfl rfl rfl (.there .here) (by rw [rowS_size l hk]; omega) (rowS_set hlt (by omega) (by omega)) ?_
  (refine gw_nil ?_; refine gH ?_; refine gX ?_; refine gG ?_; refine gA ?_; refine gM ?_; refine gw_nil ?_)
  exact gx_round (k + 1) hlt (by omega) kK ⟨rfl, trivial⟩ (.cons .here (.cons (.there .here) (.cons (.there .here) .nil)))
 ·obtain rfl : k = l.length := by omega
  rw [rowS_all]
  (refine gI ?_; (iterate 2 refine gZ ?_); refine gJ ?_; refine gX ?_; refine gV ?_; (iterate 2 refine gM ?_); refine gO ?_; refine gR ?_)
  exact gx_ret1 rfl rfl fun w s => ⟨b, rfl, (s.sub (.cons .here .nil)).sep⟩
def linesP (ls : List (List (Int × Int))) (bs : List Nat) (w : World) : Prop :=
 bs.length = ls.length ∧ ∀ (i b : Nat) (l : List (Int × Int)), bs[i]? = some b → ls[i]? = some l → w.heap[b]? = some (Obj.cells (l.flatMap encS).toArray 114 (0, 0))
def LinesR (ls : List (List (Int × Int))) (bs : List Nat) : Res :=
 ⟨fun x => x ∈ bs, linesP ls bs, fun _ _ h ⟨h1, h2⟩ => ⟨h1, fun i b l hb hl => (h b (List.mem_of_getElem? hb)).trans (h2 i b l hb hl)⟩⟩
theorem gc_lines0 {P : Program} {Q : Exit → Act → World → Prop} {N : Nat} {w0 : World} {L : List Res} {e : Env} {c : Code} (k : GC P Q N w0 (LinesR [] [] :: L) c e) : GC P Q N w0 L c e := ⟨fun w s =>
 k.h w (s.add (Ext.refl w) ⟨rfl, fun i b l hb => by simp at hb⟩ fun b hb => by cases hb)⟩
theorem LinesR.snoc {ls : List (List (Int × Int))} {bs : List Nat} {l : List (Int × Int)} {b : Nat} {L : List Res} : Ent (Box b 114 (l.flatMap encS).toArray :: LinesR ls bs :: L) (LinesR (ls ++ [l]) (bs ++ [b]) :: L) := fun w0 w s => by
 have h1 : w.heap[b]? = some (.cells (l.flatMap encS).toArray 114 (0, 0)) := s.head
 obtain ⟨h2, h3⟩ := s.drop.head
 refine s.merge (fun x hx => ?_) ⟨by simp [h2], fun i b' l' hb' hl' => ?_⟩
 ·rcases List.mem_append.1 hx with h | h
  ·exact .inr h
  ·exact .inl (List.mem_singleton.1 h)
 ·rcases Nat.lt_or_ge i bs.length with hi | hi
  ·rw [List.getElem?_append_left hi] at hb'
   rw [List.getElem?_append_left (by omega)] at hl'
   exact h3 i b' l' hb' hl'
  ·rw [List.getElem?_append_right hi] at hb'
   rw [List.getElem?_append_right (by omega), ← h2] at hl'
   cases hk : i - bs.length with
   | zero =>
    rw [hk] at hb' hl'
    simp at hb' hl'
    subst hb' hl'
    exact h1
   | succ m => rw [hk] at hb'; simp at hb'

def encE (p : Edg × Nat) : List Value := [.string p.1.1, .slice (some ⟨p.2, 0, none⟩) p.1.2.length p.1.2.length]
def rowE (l : List Edg) (bs : List Nat) : List Value := (l.zip bs).flatMap encE
theorem rowE_snoc {l : List Edg} {bs : List Nat} {x : Edg} {b : Nat} (h : l.length = bs.length) : rowE (l ++ [x]) (bs ++ [b]) = rowE l bs ++ encE (x, b) := by
 unfold rowE
 rw [List.zip_append h, List.flatMap_append]
 simp

theorem deep_edges {A : Option Addr} {n c : Nat} {l : List Edg} {bs : List Nat} {L : List Res} (hn : n = l.length) (hin : ∀ x ∈ l, x.1.size ≤ maxLen ∧ x.2.length ≤ 40 ∧ ∀ p ∈ x.2, inI64 p.1 ∧ inI64 p.2) :
  Ent (Own A n c 116 2 (rowE l bs) :: LinesR (l.map (·.2)) bs :: L) (Deep (fun x => (Value.slice A n c).ownBlock = some x ∨ x ∈ bs) rEdge (.slice A n c) l :: L) := fun w0 w s => by
 have hown : w.ownsRow 0 116 2 (.slice A n c) n (rowE l bs) := s.head
 obtain ⟨h2, h3⟩ := s.drop.head
 rw [List.length_map] at h2
 refine s.merge (fun x hx => hx) ?_
 subst hn
 change SlS rEdge w (fun x => (Value.slice A l.length c).ownBlock = some x ∨ x ∈ bs) (.slice A l.length c) l
 rcases hown.2 with ⟨hv, h0⟩ | ⟨g, cap, cur, hv, _, hg, h1, h2', _⟩
 ·injection hv with e1 e2 e3
  subst e1 e3
  exact ⟨none, 0, rfl, by omega, Nat.zero_le _, fun k hk => by omega⟩
 ·injection hv with e1 e2 e3
  subst e1 e3
  refine ⟨_, _, rfl, h1, h2', fun k hk => ?_⟩
  have hkb : k < bs.length := by omega
  have hz : (l.zip bs)[k]? = some (l[k], bs[k]) := by rw [List.getElem?_zip_eq_some]; exact ⟨List.getElem?_eq_getElem hk, List.getElem?_eq_getElem hkb⟩
  have hkz : k < (l.zip bs).length := (List.getElem?_eq_some_iff.1 hz).1
  have hzz : (l.zip bs)[k] = (l[k], bs[k]) := (List.getElem?_eq_some_iff.1 hz).2
  have hline := h3 k bs[k] l[k].2 (List.getElem?_eq_getElem hkb) (by rw [List.getElem?_map, List.getElem?_eq_getElem hk]; rfl)
  obtain ⟨q1, q2, q3⟩ := hin l[k] (List.getElem_mem hk)
  refine ⟨⟨g, 0, none⟩, encE (l[k], bs[k]), rfl, .inl rfl, fun j u hu => ?_, _, rfl, q1, ?_⟩
  ·refine hown.cells rfl _ u ?_
   have hj : j < 2 := (List.getElem?_eq_some_iff.1 hu).1
   have := flat_get (enc := encE) (sz := 2) (l.zip bs) (fun _ _ => rfl) k hkz j hj
   rw [hzz] at this
   exact this.trans hu
  ·refine ⟨some ⟨bs[k], 0, none⟩, l[k].2.length, rfl, Nat.le_refl _, by unfold maxLen; omega, fun i hi => ⟨⟨bs[k], 0, none⟩, encS l[k].2[i], rfl, .inr (List.getElem_mem hkb), fun j u hu => ?_, rfl, q3 _ (List.getElem_mem hi)⟩⟩
   have hj : j < 2 := (List.getElem?_eq_some_iff.1 hu).1
   have := flat_get (enc := encS) (sz := 2) l[k].2 (fun _ _ => rfl) i hi j hj
   rw [show rSpot.size = 2 from rfl, add_zero]
   simp only [World.cell?, hline]
   simpa using this.trans hu

def farB (p : Int × Int) : Bool := !decide (-1000 ≤ p.1 ∧ p.1 ≤ 1000) || !decide (-1000 ≤ p.2 ∧ p.2 ≤ 1000)
def gradedE (l : List Edg) (cs : List (Int × Int)) : Int := if ¬ cs.length = l.length then 1 else if cs.any farB = true then 3 else outlineE l
theorem outline_good {l : List Edg} (h : outlineE l = 0) : 2 ≤ l.length ∧ l.length ≤ 16 ∧ ∀ k, k < l.length → 2 ≤ (gE l k).2.length ∧ (gE l k).2.length ≤ 40 := by
 unfold outlineE at h
 split at h
 ·cases h
 ·split at h
  ·cases h
  ·split at h
   ·rename_i h1
    exact ⟨by omega, by omega, fun k hk => pline_len (edge_pline (firstE_at h1 k hk))⟩
   ·rename_i h1; exact absurd h h1

theorem graded_ok (w : World) (nm : ByteArray) (g : Int) (m : Bool) (Ae An Ac Aw : Option Addr) (ce nn cn cc nw cw : Nat) (l : List Edg) (cs : List (Int × Int))
  (hl : Sl rEdge w w.heap.size (.slice Ae l.length ce) l) (hcs : Sl rSpot w w.heap.size (.slice Ac cs.length cc) cs) :
  OkM Tryz.prog 71 [.agg #[.string nm, .slice Ae l.length ce, .int .i64 g, .slice An nn cn, .slice Ac cs.length cc, .slice Aw nw cw, .bool m], .int .i64 0].toArray w
   (fun x : Option Addr × Nat × (Nat → Prop) => .tuple #[.slice x.1 (if gradedE l cs = 0 then l.length else 0) x.2.1, .int .i64 (gradedE l cs)])
   (fun x => if gradedE l cs = 0 then [Deep x.2.2 rEdge (.slice x.1 l.length x.2.1) l] else []) := by
 obtain ⟨A', c', hv, hcc, hcm, hccell⟩ := hcs.spot
 injection hv with e1 e2 e3
 subst e1 e3
 have hll := len_small hl
 obtain ⟨A', c', hv, hlc, hlm⟩ := hll
 injection hv with e1 e2 e3
 subst e1 e3
 have bad : ∀ k : Int, ¬ k = 0 → gradedE l cs = k → ∀ w' : World, ∃ x : Option Addr × Nat × (Nat → Prop), Value.tuple #[.slice none 0 0, .int .i64 k] = .tuple #[.slice x.1 (if gradedE l cs = 0 then l.length else 0) x.2.1, .int .i64 (gradedE l cs)] ∧
   Made w (if gradedE l cs = 0 then [Deep x.2.2 rEdge (.slice x.1 l.length x.2.1) l] else []) w' := fun k hk he w' => ⟨(none, 0, fun _ => False), by rw [he, if_neg hk], by rw [he, if_neg hk]; exact Made.nil _ _⟩
 unfold OkM
 refine ok_enter Tryz.func71 rfl Tryz.ntmps71 rfl ?_
 (refine gV ?_; refine gw_boxd (v := .agg _) rfl rfl (fun _ => ?_); (iterate 2 refine gM ?_); refine gO ?_; refine gQ ?_; refine gV ?_; refine gM ?_; apply gw_d; exact w_call rfl rfl (fun w s => within_ok w _ _ (by decide)) rfl; apply gw_d; exact det_not_dec rfl rfl rfl; refine gO ?_)
 rename_i bp
 refine gc_if_dec rfl (fun h => absurd (by decide) h) (fun _ => ?_)
 (refine gK ?_; refine gX ?_; refine gQ ?_; refine gV ?_; refine gF ?_; refine gW .here ?_; refine gL ?_; refine gF ?_; refine gW .here ?_; refine gL ?_; refine gC ?_; refine gO ?_)
 refine gc_if_dec rfl (fun h => ?_) (fun h => ?_)
 ·(refine gV ?_; (iterate 2 refine gM ?_); refine gO ?_; refine gR ?_; refine gT ?_)
  refine gx_ret2 (u := .slice _ _ _) (v := .int _ _) rfl rfl rfl (fun _ _ => ?_)
  exact bad 1 (by decide) (by unfold gradedE; rw [if_pos (by omega)]) _
 have hlen : cs.length = l.length := by omega
 (refine gK ?_; refine gX ?_; refine gQ ?_; refine gV ?_; refine gF ?_; refine gW .here ?_; refine gL ?_; refine gM ?_; refine gO ?_; refine gB ?_)
 refine gc_loopK (σ := Nat) [28, 29, 30, 7, 31, 32, 33, 34, 35, 36, 37, 38, 39, 40, 4, 5, 41, 27] (fun k => [(27, .int .i64 k)]) (fun k => k ≤ cs.length ∧ (cs.take k).any farB = false) (fun k => cs.length - k) 0 ⟨Nat.zero_le _, rfl⟩ ⟨rfl, trivial⟩ ?_
 rintro k base ⟨hk, hI⟩
 (refine gV ?_; refine gC ?_; refine gO ?_; refine gQ ?_)
 refine gc_if_dec rfl (fun h => ?_) (fun h => ?_)
 ·have hlt : k < cs.length := by omega
  obtain ⟨ad, rfl, hb, hce, _⟩ := hccell k hlt
  have hfar : farB cs[k] = true → cs.any farB = true := fun h => List.any_eq_true.2 ⟨_, List.getElem_mem hlt, h⟩
  have hsn : farB cs[k] = false → (cs.take (k + 1)).any farB = false := fun h => by rw [List.take_succ_eq_append_getElem hlt, List.any_append, hI]; simp [h]
  focus (refine gK ?_; refine gX ?_; refine gQ ?_; refine gB ?_; refine gV ?_; apply gw_d; exact w_index rfl rfl rfl rfl (by with_reducible exact rfl) (by omega); apply gw_d; exact w_load_elem rfl rfl rfl (by assumption) (by assumption) (by rfl); refine w_alloc rfl (fun _ => ?_); refine w_store_all rfl rfl rfl rfl rfl .here rfl ?_; refine gN ?_; refine gF ?_; refine gW .here ?_; apply gw_d; exact w_call rfl rfl (fun w s => within_ok w _ _ (by decide)) rfl; apply gw_d; exact det_not_dec rfl rfl rfl; refine gM ?_; refine gD (fun _ => ?_) (fun _ => ?_); (iterate 4 refine gU ?_); refine gPp ?_; refine gO ?_; refine gc_if_true rfl ?_; refine gV ?_; (iterate 2 refine gM ?_); refine gO ?_; refine gR ?_; refine gY ?_; (iterate 2 refine gT ?_); refine gY ?_; refine gT ?_; rotate_left; refine gF ?_; refine gW .here ?_; apply gw_d; exact w_call rfl rfl (fun w s => within_ok w _ _ (by decide)) rfl; apply gw_d; exact det_not_dec rfl rfl rfl; refine gPq ?_; refine gO ?_; refine gc_if_dec rfl (fun _ => ?_) (fun _ => ?_); refine gV ?_; (iterate 2 refine gM ?_); refine gO ?_; refine gR ?_; refine gY ?_; (iterate 2 refine gT ?_); refine gY ?_; refine gT ?_; rotate_left; refine gK ?_; refine gH ?_; refine gX ?_; refine gG ?_; refine gA ?_; refine gM ?_; refine gw_nil ?_; rotate_left)
  ·refine gx_ret2 (u := .slice _ _ _) (v := .int _ _) rfl rfl rfl (fun _ _ => ?_)
   exact bad 3 (by decide) (by unfold gradedE; rw [if_neg (by omega), if_pos (hfar (by unfold farB; simp only [Bool.or_eq_true, Bool.not_eq_true', decide_eq_false_iff_not]; left; assumption))]) _
  ·refine gx_ret2 (u := .slice _ _ _) (v := .int _ _) rfl rfl rfl (fun _ _ => ?_)
   exact bad 3 (by decide) (by unfold gradedE; rw [if_neg (by omega), if_pos (hfar (by unfold farB; simp only [Bool.or_eq_true, Bool.not_eq_true', decide_eq_false_iff_not]; right; assumption))]) _
  ·exact gx_round (k + 1) ⟨by omega, hsn (by unfold farB; simp only [Bool.or_eq_false_iff, Bool.not_eq_false', decide_eq_true_eq]; constructor <;> (apply Classical.not_not.1; assumption))⟩ (by omega) kK ⟨rfl, trivial⟩ Sub.tail
 obtain rfl : k = cs.length := by omega
 rw [List.take_length] at hI
 have hE : gradedE l cs = outlineE l := by unfold gradedE; rw [if_neg (by omega), if_neg (by rw [hI]; decide)]
 (refine gI ?_; (iterate 2 refine gZ ?_); refine gJ ?_; refine gX ?_; refine gQ ?_; refine gV ?_; refine gF ?_; refine gW .here ?_; apply gw_d; exact w_call rfl rfl (fun w s => outline_ok w _ l (hl.later s)) rfl; refine gM ?_; refine gN ?_; refine gM ?_; refine gC ?_; refine gO ?_)
 refine gc_if_dec rfl (fun h => ?_) (fun h => ?_)
 ·(refine gV ?_; (iterate 3 refine gM ?_); refine gO ?_; refine gR ?_; refine gT ?_)
  refine gx_ret2 (u := .slice _ _ _) (v := .int _ _) rfl rfl rfl (fun _ _ => ?_)
  exact bad _ h hE _
 have hE0 : outlineE l = 0 := by simpa using h
 obtain ⟨hl2, hl16, hlines⟩ := outline_good hE0
 obtain ⟨ade, ce', hv, _, _, hbe, hecell⟩ := hl.edge' (by omega)
 injection hv with e1 e2 e3
 subst e1 e3
 have hin : ∀ x ∈ l, x.1.size ≤ maxLen ∧ x.2.length ≤ 40 ∧ ∀ p ∈ x.2, inI64 p.1 ∧ inI64 p.2 := fun x hx => by
  obtain ⟨u, hu⟩ := hl.edges_in x hx
  obtain ⟨i, hi, rfl⟩ := List.getElem_of_mem hx
  obtain ⟨_, _, _, hs, _⟩ := hecell i hi
  have := hlines i hi
  rw [gE_get hi] at this hs
  refine ⟨?_, this.2, hu.spots_in⟩
  obtain ⟨_, _, _, _, _, h3⟩ := hl
  obtain ⟨_, _, _, _, _, _, _, h4, _⟩ := h3 i hi
  exact h4
 (refine gK ?_; refine gX ?_; refine gV ?_; refine gF ?_; refine gW .here ?_; refine gM ?_; apply gw_d; exact w_build (cells := #[.slice Ac cs.length cc, .int .i64 0]) rfl rfl (by rfl); apply gw_d; exact det_func rfl rfl rfl rfl; refine gM ?_; refine gN ?_; refine gM ?_; refine gO ?_; refine gQ ?_; refine gV ?_; refine gF ?_; refine gW .here ?_; refine gL ?_; refine gM ?_; refine gO ?_; refine gB ?_)
 refine gc_own0 116 2 (gc_lines0 ?_)
 refine gc_loop (σ := Nat × Option Addr × Nat × List Nat) [57, 58, 59, 60, 12, 11, 61, 62, 63, 64, 65, 66, 67, 68, 69, 70, 71, 72, 73, 74, 75, 76, 10, 77, 56] (fun s => [(10, .slice s.2.1 s.1 s.2.2.1), (56, .int .i64 s.1)])
  (fun s => [Own s.2.1 s.1 s.2.2.1 116 2 (rowE (l.take s.1) s.2.2.2), LinesR ((l.take s.1).map (·.2)) s.2.2.2])
  (fun s => s.1 ≤ l.length ∧ s.2.2.2.length = s.1) (fun s => l.length - s.1) (0, none, 0, []) ⟨Nat.zero_le _, rfl⟩ ⟨rfl, rfl, trivial⟩ (.cons (.there .here) (.cons .here .nil)) ?_
 rintro ⟨k, A, c2, bs⟩ base ⟨hk, hbs⟩
 dsimp only at hk hbs ⊢
 (refine gV ?_; refine gC ?_; refine gO ?_; refine gQ ?_)
 refine gc_if_dec rfl (fun h => ?_) (fun h => ?_)
 ·have hlt : k < l.length := by omega
  obtain ⟨A1, c1, hce, hsz, hc1, hm1, hsl⟩ := hecell k hlt
  obtain ⟨hn2, hn40⟩ := hlines k hlt
  (refine gK ?_; refine gX ?_; refine gQ ?_; refine gB ?_; refine gV ?_; refine gM ?_; apply gw_d; exact w_index rfl rfl rfl rfl (by with_reducible exact rfl) (by omega); apply gw_d; exact w_load_elem rfl rfl rfl (by assumption) (by assumption) (by rfl); refine w_alloc rfl (fun _ => ?_); refine gM ?_; refine w_store_all rfl rfl rfl rfl rfl .here rfl ?_; refine gO ?_)
  rename_i bv
  refine gc_block_draw Nat 15 (fun i => ([[], [], [1], [], [3], [], [], [5, 6], [], [], [9], [5, 6, 7, 8, 9, 10], [3, 4, 5, 6, 7, 8, 9, 10, 11], [1, 2, 3, 4, 5, 6, 7, 8, 9, 10, 11, 12], [1, 2, 3, 4, 5, 6, 7, 8, 9, 10, 11, 12, 13]] : List (List Nat)).getD i []) rfl (by kernel_rfl) ?_
  (apply gb_d; (intro γ; exact det_m rfl rfl (by conv => (lhs; whnf))); (intros; rfl); (intros; rfl); apply gb_d; (intro γ; exact w_field rfl rfl rfl); (intros; rfl); (intros; rfl); apply gb_d; (intro γ; exact w_load_box rfl rfl rfl .here rfl); (intros; rfl); (intros; rfl); apply gb_d; (intro γ; exact w_field rfl rfl rfl); (intros; rfl); (intros; rfl); apply gb_d; (intro γ; exact w_load_box rfl rfl rfl .here rfl); (intros; rfl); (intros; rfl); apply gb_d; (intro γ; exact det_m rfl rfl (by conv => (lhs; whnf))); (intros; rfl); (intros; rfl); apply gb_d; (intro γ; exact det_m rfl rfl (by conv => (lhs; whnf))); (intros; rfl); (intros; rfl); apply gb_d; (intro γ; exact w_callv rfl rfl rfl (fun w s => corner0_ok w _ _ cs _ (hcs.later s) (by omega) (by omega)) rfl); (intros; rfl); (intros; rfl); apply gb_d; (intro γ; exact det_m rfl rfl (by conv => (lhs; whnf))); (intros; rfl); (intros; rfl); apply gb_d; (intro γ; exact det_m rfl rfl (by conv => (lhs; whnf))); (intros; rfl); (intros; rfl); apply gb_d; (intro γ; exact det_ar rfl rfl rfl rfl rfl (by omega)); (intros; rfl); (intros; rfl); apply gb_d; (intro γ; exact w_callv rfl rfl rfl (fun w s => corner0_ok w _ _ cs _ (hcs.later s) (by omega) (by omega)) rfl); (intros; rfl); (intros; rfl))
  refine gb_call (l := fun _ => [.slice A1 (gE l k).2.length c1, .agg #[.int .i64 0, .int .i64 0], .agg #[.int .i64 0, .int .i64 0]]) (fun _ b => .slice (some ⟨b, 0, none⟩) (gE l k).2.length (gE l k).2.length) (fun _ b => [Box b 114 ((gE l k).2.flatMap encS).toArray]) (fun _ => rfl) (fun _ w s => moved0_ok w _ _ _ (hsl.later s) hn2 hn40) (fun _ => rfl) (fun _ _ => ⟨rfl, rfl⟩) (fun _ => ⟨rfl, rfl⟩) ?_
  refine gb_d (V := fun γ => .agg #[.string (gE l k).1, .slice (some ⟨γ 12, 0, none⟩) (gE l k).2.length (gE l k).2.length]) (fun γ => w_build rfl rfl (by rfl)) (fun _ _ => rfl) (fun _ => rfl) ?_
  refine gb_bslice1 (fun γ => .agg #[.string (gE l k).1, .slice (some ⟨γ 12, 0, none⟩) (gE l k).2.length (gE l k).2.length]) id id (fun _ => rfl) (fun _ => rfl) (fun _ => rfl) (fun _ => rfl) rfl rfl (fun _ _ => rfl) (fun _ => rfl) ?_
  refine GB.nil (fun β => ?_)
  have hr1 : rowE (l.take (k + 1)) (bs ++ [β 12]) = rowE (l.take k) bs ++ encE (gE l k, β 12) := by rw [List.take_succ_eq_append_getElem hlt, gE_get hlt]; exact rowE_snoc (by rw [List.length_take]; omega)
  have hr2 : (l.take (k + 1)).map (·.2) = (l.take k).map (·.2) ++ [(gE l k).2] := by rw [List.take_succ_eq_append_getElem hlt, gE_get hlt, List.map_append]; rfl
  refine gw_append (news := encE (gE l k, β 12)) rfl rfl rfl (.there (.there (.there .here))) rfl (fun w' s _ => ?_) (fun u hu => ?_) (by unfold maxLen; omega) (by omega) (by decide) rfl (fun A2 c3 => ?_)
  ·refine ⟨⟨β 14, 0, none⟩, rfl, fun j u hu => ?_⟩
   have hbx := Box.cell (s.pick (.there .here)).head j
   rw [add_zero]
   refine Eq.trans hbx ?_
   change (#[Value.string (gE l k).1, Value.slice (some ⟨β 12, 0, none⟩) (gE l k).2.length (gE l k).2.length] : Array Value)[j]? = some u
   rw [List.getElem?_toArray]
   exact hu
  ·simp only [encE, List.mem_cons, List.not_mem_nil, or_false] at hu
   rcases hu with rfl | rfl <;> rfl
  ·(refine gM ?_; refine gw_nil ?_; refine gH ?_; refine gX ?_; refine gG ?_; refine gA ?_; refine gM ?_; refine gw_nil ?_)
   refine gx_roundE (k + 1, A2, c3, bs ++ [β 12]) ⟨hlt, by simp [hbs]⟩ (by dsimp only; omega) kK ⟨rfl, rfl, trivial⟩ ?_
   dsimp only
   rw [hr1, hr2]
   refine Ent.trans (Sub.ent (.cons .here (.cons .here (.cons (.there (.there .here)) .nil)))) (Ent.cons LinesR.snoc ?_)
   intro q hq b hb
   rw [List.mem_singleton] at hq
   subst hq
   rcases List.mem_append.1 hb with h | h
   ·exact ⟨_, List.mem_cons_of_mem _ List.mem_cons_self, h⟩
   ·exact ⟨_, List.mem_cons_self, List.mem_singleton.1 h⟩
 ·obtain rfl : k = l.length := by omega
  rw [List.take_length]
  refine gc_ent (deep_edges rfl hin) ?_
  (refine gI ?_; (iterate 2 refine gZ ?_); refine gJ ?_; refine gX ?_; refine gQ ?_; refine gV ?_; refine gM ?_; apply gw_d; exact w_call rfl rfl (fun w s => outline_ok w _ l (Sl.deep s .here)) rfl; refine gM ?_; refine gN ?_; refine gM ?_; refine gC ?_; refine gO ?_)
  refine gc_if_dec rfl (fun h => absurd hE0 h) (fun _ => ?_)
  (refine gK ?_; refine gX ?_; refine gV ?_; (iterate 3 refine gM ?_); refine gO ?_; refine gR ?_)
  refine gx_ret2 (u := .slice _ _ _) (v := .int _ _) rfl rfl rfl (fun w' s => ?_)
  exact ⟨(A, c2, _), by rw [hE, hE0, if_pos rfl], by rw [hE, hE0, if_pos rfl]; exact s.sep⟩
theorem Sl.at' {α : Type} {R : Rp α} {w : World} {B : Nat} {v : Value} {l : List α} (h : Sl R w B v l) (sz : Nat) (hsz : R.size = sz) (hl : 0 < l.length) : ∃ ad c, v = .slice (some ad) l.length c ∧ l.length ≤ c ∧ l.length ≤ 9223372036854775807 ∧ ad.block < B ∧
  ∀ k (hk : k < l.length), ∃ cs, (∀ j u, cs[j]? = some u → w.cell? (ad.add (k * sz + j)) = some u) ∧ R.rep w (fun b => b < B) l[k] cs := by
 subst hsz
 obtain ⟨A, c, hv, h1, h2, h3⟩ := h
 obtain ⟨ad, _, ha, hlt, _⟩ := h3 0 hl
 subst ha
 refine ⟨ad, c, hv, h1, by unfold maxLen at h2; omega, hlt, fun k hk => ?_⟩
 obtain ⟨ad', cs, ha, _, hc, hr⟩ := h3 k hk
 injection ha with ha
 subst ha
 exact ⟨cs, hc, hr⟩

structure Pc where
 name : ByteArray
 edges : List Edg
 grain : Int
 notches : List (Int × Int)
 corners : List (Int × Int)
 widths : List Int
 mt : Bool
def rPiece : Rp Pc where
 size := 7
 rep w S p cs := ∃ Ae ce An cn Ac cc Aw cw, cs = [.string p.name, .slice Ae p.edges.length ce, .int .i64 p.grain, .slice An p.notches.length cn, .slice Ac p.corners.length cc, .slice Aw p.widths.length cw, .bool p.mt] ∧
  (p.name.size ≤ maxLen ∧ inI64 p.grain) ∧ SlS rEdge w S (.slice Ae p.edges.length ce) p.edges ∧ SlS rSpot w S (.slice An p.notches.length cn) p.notches ∧ SlS rSpot w S (.slice Ac p.corners.length cc) p.corners ∧ SlS rInt w S (.slice Aw p.widths.length cw) p.widths
 len h := by obtain ⟨_, _, _, _, _, _, _, _, rfl, _⟩ := h; rfl
 mono hb h := by obtain ⟨Ae, ce, An, cn, Ac, cc, Aw, cw, h0, h1, h2, h3, h4, h5⟩ := h; exact ⟨Ae, ce, An, cn, Ac, cc, Aw, cw, h0, h1, h2.mono hb, h3.mono hb, h4.mono hb, h5.mono hb⟩
 grow hb h := by obtain ⟨Ae, ce, An, cn, Ac, cc, Aw, cw, h0, h1, h2, h3, h4, h5⟩ := h; exact ⟨Ae, ce, An, cn, Ac, cc, Aw, cw, h0, h1, h2.grow hb, h3.grow hb, h4.grow hb, h5.grow hb⟩
def notchF (l : List Edg) (ns : List (Int × Int)) (k : Nat) : Int := match ns[k]? with
 | some n => if n.1 < 0 ∨ n.1 ≥ l.length then 3 else if n.2 < 0 ∨ n.2 > lenL (gE l n.1.toNat).2 then 3 else 0
 | none => 0
def placedE (l : List Edg) (cs ns : List (Int × Int)) : Int := if ¬ gradedE l cs = 0 then gradedE l cs else if ns.length > 16 then 5 else firstE (notchF l ns) ns.length
theorem edges_lines {l : List Edg} {cs : List (Int × Int)} (h : gradedE l cs = 0) : ∀ k, k < l.length → plineE (gE l k).2 = 0 := fun k hk => by
 unfold gradedE at h
 split at h
 ·cases h
 split at h
 ·cases h
 unfold outlineE at h
 split at h
 ·cases h
 split at h
 ·cases h
 split at h
 ·rename_i h1
  have h2 := firstE_at h1 k hk
  unfold edgeE at h2
  split at h2
  ·split at h2
   ·cases h2
   ·exact h2
  ·cases h2
 ·rename_i h1; exact absurd h h1
section
variable {P : Program} {ops : Array Oper} {Q : Exit → Act → World → Prop} {N : Nat} {w0 : World} {L : List Res} {rest : List Oper} {e : Env}
theorem gw_pick {α : Type} {φ : α → Prop} {K : α → List Res} (h : ∀ w, St w0 L w → ∃ a, φ a ∧ St w0 (K a) w) (k : ∀ a, φ a → GW P ops Q N w0 (K a) rest e) : GW P ops Q N w0 L rest e := ⟨fun w s => by
 obtain ⟨a, hp, ha⟩ := h w s
 exact (k a hp).h w ha⟩
end
/-- Edges that the function has made, with the cells of one of them known. -/
def DeepAt (S : Nat → Prop) (v : Value) (l : List Edg) (i : Nat) (a : Addr × Option Addr × Nat) : Res :=
 ⟨S, fun w => SlS rEdge w S v l ∧ S a.1.block ∧ v = .slice (some a.1) l.length (match v with | .slice _ _ c => c | _ => 0) ∧ (∀ j u, [Value.string (gE l i).1, Value.slice a.2.1 (gE l i).2.length a.2.2][j]? = some u → w.cell? (a.1.add (i * 2 + j)) = some u) ∧ SlS rSpot w S (.slice a.2.1 (gE l i).2.length a.2.2) (gE l i).2,
  fun _ _ h p => ⟨SlS.mono h p.1, p.2.1, p.2.2.1, fun j u hu => (cell_same (by rw [add_block]; exact h _ p.2.1)).trans (p.2.2.2.1 j u hu), SlS.mono h p.2.2.2.2⟩⟩
theorem deep_at {S : Nat → Prop} {A : Option Addr} {n c i : Nat} {l : List Edg} {L : List Res} (hi : i < l.length) (w0 w : World) (s : St w0 (Deep S rEdge (.slice A n c) l :: L) w) : ∃ a : Addr × Option Addr × Nat, A = some a.1 ∧ St w0 (DeepAt S (.slice A n c) l i a :: L) w := by
 have hd : SlS rEdge w S (.slice A n c) l := s.head
 have hd' := hd
 obtain ⟨A1, c1, hv, h1, h2, h3⟩ := hd
 obtain ⟨ad, cs, ha, hlt, hc, v2, rfl, hsz, hs2⟩ := h3 i hi
 have hs3 := hs2
 obtain ⟨A2, c2, rfl, _⟩ := hs2
 injection hv with e1 e2 e3
 subst e1 e2 e3 ha
 rw [← gE_get hi] at hc hs3
 exact ⟨(ad, A2, c2), rfl, s.same (fun b hb => hb) ⟨hd', hlt, rfl, hc, hs3⟩⟩
theorem placed_ok (w : World) (nm : ByteArray) (g : Int) (m : Bool) (Ae An Ac Aw : Option Addr) (ce cn cc nw cw : Nat) (l : List Edg) (cs ns : List (Int × Int))
  (hl : Sl rEdge w w.heap.size (.slice Ae l.length ce) l) (hns : Sl rSpot w w.heap.size (.slice An ns.length cn) ns) (hcs : Sl rSpot w w.heap.size (.slice Ac cs.length cc) cs) :
  OkM Tryz.prog 88 [.agg #[.string nm, .slice Ae l.length ce, .int .i64 g, .slice An ns.length cn, .slice Ac cs.length cc, .slice Aw nw cw, .bool m], .int .i64 0].toArray w
   (fun x : (Option Addr × Nat × Nat) × (Option Addr × Nat × Nat) => .tuple #[.slice x.1.1 x.1.2.1 x.1.2.2, .slice x.2.1 x.2.2.1 x.2.2.2, .int .i64 (placedE l cs ns)]) (fun _ => []) := by
 unfold OkM
 refine ok_enter Tryz.func88 rfl Tryz.ntmps88 rfl ?_
 (refine gV ?_; refine gw_boxd (v := .agg _) rfl rfl (fun _ => ?_); (iterate 3 refine gM ?_); refine gN ?_; apply gw_d; exact w_load_boxN rfl rfl rfl .here rfl; refine gM ?_)
 refine gw_callm rfl (fun w s => graded_ok w nm g m _ _ _ _ _ _ _ _ _ _ l cs (hl.later s) (hcs.later s)) rfl (fun x => ?_)
 (refine gM ?_; apply gw_d; exact det_extract rfl rfl rfl (by conv => (lhs; whnf)); apply gw_d; exact det_extract rfl rfl rfl (by conv => (lhs; whnf)); (iterate 2 refine gM ?_); refine gO ?_; refine gQ ?_; refine gV ?_; refine gM ?_; refine gC ?_; refine gO ?_)
 refine gc_if_dec rfl (fun h => ?_) (fun h => ?_)
 ·have hE : placedE l cs ns = gradedE l cs := by unfold placedE; rw [if_pos h]
  (refine gV ?_; (iterate 4 refine gM ?_); refine gO ?_; refine gR ?_; refine gT ?_)
  refine gx_ret3 (u := .slice _ _ _) (v := .slice _ _ _) (x := .int _ _) rfl rfl rfl rfl (fun _ _ => ?_)
  exact ⟨((none, 0, 0), (none, 0, 0)), by rw [hE], trivial⟩
 have h0 : gradedE l cs = 0 := by simpa using h
 rw [if_pos h0]
 simp only [if_pos h0]
 (refine gK ?_; refine gX ?_; refine gQ ?_; refine gV ?_; refine gF ?_; refine gW (.there .here) ?_; refine gL ?_; refine gC ?_; refine gO ?_)
 refine gc_if_dec rfl (fun h => ?_) (fun h16 => ?_)
 ·have hE : placedE l cs ns = 5 := by unfold placedE; rw [if_neg (by rw [h0]; decide), if_pos (by omega)]
  (refine gV ?_; (iterate 3 refine gM ?_); refine gO ?_; refine gR ?_; refine gT ?_)
  refine gx_ret3 (u := .slice _ _ _) (v := .slice _ _ _) (x := .int _ _) rfl rfl rfl rfl (fun _ _ => ?_)
  exact ⟨((none, 0, 0), (none, 0, 0)), by rw [hE], trivial⟩
 have hE : placedE l cs ns = firstE (notchF l ns) ns.length := by unfold placedE; rw [if_neg (by rw [h0]; decide), if_neg (by omega)]
 rw [hE]
 (refine gK ?_; refine gX ?_; refine gV ?_; refine gM ?_; refine gO ?_; refine gQ ?_; refine gV ?_; refine gF ?_; refine gW (.there .here) ?_; refine gL ?_; refine gM ?_; refine gO ?_; refine gB ?_)
 rename_i bp
 refine gc_own0 3 1 ?_
 refine gc_loop (σ := Nat × Option Addr × Nat × List Int) [33, 34, 35, 11, 36, 37, 38, 39, 40, 41, 42, 43, 44, 45, 46, 4, 5, 6, 48, 49, 50, 51, 52, 53, 54, 55, 47, 56, 57, 12, 13, 58, 59, 60, 62, 63, 64, 65, 66, 67, 68, 61, 69, 70, 14, 71, 72, 73, 75, 76, 77, 78, 79, 74, 80, 81, 15, 82, 83, 84, 85, 86, 87, 88, 9, 89, 32] (fun s => [(32, .int .i64 s.1), (9, .slice s.2.1 s.2.2.2.length s.2.2.1)]) (fun s => [Own s.2.1 s.2.2.2.length s.2.2.1 3 1 (s.2.2.2.map (Value.int .i64)), Deep x.2.2 rEdge (.slice x.1 l.length x.2.1) l, Box bp 64 #[.string nm, .slice Ae l.length ce, .int .i64 g, .slice An ns.length cn, .slice Ac cs.length cc, .slice Aw nw cw, .bool m]]) (fun s => s.1 ≤ ns.length ∧ s.2.2.2.length = s.1 ∧ firstE (notchF l ns) s.1 = 0) (fun s => ns.length - s.1) (0, none, 0, []) ⟨Nat.zero_le _, rfl, rfl⟩ ⟨rfl, rfl, trivial⟩ (.cons .here (.cons .here (.cons .here .nil))) ?_
 rintro ⟨k, A, c, pls⟩ base ⟨hk, hpl, hI⟩
 dsimp only at hk hpl hI ⊢
 (refine gV ?_; refine gC ?_; refine gO ?_; refine gQ ?_)
 refine gc_if_dec rfl (fun h2 => ?_) (fun h2 => ?_)
 ·have hkn : k < ns.length := by omega
  obtain ⟨adn, _, hv, _, _, hbn, hncell⟩ := hns.spot' (by omega)
  injection hv with e1 e2 e3
  subst e1 e3
  have hcn := hncell k hkn
  have hF : notchF l ns k = if (gS ns k).1 < 0 ∨ (gS ns k).1 ≥ l.length then 3 else if (gS ns k).2 < 0 ∨ (gS ns k).2 > lenL (gE l (gS ns k).1.toNat).2 then 3 else 0 := by
   unfold notchF
   rw [List.getElem?_eq_getElem hkn, gS_get hkn]
  have hstop : notchF l ns k = 3 → firstE (notchF l ns) ns.length = 3 := fun h3 => by
   have := firstE_stop hI (by rw [h3]; decide) hkn
   rw [this, h3]
  generalize gS ns k = nk at *
  (refine gK ?_; refine gX ?_; refine gQ ?_; refine gB ?_; refine gV ?_; apply gw_d; exact w_index rfl rfl rfl rfl (by with_reducible exact rfl) (by omega); apply gw_d; exact w_load_elem rfl rfl rfl (by assumption) (by assumption) (by rfl); refine w_alloc rfl (fun _ => ?_); refine w_store_all rfl rfl rfl rfl rfl .here rfl ?_; refine gO ?_; refine gQ ?_; refine gV ?_; refine gF ?_; refine gW .here ?_; refine gC ?_; refine gM ?_)
  by_cases hc : nk.1 < 0 ∨ nk.1 ≥ l.length
  ·rw [if_pos hc] at hF
   rw [hstop hF]
   focus (refine gD (fun _ => ?_) (fun _ => ?_); (iterate 6 refine gU ?_); refine gPp ?_; refine gO ?_; refine gc_if_true rfl ?_; refine gV ?_; (iterate 3 refine gM ?_); refine gO ?_; refine gR ?_; refine gT ?_; refine gY ?_; (iterate 2 refine gT ?_); refine gY ?_; refine gT ?_; rotate_left; refine gF ?_; refine gW .here ?_; refine gF ?_; refine gW (.there (.there (.there .here))) ?_; refine gL ?_; refine gC ?_; refine gPq ?_; refine gO ?_; refine gc_if_dec rfl (fun _ => ?_) (fun _ => ?_); refine gV ?_; (iterate 3 refine gM ?_); refine gO ?_; refine gR ?_; refine gT ?_; refine gY ?_; (iterate 2 refine gT ?_); refine gY ?_; refine gT ?_; rotate_left; refine gK ?_; refine gX ?_; refine gV ?_; refine gF ?_; refine gW (.there (.there (.there .here))) ?_; refine gF ?_; refine gW .here ?_; rotate_left)
   all_goals first | (exfalso; omega) | skip
   all_goals (refine gx_ret3 (u := .slice _ _ _) (v := .slice _ _ _) (x := .int _ _) rfl rfl rfl rfl (fun _ _ => ?_); exact ⟨((none, 0, 0), (none, 0, 0)), rfl, trivial⟩)
  rw [if_neg hc] at hF
  obtain ⟨ed, hed⟩ : ∃ ed : Nat, nk.1 = (ed : Int) := ⟨nk.1.toNat, by omega⟩
  have hel : ed < l.length := by omega
  obtain ⟨ade, _, hv, _, _, hbe, hecell⟩ := hl.edge' (by omega)
  injection hv with e1 e2 e3
  subst e1 e3
  obtain ⟨A', c', hcE, _, _, _, hline⟩ := hecell ed hel
  have hcE1 := hcE 1 _ rfl
  have hLen : ∀ (L : List Res) (w' : World), St w L w' → Ok Tryz.prog 117 [.slice A' (gE l ed).2.length c'].toArray w' fun r _ => r = .tuple #[.int .i64 (lenL (gE l ed).2), .int .i64 0] := fun L w' s => length_ok w' _ _ (hline.later s) (edges_lines h0 ed hel)
  focus (refine gD (fun _ => ?_) (fun _ => ?_); (iterate 6 refine gU ?_); refine gPp ?_; refine gO ?_; refine gc_if_true rfl ?_; refine gV ?_; (iterate 3 refine gM ?_); refine gO ?_; refine gR ?_; refine gT ?_; refine gY ?_; (iterate 2 refine gT ?_); refine gY ?_; refine gT ?_; rotate_left; refine gF ?_; refine gW .here ?_; refine gF ?_; refine gW (.there (.there (.there .here))) ?_; refine gL ?_; refine gC ?_; refine gPq ?_; refine gO ?_; refine gc_if_dec rfl (fun _ => ?_) (fun _ => ?_); refine gV ?_; (iterate 3 refine gM ?_); refine gO ?_; refine gR ?_; refine gT ?_; refine gY ?_; (iterate 2 refine gT ?_); refine gY ?_; refine gT ?_; rotate_left; refine gK ?_; refine gX ?_; refine gV ?_; refine gF ?_; refine gW (.there (.there (.there .here))) ?_; refine gF ?_; refine gW .here ?_; apply gw_d; exact w_index (m := ed) rfl rfl rfl rfl hed hel; refine gF ?_; apply gw_d; exact w_load_fld rfl rfl rfl (by assumption) (by assumption); apply gw_d; exact w_call rfl rfl (hLen _) rfl; refine gM ?_; apply gw_d; exact det_extract rfl rfl rfl (by conv => (lhs; whnf)); apply gw_d; exact det_extract rfl rfl rfl (by conv => (lhs; whnf)); (iterate 2 refine gM ?_); refine gO ?_; refine gQ ?_; refine gV ?_; refine gM ?_; refine gC ?_; refine gO ?_; refine gc_if_dec rfl (fun _ => ?_) (fun _ => ?_); refine gV ?_; (iterate 4 refine gM ?_); refine gO ?_; refine gR ?_; refine gT ?_; refine gY ?_; (iterate 2 refine gT ?_); refine gY ?_; refine gT ?_; rotate_left; refine gK ?_; refine gX ?_; refine gV ?_; refine gM ?_; refine gF ?_; refine gW .here ?_; rotate_left)
  all_goals first | (exfalso; omega) | skip
  refine gw_ent (K := Deep x.2.2 rEdge (.slice x.1 l.length x.2.1) l :: Box _ _ _ :: Own _ _ _ _ _ _ :: Box _ _ _ :: []) (Sub.ent (.cons (.there (.there .here)) (.cons .here (.cons .here (.cons .here .nil))))) ?_
  refine gw_pick (fun w' s => deep_at (i := ed) hel w w' s) (fun a ha => ?_)
  obtain ⟨x1, x2, xS⟩ := x
  dsimp only at ha ⊢
  subst ha
  have hLen2 : ∀ (L : List Res) (w' : World), St w (DeepAt xS (.slice (some a.1) l.length x2) l ed a :: L) w' → Ok Tryz.prog 117 [.slice a.2.1 (gE l ed).2.length a.2.2].toArray w' fun r _ => r = .tuple #[.int .i64 (lenL (gE l ed).2), .int .i64 0] := fun L w' s => length_ok w' _ _ (SlS.grow (fun b hb => (s.sep.fp _ List.mem_cons_self b hb).2) s.head.2.2.2.2) (edges_lines h0 ed hel)
  have hcd : ∀ (L : List Res) (w' : World), St w (DeepAt xS (.slice (some a.1) l.length x2) l ed a :: L) w' → w'.cell? ((a.1.add (ed * 2)).add 1) = some (.slice a.2.1 (gE l ed).2.length a.2.2) := fun L w' s => by rw [add_add]; exact s.head.2.2.2.1 1 _ rfl
  have hlr := lenL_range (line_good (edges_lines h0 ed hel))
  focus (apply gw_d; exact w_index (m := ed) rfl rfl rfl rfl hed hel; refine gF ?_; apply gw_d; exact det_load rfl rfl rfl (fun w' s => run_loadVar1 CNotAgg.h (hcd _ w' s)); apply gw_d; exact w_call rfl rfl (hLen2 _) rfl; refine gM ?_; apply gw_d; exact det_extract rfl rfl rfl (by conv => (lhs; whnf)); apply gw_d; exact det_extract rfl rfl rfl (by conv => (lhs; whnf)); (iterate 2 refine gM ?_); refine gO ?_; refine gQ ?_; refine gV ?_; refine gM ?_; refine gC ?_; refine gO ?_; refine gc_if_dec rfl (fun _ => ?_) (fun _ => ?_); refine gV ?_; (iterate 4 refine gM ?_); refine gO ?_; refine gR ?_; refine gT ?_; refine gY ?_; (iterate 2 refine gT ?_); refine gY ?_; refine gT ?_; rotate_left; refine gK ?_; refine gX ?_; refine gV ?_; (iterate 2 refine gM ?_); refine gF ?_; refine gW (.there .here) ?_; rotate_left)
  all_goals first | (exfalso; omega) | skip
  have htn : nk.1.toNat = ed := by omega
  rw [htn] at hF
  by_cases hat : nk.2 < 0 ∨ nk.2 > lenL (gE l ed).2
  ·rw [if_pos hat] at hF
   rw [hstop hF]
   focus (apply gw_d; exact w_call rfl rfl (fun w' _ => partner_bad w' _ _ (by omega) hat) rfl; refine gM ?_; apply gw_d; exact det_extract rfl rfl rfl (by conv => (lhs; whnf)); apply gw_d; exact det_extract rfl rfl rfl (by conv => (lhs; whnf)); (iterate 2 refine gM ?_); refine gO ?_; refine gQ ?_; refine gV ?_; refine gM ?_; refine gC ?_; refine gO ?_; refine gc_if_dec rfl (fun _ => ?_) (fun _ => ?_); refine gV ?_; (iterate 4 refine gM ?_); refine gO ?_; refine gR ?_; refine gT ?_; refine gY ?_; (iterate 2 refine gT ?_); refine gY ?_; refine gT ?_; rotate_left; refine gK ?_; refine gX ?_; refine gG ?_; (iterate 2 refine gM ?_); rotate_left)
   all_goals first | (exfalso; omega) | skip
   all_goals (refine gx_ret3 (u := .slice _ _ _) (v := .slice _ _ _) (x := .int _ _) rfl rfl rfl rfl (fun _ _ => ?_); exact ⟨((none, 0, 0), (none, 0, 0)), rfl, trivial⟩)
  rw [if_neg hat] at hF
  obtain ⟨LN, hLN⟩ : ∃ n : Nat, lenL (gE l ed).2 = (n : Int) := ⟨(lenL (gE l ed).2).toNat, by omega⟩
  obtain ⟨aN, haN⟩ : ∃ n : Nat, nk.2 = (n : Int) := ⟨nk.2.toNat, by omega⟩
  rw [hLN, haN]
  (skip)
  refine gw_callm rfl (fun w s => partner_ok w LN aN (by omega) (by omega)) rfl (fun p => ?_)
  focus (refine gM ?_; apply gw_d; exact det_extract rfl rfl rfl (by conv => (lhs; whnf)); apply gw_d; exact det_extract rfl rfl rfl (by conv => (lhs; whnf)); (iterate 2 refine gM ?_); refine gO ?_; refine gQ ?_; refine gV ?_; refine gM ?_; refine gC ?_; refine gO ?_; refine gc_if_dec rfl (fun _ => ?_) (fun _ => ?_); refine gV ?_; (iterate 4 refine gM ?_); refine gO ?_; refine gR ?_; refine gT ?_; refine gY ?_; (iterate 2 refine gT ?_); refine gY ?_; refine gT ?_; rotate_left; refine gK ?_; refine gX ?_; refine gG ?_; (iterate 2 refine gM ?_); rotate_left)
  all_goals first | (exfalso; omega) | skip
  refine gw_bslice1 (v := .int .i64 p) rfl rfl rfl rfl rfl (fun bb => ?_)
  refine gw_append (news := [.int .i64 p]) rfl rfl rfl (.there (.there (.there .here))) rfl (fun w' s _ => ?_) (fun u hu => ?_) (by unfold maxLen; omega) (by omega) (by decide) rfl (fun A3 c3 => ?_)
  ·refine ⟨⟨bb, 0, none⟩, rfl, fun i u hu => ?_⟩
   rw [add_zero]
   refine (Box.cell s.head i).trans ?_
   change (#[Value.int .i64 p] : Array Value)[i]? = some u
   rw [List.getElem?_toArray]
   exact hu
  ·rw [List.mem_singleton] at hu
   subst hu
   rfl
  ·(refine gM ?_; refine gw_nil ?_; refine gH ?_; refine gX ?_; refine gG ?_; refine gA ?_; refine gM ?_; refine gw_nil ?_)
   refine gx_roundE (k + 1, A3, c3, pls ++ [p]) ⟨hkn, by simp [hpl], firstE_snoc hI hF⟩ (by dsimp only; omega) kK ⟨rfl, by rw [List.length_append]; rfl, trivial⟩ ?_
   dsimp only
   rw [List.length_append, List.map_append]
   exact Ent.trans (Sub.ent (.cons (.there (.there .here)) (.cons .here (.cons (.there (.there .here)) .nil)))) (Ent.trans (fun w0 w s => s.same (q := Deep xS rEdge (.slice (some a.1) l.length x2) l) (fun b hb => hb) s.head.1) (Sub.ent (.cons (.there .here) (.cons .here (.cons .here .nil)))))
 ·obtain rfl : k = ns.length := by omega
  (refine gI ?_; (iterate 2 refine gZ ?_); refine gJ ?_; refine gX ?_; refine gV ?_; (iterate 5 refine gM ?_); refine gO ?_; refine gR ?_)
  refine gx_ret3 (u := .slice _ _ _) (v := .slice _ _ _) (x := .int _ _) rfl rfl rfl rfl (fun _ _ => ?_)
  exact ⟨((A, pls.length, c), (x.1, l.length, x.2.1)), by rw [hI], trivial⟩
theorem Placed_ok (w : World) (nm : ByteArray) (g : Int) (m : Bool) (Ae An Ac Aw : Option Addr) (ce cn cc nw cw : Nat) (l : List Edg) (cs ns : List (Int × Int))
  (hl : Sl rEdge w w.heap.size (.slice Ae l.length ce) l) (hns : Sl rSpot w w.heap.size (.slice An ns.length cn) ns) (hcs : Sl rSpot w w.heap.size (.slice Ac cs.length cc) cs) :
  OkM Tryz.prog 72 [.agg #[.string nm, .slice Ae l.length ce, .int .i64 g, .slice An ns.length cn, .slice Ac cs.length cc, .slice Aw nw cw, .bool m], .int .i64 0].toArray w
   (fun x : Option Addr × Nat × Nat => .tuple #[.slice x.1 x.2.1 x.2.2, .int .i64 (placedE l cs ns)]) (fun _ => []) := by
 unfold OkM
 refine ok_enter Tryz.func72 rfl Tryz.ntmps72 rfl ?_
 (refine gV ?_; refine gw_boxd (v := .agg _) rfl rfl (fun _ => ?_); (iterate 2 refine gM ?_); refine gN ?_; apply gw_d; exact w_load_boxN rfl rfl rfl .here rfl; refine gM ?_)
 refine gw_callm rfl (fun w s => placed_ok w nm g m _ _ _ _ _ _ _ _ _ l cs ns (hl.later s) (hns.later s) (hcs.later s)) rfl (fun x => ?_)
 (refine gM ?_; apply gw_d; exact det_extract rfl rfl rfl (by conv => (lhs; whnf)); apply gw_d; exact det_extract rfl rfl rfl (by conv => (lhs; whnf)); apply gw_d; exact det_extract rfl rfl rfl (by conv => (lhs; whnf)); (iterate 3 refine gM ?_); refine gN ?_; (iterate 4 refine gM ?_); refine gO ?_; refine gR ?_)
 refine gx_ret2 (u := .slice _ _ _) (v := .int _ _) rfl rfl rfl (fun _ _ => ?_)
 exact ⟨x.1, rfl, trivial⟩
def wideB (n : Int) : Bool := decide (n < 0) || decide (n > 500)
def pieceE (e : List Pc) (p : Pc) (plE : Int) : Int := if nameB p.name = true then if ¬ p.grain = 1 ∧ ¬ p.grain = 2 ∧ ¬ p.grain = 4 then 1 else if (e.any fun x => eqS x.name p.name) = true then 7 else if ¬ gradedE p.edges p.corners = 0 then gradedE p.edges p.corners else
 if ¬ plE = 0 then plE else if ¬ p.widths.length = p.edges.length then 1 else if p.widths.any wideB = true then 3 else 0 else 1

theorem take_any_snoc {α : Type} {f : α → Bool} {l : List α} {k : Nat} (hk : k < l.length) (h : (l.take k).any f = false) (hf : f l[k] = false) : (l.take (k + 1)).any f = false := by
 rw [List.take_succ_eq_append_getElem hk, List.any_append, h]
 simp [hf]
theorem any_at {α : Type} {f : α → Bool} {l : List α} {k : Nat} (hk : k < l.length) (h : f l[k] = true) : l.any f = true := List.any_eq_true.2 ⟨_, List.getElem_mem hk, h⟩

theorem checkPiece_ok (w : World) (ve : Value) (e : List Pc) (p : Pc) (Ae An Ac Aw : Option Addr) (ce cn cc cw : Nat) (he : Sl rPiece w w.heap.size ve e)
  (hl : Sl rEdge w w.heap.size (.slice Ae p.edges.length ce) p.edges) (hcs : Sl rSpot w w.heap.size (.slice Ac p.corners.length cc) p.corners) (hns : Sl rSpot w w.heap.size (.slice An p.notches.length cn) p.notches) (hws : Sl rInt w w.heap.size (.slice Aw p.widths.length cw) p.widths) (hnm : p.name.size ≤ 9223372036854775807) :
  Ok Tryz.prog 55 [ve, .agg #[.string p.name, .slice Ae p.edges.length ce, .int .i64 p.grain, .slice An p.notches.length cn, .slice Ac p.corners.length cc, .slice Aw p.widths.length cw, .bool p.mt]].toArray w
   fun r _ => r = .int .i64 (pieceE e p (placedE p.edges p.corners p.notches)) := by
 obtain ⟨A, c, rfl, hec, hem⟩ := len_small he
 obtain ⟨_, _, hv, hlc, hlm⟩ := len_small hl
 injection hv with e1 e2 e3
 subst e1 e3
 obtain ⟨_, _, hv, hwc, hwm, hwcell⟩ := hws.int
 injection hv with e1 e2 e3
 subst e1 e3
 refine ok_enter Tryz.func55 rfl Tryz.ntmps55 rfl ?_
 (refine gV ?_; refine gw_boxd (v := .agg _) rfl rfl (fun _ => ?_); refine gM ?_; refine gO ?_; refine gQ ?_; refine gV ?_; refine gF ?_; refine gW .here ?_; apply gw_d; exact w_call rfl rfl (fun w s => styleName_ok w _ hnm) rfl; apply gw_d; exact det_not_ rfl rfl rfl; refine gO ?_)
 refine gc_if rfl (fun h => ?_) (fun h => ?_)
 ·(refine gV ?_; refine gM ?_; refine gO ?_; refine gR ?_; refine gT ?_)
  refine gi1 (fun _ _ => ?_)
  unfold pieceE
  rw [if_neg (by simpa using h)]
 have hname : nameB p.name = true := by simpa using h
 have hgr : ∀ x : Int, (¬ p.grain = 1 ∧ ¬ p.grain = 2 ∧ ¬ p.grain = 4) → pieceE e p x = 1 := fun x h => by unfold pieceE; rw [if_pos hname, if_pos h]
 focus (refine gK ?_; refine gX ?_; refine gQ ?_; refine gV ?_; refine gF ?_; refine gW .here ?_; refine gC ?_; refine gM ?_; refine gD (fun _ => ?_) (fun _ => ?_); refine gF ?_; refine gW .here ?_; refine gC ?_; refine gPp ?_; refine gM ?_; refine gD (fun _ => ?_) (fun _ => ?_); refine gF ?_; refine gW .here ?_; refine gC ?_; refine gPp ?_; refine gO ?_; refine gc_if_dec rfl (fun _ => ?_) (fun _ => ?_); refine gV ?_; refine gM ?_; refine gO ?_; refine gR ?_; refine gT ?_; rotate_left; refine gK ?_; refine gX ?_; refine gQ ?_; refine gV ?_; refine gM ?_; refine gL ?_; refine gM ?_; refine gO ?_; refine gB ?_; rotate_left; (iterate 3 refine gU ?_); refine gPq ?_; refine gO ?_; refine gc_if_false rfl ?_; refine gK ?_; refine gX ?_; refine gQ ?_; refine gV ?_; refine gM ?_; refine gL ?_; refine gM ?_; refine gO ?_; refine gB ?_; rotate_left; (iterate 3 refine gU ?_); refine gPq ?_; refine gM ?_; (iterate 3 refine gU ?_); refine gPq ?_; refine gO ?_; refine gc_if_false rfl ?_; refine gK ?_; refine gX ?_; refine gQ ?_; refine gV ?_; refine gM ?_; refine gL ?_; refine gM ?_; refine gO ?_; refine gB ?_; rotate_left)
 ·refine gi1 (fun _ _ => ?_)
  rw [hgr _ ⟨by assumption, by assumption, by assumption⟩]
 all_goals
  have hgo : ¬ (¬ p.grain = 1 ∧ ¬ p.grain = 2 ∧ ¬ p.grain = 4) := by omega
  refine gc_loopK (σ := Nat) [33, 34, 35, 6, 36, 37, 38, 39, 40, 4, 41, 32] (fun k => [(32, .int .i64 k)]) (fun k => k ≤ e.length ∧ ((e.take k).any fun x => eqS x.name p.name) = false) (fun k => e.length - k) 0 ⟨Nat.zero_le _, rfl⟩ ⟨rfl, trivial⟩ ?_
  rintro k base ⟨hk, hI⟩
  (refine gV ?_; refine gC ?_; refine gO ?_; refine gQ ?_)
  refine gc_if_dec rfl (fun h => ?_) (fun h => ?_)
  ·have hlt : k < e.length := by omega
   obtain ⟨ad, _, hv, _, _, hb, hcell⟩ := he.at' 7 rfl (by omega)
   injection hv with e1 e2 e3
   subst e1 e3
   obtain ⟨cs, hce, _, _, _, _, _, _, _, _, rfl, _⟩ := hcell k hlt
   (refine gK ?_; refine gX ?_; refine gQ ?_; refine gB ?_; refine gV ?_; apply gw_d; exact w_index rfl rfl rfl rfl (by with_reducible exact rfl) (by omega); apply gw_d; exact w_load_elem rfl rfl rfl (by assumption) (by assumption) (by rfl); refine w_alloc rfl (fun _ => ?_); refine w_store_all rfl rfl rfl rfl rfl .here rfl ?_; refine gN ?_; refine gF ?_; refine gW .here ?_; refine gF ?_; refine gW (.there .here) ?_; apply gw_d; exact det_seq rfl rfl rfl rfl; refine gO ?_)
   refine gc_if rfl (fun h => ?_) (fun h => ?_)
   ·(refine gV ?_; refine gM ?_; refine gO ?_; refine gR ?_; refine gY ?_; (iterate 2 refine gT ?_); refine gY ?_; refine gT ?_)
    refine gi1 (fun _ _ => ?_)
    unfold pieceE
    rw [if_pos hname, if_neg hgo, if_pos (any_at hlt h)]
   ·(refine gK ?_; refine gH ?_; refine gX ?_; refine gG ?_; refine gA ?_; refine gM ?_; refine gw_nil ?_)
    exact gx_round (k + 1) ⟨by omega, take_any_snoc hlt hI h⟩ (by omega) kK ⟨rfl, trivial⟩ Sub.tail
  obtain rfl : k = e.length := by omega
  rw [List.take_length] at hI
  (refine gI ?_; (iterate 2 refine gZ ?_); refine gJ ?_; refine gX ?_; refine gQ ?_; refine gV ?_; apply gw_d; exact w_load_boxN rfl rfl rfl .here rfl)
  refine gw_callm rfl (fun w s => graded_ok w _ _ _ _ _ _ _ _ _ _ _ _ _ _ _ (hl.later s) (hcs.later s)) rfl (fun x => ?_)
  (refine gM ?_; apply gw_d; exact det_extract rfl rfl rfl (by conv => (lhs; whnf)); apply gw_d; exact det_extract rfl rfl rfl (by conv => (lhs; whnf)); (iterate 2 refine gM ?_); refine gN ?_; refine gM ?_; refine gC ?_; refine gO ?_)
  refine gc_if_dec rfl (fun h => ?_) (fun h => ?_)
  ·(refine gV ?_; (iterate 2 refine gM ?_); refine gO ?_; refine gR ?_; refine gT ?_)
   refine gi1 (fun _ _ => ?_)
   unfold pieceE
   rw [if_pos hname, if_neg hgo, if_neg (by rw [hI]; decide), if_pos h]
  have h0 : gradedE p.edges p.corners = 0 := by simpa using h
  rw [if_pos h0]
  refine gc_ent (K := [Box _ _ _]) (Sub.ent (.cons (.there .here) .nil)) ?_
  (refine gK ?_; refine gX ?_; refine gQ ?_; refine gV ?_; apply gw_d; exact w_load_boxN rfl rfl rfl .here rfl)
  refine gw_callm rfl (fun w s => Placed_ok w _ _ _ _ _ _ _ _ _ _ _ _ _ _ _ (hl.later s) (hns.later s) (hcs.later s)) rfl (fun y => ?_)
  (refine gM ?_; apply gw_d; exact det_extract rfl rfl rfl (by conv => (lhs; whnf)); apply gw_d; exact det_extract rfl rfl rfl (by conv => (lhs; whnf)); (iterate 2 refine gM ?_); refine gN ?_; refine gM ?_; refine gC ?_; refine gO ?_)
  refine gc_if_dec rfl (fun h => ?_) (fun h => ?_)
  ·(refine gV ?_; (iterate 2 refine gM ?_); refine gO ?_; refine gR ?_; refine gT ?_)
   refine gi1 (fun _ _ => ?_)
   unfold pieceE
   rw [if_pos hname, if_neg hgo, if_neg (by rw [hI]; decide), if_neg (by rw [h0]; decide), if_pos h]
  have hp0 : placedE p.edges p.corners p.notches = 0 := by simpa using h
  (refine gK ?_; refine gX ?_; refine gQ ?_; refine gV ?_; refine gF ?_; refine gW .here ?_; refine gL ?_; refine gF ?_; refine gW .here ?_; refine gL ?_; refine gC ?_; refine gO ?_)
  refine gc_if_dec rfl (fun h => ?_) (fun h => ?_)
  ·(refine gV ?_; refine gM ?_; refine gO ?_; refine gR ?_; refine gT ?_)
   refine gi1 (fun _ _ => ?_)
   unfold pieceE
   rw [if_pos hname, if_neg hgo, if_neg (by rw [hI]; decide), if_neg (by rw [h0]; decide), if_neg (by rw [hp0]; decide), if_pos (by omega)]
  (refine gK ?_; refine gX ?_; refine gQ ?_; refine gV ?_; refine gF ?_; refine gW .here ?_; refine gL ?_; refine gM ?_; refine gO ?_; refine gB ?_)
  refine gc_loopK (σ := Nat) [69, 70, 71, 12, 72, 73, 74, 75, 76, 77, 4, 78, 68] (fun k => [(68, .int .i64 k)]) (fun k => k ≤ p.widths.length ∧ (p.widths.take k).any wideB = false) (fun k => p.widths.length - k) 0 ⟨Nat.zero_le _, rfl⟩ ⟨rfl, trivial⟩ ?_
  rintro k base2 ⟨hk, hJ⟩
  (refine gV ?_; refine gC ?_; refine gO ?_; refine gQ ?_)
  refine gc_if_dec rfl (fun h => ?_) (fun h => ?_)
  ·have hlt : k < p.widths.length := by omega
   obtain ⟨ad, rfl, hb, hce, _⟩ := hwcell k hlt
   focus (refine gK ?_; refine gX ?_; refine gQ ?_; refine gB ?_; refine gV ?_; apply gw_d; exact w_index rfl rfl rfl rfl (by with_reducible exact rfl) (by omega); apply gw_d; exact w_load_at rfl rfl rfl (by assumption) (by assumption); refine gM ?_; refine gN ?_; refine gM ?_; refine gC ?_; refine gM ?_; refine gD (fun _ => ?_) (fun _ => ?_); (iterate 2 refine gU ?_); refine gPp ?_; refine gO ?_; refine gc_if_true rfl ?_; refine gV ?_; refine gM ?_; refine gO ?_; refine gR ?_; refine gY ?_; (iterate 2 refine gT ?_); refine gY ?_; refine gT ?_; rotate_left; refine gM ?_; refine gC ?_; refine gPq ?_; refine gO ?_; refine gc_if_dec rfl (fun _ => ?_) (fun _ => ?_); refine gV ?_; refine gM ?_; refine gO ?_; refine gR ?_; refine gY ?_; (iterate 2 refine gT ?_); refine gY ?_; refine gT ?_; rotate_left; refine gK ?_; refine gH ?_; refine gX ?_; refine gG ?_; refine gA ?_; refine gM ?_; refine gw_nil ?_; rotate_left)
   ·refine gi1 (fun _ _ => ?_)
    unfold pieceE
    rw [if_pos hname, if_neg hgo, if_neg (by rw [hI]; decide), if_neg (by rw [h0]; decide), if_neg (by rw [hp0]; decide), if_neg (by omega), if_pos (any_at hlt (by unfold wideB; simp only [Bool.or_eq_true, decide_eq_true_eq]; left; assumption))]
   ·refine gi1 (fun _ _ => ?_)
    unfold pieceE
    rw [if_pos hname, if_neg hgo, if_neg (by rw [hI]; decide), if_neg (by rw [h0]; decide), if_neg (by rw [hp0]; decide), if_neg (by omega), if_pos (any_at hlt (by unfold wideB; simp only [Bool.or_eq_true, decide_eq_true_eq]; right; assumption))]
   ·exact gx_round (k + 1) ⟨by omega, take_any_snoc hlt hJ (by unfold wideB; simp only [Bool.or_eq_false_iff, decide_eq_false_iff_not]; constructor <;> assumption)⟩ (by omega) kK ⟨rfl, trivial⟩ (Sub.all _)
  obtain rfl : k = p.widths.length := by omega
  rw [List.take_length] at hJ
  (refine gI ?_; (iterate 2 refine gZ ?_); refine gJ ?_; refine gX ?_; refine gV ?_; refine gM ?_; refine gO ?_; refine gR ?_)
  refine gi1 (fun _ _ => ?_)
  unfold pieceE
  rw [if_pos hname, if_neg hgo, if_neg (by rw [hI]; decide), if_neg (by rw [h0]; decide), if_neg (by rw [hp0]; decide), if_neg (by omega), if_neg (by rw [hJ]; decide)]
structure Opn where
 name : ByteArray
 machine : Int
 minutes : Int
 after : List Int
 uses : List Int
abbrev Use := Int × Int × Bool
abbrev Seam := Int × Int × Int × Int × Bool × Int
structure Sty where
 name : ByteArray
 sizes : List ByteArray
 multiples : List Int
 pieces : List Pc
 uses : List Use
 seams : List Seam
 ops : List Opn

def rUse : Rp Use where
 size := 3
 rep _ _ u cs := cs = [.int .i64 u.1, .int .i64 u.2.1, .bool u.2.2] ∧ inI64 u.1 ∧ inI64 u.2.1
 len h := by rw [h.1]; rfl
 mono _ h := h
 grow _ h := h
def rSeam : Rp Seam where
 size := 6
 rep _ _ u cs := cs = [.int .i64 u.1, .int .i64 u.2.1, .int .i64 u.2.2.1, .int .i64 u.2.2.2.1, .bool u.2.2.2.2.1, .int .i64 u.2.2.2.2.2]
 len h := by rw [h]; rfl
 mono _ h := h
 grow _ h := h
def rOp : Rp Opn where
 size := 5
 rep w S o cs := ∃ Aa ca Au cu, cs = [.string o.name, .int .i64 o.machine, .int .i64 o.minutes, .slice Aa o.after.length ca, .slice Au o.uses.length cu] ∧ (o.name.size ≤ maxLen ∧ inI64 o.machine ∧ inI64 o.minutes) ∧
  SlS rInt w S (.slice Aa o.after.length ca) o.after ∧ SlS rInt w S (.slice Au o.uses.length cu) o.uses
 len h := by obtain ⟨_, _, _, _, rfl, _⟩ := h; rfl
 mono hb h := by obtain ⟨Aa, ca, Au, cu, h0, h1, h2, h3⟩ := h; exact ⟨Aa, ca, Au, cu, h0, h1, h2.mono hb, h3.mono hb⟩
 grow hb h := by obtain ⟨Aa, ca, Au, cu, h0, h1, h2, h3⟩ := h; exact ⟨Aa, ca, Au, cu, h0, h1, h2.grow hb, h3.grow hb⟩

def StyV (w : World) (B : Nat) (v : Value) (s : Sty) : Prop := ∃ As cs Am cm Ap cp Au cu Ae ce Ao co, v = .agg #[.string s.name, .slice As s.sizes.length cs, .slice Am s.multiples.length cm, .slice Ap s.pieces.length cp, .slice Au s.uses.length cu, .slice Ae s.seams.length ce, .slice Ao s.ops.length co] ∧
 s.name.size ≤ maxLen ∧ Sl rStr w B (.slice As s.sizes.length cs) s.sizes ∧ Sl rInt w B (.slice Am s.multiples.length cm) s.multiples ∧ Sl rPiece w B (.slice Ap s.pieces.length cp) s.pieces ∧ Sl rUse w B (.slice Au s.uses.length cu) s.uses ∧
 Sl rSeam w B (.slice Ae s.seams.length ce) s.seams ∧ Sl rOp w B (.slice Ao s.ops.length co) s.ops
theorem StyV.later {w0 w : World} {L : List Res} {v : Value} {x : Sty} (s : St w0 L w) (h : StyV w0 w0.heap.size v x) : StyV w w.heap.size v x := by
 obtain ⟨As, cs, Am, cm, Ap, cp, Au, cu, Ae, ce, Ao, co, h0, h1, h2, h3, h4, h5, h6, h7⟩ := h
 exact ⟨As, cs, Am, cm, Ap, cp, Au, cu, Ae, ce, Ao, co, h0, h1, h2.later s, h3.later s, h4.later s, h5.later s, h6.later s, h7.later s⟩

section
variable {P : Program} {Q : Exit → Act → World → Prop} {N : Nat} {w0 : World} {L : List Res} {e : Env} {r : Res}
/-- A loop that turns the first of what is owned. -/
theorem gc_loop1 {σ : Type} {c : Code} (wr : List Nat) (S : σ → List (Nat × Value)) (R : σ → Res) (I : σ → Prop) (μ : σ → Nat) (s0 : σ) (hI : I s0) (hA : Ats (S s0) e) (hr : r = R s0)
  (round : ∀ s base, I s → GC P (Exit.then (Rnd N w0 wr e S (fun s => R s :: L) I μ (μ s)) Q) N w0 (R s :: L) c (sets (S s) (havoc wr e base))) : GC P Q N w0 (r :: L) (.loop c) e := by
 subst hr
 exact gc_loop wr S (fun s => R s :: L) I μ s0 hI hA (Sub.all _) round
theorem strLawC {kt : Nat} [CIsStr P kt] : KeyLaw P kt kStr := strLaw (by
 have h := CIsStr.h (P := P) (t := kt)
 unfold isStringT at h
 split at h
 ·assumption
 ·cases h)
theorem intLawC {kt : Nat} [CInt P kt .i64] : KeyLaw P kt kInt := intLaw (by
 have h := CInt.h (P := P) (t := kt) (k := .i64)
 unfold intKindB at h
 split at h
 ·injection h with h; subst h; assumption
 ·cases h)
end

section
variable {κ : Type} [DecidableEq κ]
def setM (l : List κ) : List (κ × Value) := l.foldl (fun m k => aset m k (.bool true)) []
theorem setM_snoc (l : List κ) (k : κ) : setM (l ++ [k]) = aset (setM l) k (.bool true) := by
 unfold setM
 rw [List.foldl_append]
 rfl
theorem setM_get (l : List κ) (k : κ) : aget (setM l) k = if k ∈ l then some (.bool true) else none := by
 suffices h : ∀ (r : List κ), aget (setM r.reverse) k = if k ∈ r.reverse then some (.bool true) else none by
  have := h l.reverse
  rwa [List.reverse_reverse] at this
 intro r
 induction r with
 | nil => rfl
 | cons x r ih =>
  rw [List.reverse_cons, setM_snoc, aget_aset, ih]
  by_cases hx : x = k
  ·subst hx; simp
  ·have : ¬ k = x := fun h => hx h.symm
   simp [hx, this]
def hasB (l : List κ) (k : κ) : Bool := l.any fun x => decide (x = k)
theorem hasB_iff {l : List κ} {k : κ} : hasB l k = true ↔ k ∈ l := by
 unfold hasB
 rw [List.any_eq_true]
 constructor
 ·rintro ⟨x, hx, h⟩
  rw [decide_eq_true_eq] at h
  exact h ▸ hx
 ·intro h
  exact ⟨k, h, by simp⟩
theorem setM_has (l : List κ) (k : κ) : ((aget (setM l) k).getD (.bool false)) = .bool (hasB l k) := by
 rw [setM_get]
 by_cases h : k ∈ l
 ·rw [if_pos h, hasB_iff.2 h]; rfl
 ·have : hasB l k = false := by rw [← Bool.not_eq_true, hasB_iff]; exact h
  rw [if_neg h, this]; rfl
end
def dupL {κ : Type} [DecidableEq κ] (l : List κ) (n : Nat) : Bool := (List.range n).any fun i => match l[i]? with | some x => hasB (l.take i) x | none => false
theorem dupL_snoc {κ : Type} [DecidableEq κ] {l : List κ} {k : Nat} (hk : k < l.length) (h : dupL l k = false) (hx : hasB (l.take k) l[k] = false) : dupL l (k + 1) = false := by
 unfold dupL at *
 exact range_any_snoc h (by rw [List.getElem?_eq_getElem hk]; exact hx)
theorem dupL_yes {κ : Type} [DecidableEq κ] {l : List κ} {k : Nat} (hk : k < l.length) (hx : hasB (l.take k) l[k] = true) : dupL l l.length = true := by
 unfold dupL
 exact range_any_no hk (by rw [List.getElem?_eq_getElem hk]; exact hx)

def farM (n : Int) : Bool := decide (n < -100) || decide (n > 100)
def wholeE (s : Sty) : Int := if ¬ nameB s.name = true ∨ s.sizes.length = 0 then 1 else if (s.sizes.any fun x => !sizeB' x) = true then 1 else if ¬ s.multiples.length = s.sizes.length ∨ s.multiples.any (isI 0) = false then 1 else if dupL s.sizes s.sizes.length = true then 7 else
 if s.sizes.length > 12 ∨ s.pieces.length > 12 ∨ s.uses.length > 12 then 5 else if s.seams.length > 24 ∨ s.ops.length > 16 then 5 else if s.multiples.any farM = true then 3 else 0

theorem Sl.str' {w : World} {B : Nat} {v : Value} {l : List ByteArray} (h : Sl rStr w B v l) : ∃ A c, v = .slice A l.length c ∧ l.length ≤ c ∧ l.length ≤ 9223372036854775807 ∧
  ∀ k (hk : k < l.length), ∃ ad, A = some ad ∧ ad.block < B ∧ w.cell? (ad.add (k * 1)) = some (.string l[k]) ∧ l[k].size ≤ 9223372036854775807 := by
 obtain ⟨A, c, hv, h1, h2, h3⟩ := h
 refine ⟨A, c, hv, h1, by unfold maxLen at h2; omega, fun k hk => ?_⟩
 obtain ⟨ad, cs, ha, hlt, hc, hr⟩ := h3 k hk
 obtain ⟨rfl, hr⟩ := hr
 exact ⟨ad, ha, hlt, hc 0 _ rfl, by unfold maxLen at hr; omega⟩

theorem whole_ok (w : World) (v : Value) (s : Sty) (hs : StyV w w.heap.size v s) : Ok Tryz.prog 54 [v].toArray w fun r _ => r = .int .i64 (wholeE s) := by
 obtain ⟨As, cs, Am, cm, Ap, cp, Au, cu, Ae, ce, Ao, co, rfl, hnm, h1, h2, h3, h4, h5, h6⟩ := hs
 unfold maxLen at hnm
 obtain ⟨_, _, hv, hsc, hsm, hscell⟩ := h1.str'
 injection hv with e1 e2 e3
 subst e1 e3
 obtain ⟨_, _, hv, hmc, hmm, hmcell⟩ := h2.int
 injection hv with e1 e2 e3
 subst e1 e3
 refine ok_enter Tryz.func54 rfl Tryz.ntmps54 rfl ?_
 focus (refine gV ?_; refine gw_boxd (v := .agg _) rfl rfl (fun _ => ?_); refine gM ?_; refine gO ?_; refine gQ ?_; refine gV ?_; refine gF ?_; refine gW .here ?_; apply gw_d; exact w_call rfl rfl (fun w s => styleName_ok w _ (by omega)) rfl; apply gw_d; exact det_not_ rfl rfl rfl; refine gM ?_; refine gw_guard rfl rfl (fun _ => ?_) (fun _ => ?_); (iterate 4 refine gU ?_); refine gPp ?_; refine gO ?_; refine gc_if_true rfl ?_; refine gV ?_; refine gM ?_; refine gO ?_; refine gR ?_; refine gT ?_; rotate_left; refine gF ?_; refine gW .here ?_; refine gL ?_; refine gC ?_; refine gPq ?_; refine gO ?_; refine gc_if_dec rfl (fun _ => ?_) (fun _ => ?_); refine gV ?_; refine gM ?_; refine gO ?_; refine gR ?_; refine gT ?_; rotate_left; refine gK ?_; refine gX ?_; refine gQ ?_; refine gV ?_; refine gF ?_; refine gW .here ?_; refine gL ?_; refine gM ?_; refine gO ?_; refine gB ?_; rotate_left)
 ·refine gi1 (fun _ _ => ?_)
  unfold wholeE
  rename_i h _ _
  rw [if_pos (.inl (by simpa using h))]
 ·refine gi1 (fun _ _ => ?_)
  unfold wholeE
  rw [if_pos (.inr (by omega))]
 have hN : ¬ (¬ nameB s.name = true ∨ s.sizes.length = 0) := fun h => by
  rcases h with h | h
  ·simp_all
  ·omega
 refine gc_loopK (σ := Nat) [24, 25, 26, 4, 27, 28, 29, 2, 30, 23] (fun k => [(23, .int .i64 k)]) (fun k => k ≤ s.sizes.length ∧ ((s.sizes.take k).any fun x => !sizeB' x) = false) (fun k => s.sizes.length - k) 0 ⟨Nat.zero_le _, rfl⟩ ⟨rfl, trivial⟩ ?_
 rintro k base ⟨hk, hI⟩
 (refine gV ?_; refine gC ?_; refine gO ?_; refine gQ ?_)
 refine gc_if_dec rfl (fun h => ?_) (fun h => ?_)
 ·have hlt : k < s.sizes.length := by omega
  obtain ⟨ad, rfl, hb, hce, hsz⟩ := hscell k hlt
  (refine gK ?_; refine gX ?_; refine gQ ?_; refine gB ?_; refine gV ?_; apply gw_d; exact w_index rfl rfl rfl rfl (by with_reducible exact rfl) (by omega); apply gw_d; exact w_load_at rfl rfl rfl (by assumption) (by assumption); refine gM ?_; refine gN ?_; refine gM ?_; apply gw_d; exact w_call rfl rfl (fun w s => styleSize_ok w _ hsz) rfl; apply gw_d; exact det_not_ rfl rfl rfl; refine gO ?_)
  refine gc_if rfl (fun h => ?_) (fun h => ?_)
  ·(refine gV ?_; refine gM ?_; refine gO ?_; refine gR ?_; refine gY ?_; (iterate 2 refine gT ?_); refine gY ?_; refine gT ?_)
   refine gi1 (fun _ _ => ?_)
   unfold wholeE
   rw [if_neg hN, if_pos (any_at hlt h)]
  ·(refine gK ?_; refine gH ?_; refine gX ?_; refine gG ?_; refine gA ?_; refine gM ?_; refine gw_nil ?_)
   exact gx_round (k + 1) ⟨by omega, take_any_snoc hlt hI h⟩ (by omega) kK ⟨rfl, trivial⟩ (Sub.all _)
 obtain rfl : k = s.sizes.length := by omega
 rw [List.take_length] at hI
 focus (refine gI ?_; (iterate 2 refine gZ ?_); refine gJ ?_; refine gX ?_; refine gQ ?_; refine gV ?_; refine gF ?_; refine gW .here ?_; refine gL ?_; refine gF ?_; refine gW .here ?_; refine gL ?_; refine gC ?_; refine gM ?_; refine gD (fun _ => ?_) (fun _ => ?_); (iterate 4 refine gU ?_); refine gPp ?_; refine gO ?_; refine gc_if_true rfl ?_; refine gV ?_; refine gM ?_; refine gO ?_; refine gR ?_; refine gT ?_; rotate_left; refine gF ?_; refine gW .here ?_; apply gw_d; exact w_call rfl rfl (fun w s' => containsInt_ok w _ s.multiples _ (h2.later s')) rfl; apply gw_d; exact det_not_ rfl rfl rfl; refine gPq ?_; refine gO ?_; refine gc_if rfl (fun _ => ?_) (fun _ => ?_); refine gV ?_; refine gM ?_; refine gO ?_; refine gR ?_; refine gT ?_; rotate_left; refine gK ?_; refine gX ?_; refine gV ?_; rotate_left)
 ·refine gi1 (fun _ _ => ?_)
  unfold wholeE
  rw [if_neg hN, if_neg (by rw [hI]; decide), if_pos (.inl (by omega))]
 ·refine gi1 (fun _ _ => ?_)
  unfold wholeE
  rename_i h _ _
  rw [if_neg hN, if_neg (by rw [hI]; decide), if_pos (.inr (by simpa using h))]
 have hM : ¬ (¬ s.multiples.length = s.sizes.length ∨ s.multiples.any (isI 0) = false) := fun h => by
  rcases h with h | h
  ·omega
  ·simp_all
 refine gw_makeMap (kStr) rfl (fun bm => ?_)
 (refine gM ?_; refine gO ?_; refine gQ ?_; refine gV ?_; refine gF ?_; refine gW (.there .here) ?_; refine gL ?_; refine gM ?_; refine gO ?_; refine gB ?_)
 refine gc_loop1 (σ := Nat) [49, 50, 51, 7, 52, 53, 54, 2, 55, 56, 57, 48] (fun k => [(48, .int .i64 k)]) (fun k => MapR bm kStr (setM (s.sizes.take k))) (fun k => k ≤ s.sizes.length ∧ dupL s.sizes k = false) (fun k => s.sizes.length - k) 0 ⟨Nat.zero_le _, rfl⟩ ⟨rfl, trivial⟩ rfl ?_
 rintro k base2 ⟨hk, hJ⟩
 (refine gV ?_; refine gC ?_; refine gO ?_; refine gQ ?_)
 refine gc_if_dec rfl (fun h => ?_) (fun h => ?_)
 ·have hlt : k < s.sizes.length := by omega
  obtain ⟨ad, rfl, hb, hce, hsz⟩ := hscell k hlt
  (refine gK ?_; refine gX ?_; refine gQ ?_; refine gB ?_; refine gV ?_; apply gw_d; exact w_index rfl rfl rfl rfl (by with_reducible exact rfl) (by omega); apply gw_d; exact w_load_at rfl rfl rfl (by assumption) (by assumption); refine gM ?_; refine gO ?_; refine gQ ?_; refine gV ?_; (iterate 2 refine gM ?_); apply gw_d; exact det_eq (w_lookup strLawC rfl rfl rfl rfl .here) (setM_has _ _); refine gO ?_)
  refine gc_if rfl (fun h => ?_) (fun h => ?_)
  ·(refine gV ?_; refine gM ?_; refine gO ?_; refine gR ?_; refine gT ?_; refine gY ?_; (iterate 2 refine gT ?_); refine gY ?_; refine gT ?_)
   refine gi1 (fun _ _ => ?_)
   unfold wholeE
   rw [if_neg hN, if_neg (by rw [hI]; decide), if_neg hM, if_pos (dupL_yes hlt h)]
  ·(refine gK ?_; refine gX ?_; refine gG ?_; (iterate 2 refine gM ?_))
   refine gw_mapSet (k := s.sizes[k]) (v := .bool true) strLawC rfl rfl rfl rfl .here ?_
   rw [← setM_snoc, ← List.take_succ_eq_append_getElem hlt]
   (refine gw_nil ?_; refine gH ?_; refine gX ?_; refine gG ?_; refine gA ?_; refine gM ?_; refine gw_nil ?_)
   exact gx_round (k + 1) ⟨by omega, dupL_snoc hlt hJ h⟩ (by omega) kK ⟨rfl, trivial⟩ (Sub.all _)
 obtain rfl : k = s.sizes.length := by omega
 obtain ⟨_, _, hv, hpc, hpm⟩ := len_small h3
 injection hv with e1 e2 e3
 subst e1 e3
 obtain ⟨_, _, hv, huc, hum⟩ := len_small h4
 injection hv with e1 e2 e3
 subst e1 e3
 obtain ⟨_, _, hv, hec, hem⟩ := len_small h5
 injection hv with e1 e2 e3
 subst e1 e3
 obtain ⟨_, _, hv, hoc, hom⟩ := len_small h6
 injection hv with e1 e2 e3
 subst e1 e3
 have hD : ¬ dupL s.sizes s.sizes.length = true := by rw [hJ]; decide
 have hS : ¬ (s.sizes.any fun x => !sizeB' x) = true := by rw [hI]; decide
 have h5e : (s.sizes.length > 12 ∨ s.pieces.length > 12 ∨ s.uses.length > 12) ∨ (s.seams.length > 24 ∨ s.ops.length > 16) → wholeE s = 5 := fun h => by
  unfold wholeE
  rw [if_neg hN, if_neg hS, if_neg hM, if_neg hD]
  rcases h with h | h
  ·exact if_pos h
  ·split
   all_goals first | rfl | exact if_pos h
 focus (refine gI ?_; (iterate 2 refine gZ ?_); refine gJ ?_; refine gX ?_; refine gQ ?_; refine gV ?_; refine gF ?_; refine gW (.there .here) ?_; refine gL ?_; refine gC ?_; refine gM ?_; refine gD (fun _ => ?_) (fun _ => ?_); (iterate 4 refine gU ?_); refine gPp ?_; refine gM ?_; (iterate 4 refine gU ?_); refine gPp ?_; refine gO ?_; refine gc_if_true rfl ?_; refine gV ?_; refine gM ?_; refine gO ?_; refine gR ?_; refine gT ?_; rotate_left; refine gF ?_; refine gW (.there .here) ?_; refine gL ?_; refine gC ?_; refine gPq ?_; refine gM ?_; refine gD (fun _ => ?_) (fun _ => ?_); (iterate 4 refine gU ?_); refine gPp ?_; refine gO ?_; refine gc_if_true rfl ?_; refine gV ?_; refine gM ?_; refine gO ?_; refine gR ?_; refine gT ?_; rotate_left; refine gF ?_; refine gW (.there .here) ?_; refine gL ?_; refine gC ?_; refine gPq ?_; refine gO ?_; refine gc_if_dec rfl (fun _ => ?_) (fun _ => ?_); refine gV ?_; refine gM ?_; refine gO ?_; refine gR ?_; refine gT ?_; rotate_left; refine gK ?_; refine gX ?_; refine gQ ?_; refine gV ?_; refine gF ?_; refine gW (.there .here) ?_; refine gL ?_; refine gC ?_; refine gM ?_; refine gD (fun _ => ?_) (fun _ => ?_); (iterate 4 refine gU ?_); refine gPp ?_; refine gO ?_; refine gc_if_true rfl ?_; refine gV ?_; refine gM ?_; refine gO ?_; refine gR ?_; refine gT ?_; rotate_left; refine gF ?_; refine gW (.there .here) ?_; refine gL ?_; refine gC ?_; refine gPq ?_; refine gO ?_; refine gc_if_dec rfl (fun _ => ?_) (fun _ => ?_); refine gV ?_; refine gM ?_; refine gO ?_; refine gR ?_; refine gT ?_; rotate_left; refine gK ?_; refine gX ?_; refine gQ ?_; refine gV ?_; refine gF ?_; refine gW (.there .here) ?_; refine gL ?_; refine gM ?_; refine gO ?_; refine gB ?_; rotate_left)
 ·refine gi1 (fun _ _ => ?_)
  rw [h5e (by omega)]
 ·refine gi1 (fun _ _ => ?_)
  rw [h5e (by omega)]
 ·refine gi1 (fun _ _ => ?_)
  rw [h5e (by omega)]
 ·refine gi1 (fun _ _ => ?_)
  rw [h5e (by omega)]
 ·refine gi1 (fun _ _ => ?_)
  rw [h5e (by omega)]
 refine gc_loopK (σ := Nat) [88, 89, 90, 9, 91, 92, 93, 94, 95, 96, 2, 97, 87] (fun k => [(87, .int .i64 k)]) (fun k => k ≤ s.multiples.length ∧ (s.multiples.take k).any farM = false) (fun k => s.multiples.length - k) 0 ⟨Nat.zero_le _, rfl⟩ ⟨rfl, trivial⟩ ?_
 rintro k base3 ⟨hk3, hF⟩
 (refine gV ?_; refine gC ?_; refine gO ?_; refine gQ ?_)
 refine gc_if_dec rfl (fun h => ?_) (fun h => ?_)
 ·have hlt : k < s.multiples.length := by omega
  obtain ⟨ad, rfl, hb, hce, _⟩ := hmcell k hlt
  focus (refine gK ?_; refine gX ?_; refine gQ ?_; refine gB ?_; refine gV ?_; apply gw_d; exact w_index rfl rfl rfl rfl (by with_reducible exact rfl) (by omega); apply gw_d; exact w_load_at rfl rfl rfl (by assumption) (by assumption); refine gM ?_; refine gN ?_; refine gM ?_; refine gC ?_; refine gM ?_; refine gD (fun _ => ?_) (fun _ => ?_); (iterate 2 refine gU ?_); refine gPp ?_; refine gO ?_; refine gc_if_true rfl ?_; refine gV ?_; refine gM ?_; refine gO ?_; refine gR ?_; refine gY ?_; (iterate 2 refine gT ?_); refine gY ?_; refine gT ?_; rotate_left; refine gM ?_; refine gC ?_; refine gPq ?_; refine gO ?_; refine gc_if_dec rfl (fun _ => ?_) (fun _ => ?_); refine gV ?_; refine gM ?_; refine gO ?_; refine gR ?_; refine gY ?_; (iterate 2 refine gT ?_); refine gY ?_; refine gT ?_; rotate_left; refine gK ?_; refine gH ?_; refine gX ?_; refine gG ?_; refine gA ?_; refine gM ?_; refine gw_nil ?_; rotate_left)
  ·refine gi1 (fun _ _ => ?_)
   unfold wholeE
   rw [if_neg hN, if_neg hS, if_neg hM, if_neg hD, if_neg (by omega), if_neg (by omega), if_pos (any_at hlt (by unfold farM; simp only [Bool.or_eq_true, decide_eq_true_eq]; left; assumption))]
  ·refine gi1 (fun _ _ => ?_)
   unfold wholeE
   rw [if_neg hN, if_neg hS, if_neg hM, if_neg hD, if_neg (by omega), if_neg (by omega), if_pos (any_at hlt (by unfold farM; simp only [Bool.or_eq_true, decide_eq_true_eq]; right; assumption))]
  ·exact gx_round (k + 1) ⟨by omega, take_any_snoc hlt hF (by unfold farM; simp only [Bool.or_eq_false_iff, decide_eq_false_iff_not]; constructor <;> assumption)⟩ (by omega) kK ⟨rfl, trivial⟩ (Sub.all _)
 obtain rfl : k = s.multiples.length := by omega
 rw [List.take_length] at hF
 (refine gI ?_; (iterate 2 refine gZ ?_); refine gJ ?_; refine gX ?_; refine gV ?_; refine gM ?_; refine gO ?_; refine gR ?_)
 refine gi1 (fun _ _ => ?_)
 unfold wholeE
 rw [if_neg hN, if_neg hS, if_neg hM, if_neg hD, if_neg (by omega), if_neg (by omega), if_neg (by rw [hF]; decide)]

def isEdgeB (s : Sty) (p e : Int) : Bool := decide (0 ≤ p) && decide (p < s.pieces.length) && decide (0 ≤ e) && decide (e < (((s.pieces[p.toNat]?).map (·.edges.length)).getD 0 : Nat))
theorem isEdge_ok (w : World) (v : Value) (s : Sty) (p e : Int) (hs : StyV w w.heap.size v s) : Ok Tryz.prog 56 [v, .int .i64 p, .int .i64 e].toArray w fun r _ => r = .bool (isEdgeB s p e) := by
 obtain ⟨As, cs, Am, cm, Ap, cp, Au, cu, Ae, ce, Ao, co, rfl, hnm, h1, h2, h3, h4, h5, h6⟩ := hs
 obtain ⟨_, _, hv, hpc, hpm⟩ := len_small h3
 injection hv with e1 e2 e3
 subst e1 e3
 by_cases hp : 0 ≤ p ∧ p < (s.pieces.length : Int)
 ·obtain ⟨k, rfl⟩ : ∃ k : Nat, p = k := ⟨p.toNat, by omega⟩
  have hk : k < s.pieces.length := by omega
  obtain ⟨ad, _, hv, _, _, hb, hcell⟩ := h3.at' 7 rfl (by omega)
  injection hv with e1 e2 e3
  subst e1 e3
  obtain ⟨cs, hce, Ae', ce', _, _, _, _, _, _, rfl, _, hed, _⟩ := hcell k hk
  have hce1 := hce 1 _ rfl
  have hg : isEdgeB s k e = (decide (0 ≤ e) && decide (e < s.pieces[k].edges.length)) := by
   unfold isEdgeB
   rw [Int.toNat_natCast, List.getElem?_eq_getElem hk]
   have h1 : (0 : Int) ≤ (k : Int) := by omega
   simp [h1, hp.2]
  rw [hg]
  refine ok_enter Tryz.func56 rfl Tryz.ntmps56 rfl ?_
  focus (refine gV ?_; refine gw_boxd (v := .agg _) rfl rfl (fun _ => ?_); refine gM ?_; refine gN ?_; refine gM ?_; refine gC ?_; (iterate 2 refine gM ?_); refine gF ?_; refine gW .here ?_; refine gL ?_; refine gC ?_; refine gPp ?_; refine gM ?_; refine gD (fun _ => ?_) (fun _ => ?_); refine gM ?_; refine gC ?_; refine gPp ?_; refine gM ?_; refine gD (fun _ => ?_) (fun _ => ?_); refine gM ?_; refine gF ?_; refine gW .here ?_; refine gM ?_; apply gw_d; exact w_index rfl rfl rfl rfl (by with_reducible exact rfl) (by omega); refine gF ?_; apply gw_d; exact w_load_fld rfl rfl rfl (by assumption) (by assumption); refine gL ?_; refine gC ?_; refine gPp ?_; refine gM ?_; refine gO ?_; refine gR ?_; rotate_left; (iterate 9 refine gU ?_); refine gPq ?_; refine gM ?_; refine gO ?_; refine gR ?_; rotate_left; (iterate 2 refine gU ?_); refine gPq ?_; refine gM ?_; (iterate 9 refine gU ?_); refine gPq ?_; refine gM ?_; refine gO ?_; refine gR ?_; rotate_left)
  all_goals first | (exfalso; omega) | (refine gb1 (fun _ _ => ?_); simp [*])
 ·have hg : isEdgeB s p e = false := by
   unfold isEdgeB
   by_cases h1 : 0 ≤ p
   ·have h2 : ¬ p < (s.pieces.length : Int) := fun h => hp ⟨h1, h⟩
    simp [h2]
   ·simp [h1]
  rw [hg]
  refine ok_enter Tryz.func56 rfl Tryz.ntmps56 rfl ?_
  focus (refine gV ?_; refine gw_boxd (v := .agg _) rfl rfl (fun _ => ?_); refine gM ?_; refine gN ?_; refine gM ?_; refine gC ?_; refine gM ?_; refine gD (fun _ => ?_) (fun _ => ?_); refine gM ?_; refine gF ?_; refine gW .here ?_; refine gL ?_; refine gC ?_; refine gPp ?_; refine gM ?_; refine gD (fun _ => ?_) (fun _ => ?_); refine gM ?_; refine gC ?_; refine gPp ?_; refine gM ?_; refine gD (fun _ => ?_) (fun _ => ?_); refine gM ?_; refine gF ?_; refine gW .here ?_; refine gM ?_; rotate_left; (iterate 9 refine gU ?_); refine gPq ?_; refine gM ?_; refine gO ?_; refine gR ?_; rotate_left; (iterate 2 refine gU ?_); refine gPq ?_; refine gM ?_; (iterate 9 refine gU ?_); refine gPq ?_; refine gM ?_; refine gO ?_; refine gR ?_; rotate_left; (iterate 5 refine gU ?_); refine gPq ?_; refine gM ?_; (iterate 2 refine gU ?_); refine gPq ?_; refine gM ?_; (iterate 9 refine gU ?_); refine gPq ?_; refine gM ?_; refine gO ?_; refine gR ?_; rotate_left)
  all_goals first | (exfalso; omega) | (refine gb1 (fun _ _ => ?_); rfl)
def areIx (l : List Int) (n : Int) : Bool := l.all fun i => decide (0 ≤ i) && decide (i < n)
theorem areIx_no {l : List Int} {n : Int} {k : Nat} (hk : k < l.length) (h : l[k] < 0 ∨ l[k] ≥ n) : areIx l n = false := by
 unfold areIx
 rw [List.all_eq_false]
 exact ⟨l[k], List.getElem_mem hk, by simp; omega⟩
theorem areIx_snoc {l : List Int} {n : Int} {k : Nat} (hk : k < l.length) (hI : areIx (l.take k) n = true) (h0 : 0 ≤ l[k]) (h : l[k] < n) : areIx (l.take (k + 1)) n = true := by
 unfold areIx at *
 rw [List.take_succ_eq_append_getElem hk, List.all_append, hI]
 simp [h0, h]
theorem areIx_at {l : List Int} {n : Int} (h : areIx l n = true) : ∀ x ∈ l, 0 ≤ x ∧ x < n := fun x hx => by
 unfold areIx at h
 have := List.all_eq_true.1 h x hx
 simpa using this
theorem areIx_ok (w : World) (v : Value) (l : List Int) (n : Int) (hl : Sl rInt w w.heap.size v l) : Ok Tryz.prog 74 [v, .int .i64 n].toArray w fun r _ => r = .bool (areIx l n) := by
 obtain ⟨A, c, rfl, hc, hm, hcell⟩ := hl.int
 refine ok_enter Tryz.func74 rfl Tryz.ntmps74 rfl ?_
 (refine gV ?_; refine gM ?_; refine gO ?_; refine gQ ?_; refine gV ?_; refine gM ?_; refine gL ?_; refine gM ?_; refine gO ?_; refine gB ?_)
 refine gc_loop (σ := Nat) [10, 11, 12, 6, 13, 14, 15, 16, 17, 18, 19, 4, 20, 9] (fun k => [(9, .int .i64 k)]) (fun _ => []) (fun k => k ≤ l.length ∧ areIx (l.take k) n = true) (fun k => l.length - k) 0 ⟨Nat.zero_le _, rfl⟩ ⟨rfl, trivial⟩ .nil ?_
 rintro k base ⟨hk, hI⟩
 (refine gV ?_; refine gC ?_; refine gO ?_; refine gQ ?_)
 refine gc_if_dec rfl (fun h => ?_) (fun h => ?_)
 ·have hlt : k < l.length := by omega
  obtain ⟨ad, rfl, hb, hce, hi⟩ := hcell k hlt
  focus (refine gK ?_; refine gX ?_; refine gQ ?_; refine gB ?_; refine gV ?_; apply gw_d; exact w_index rfl rfl rfl rfl (by with_reducible exact rfl) (by omega); apply gw_d; exact w_load_at rfl rfl rfl (by assumption) (by assumption); refine gM ?_; refine gN ?_; refine gM ?_; refine gC ?_; refine gM ?_; refine gD (fun _ => ?_) (fun _ => ?_); (iterate 3 refine gU ?_); refine gPp ?_; refine gO ?_; refine gc_if_true rfl ?_; refine gV ?_; refine gM ?_; refine gO ?_; refine gR ?_; refine gY ?_; (iterate 2 refine gT ?_); refine gY ?_; refine gT ?_; rotate_left; (iterate 2 refine gM ?_); refine gC ?_; refine gPq ?_; refine gO ?_; refine gc_if_dec rfl (fun _ => ?_) (fun _ => ?_); refine gV ?_; refine gM ?_; refine gO ?_; refine gR ?_; refine gY ?_; (iterate 2 refine gT ?_); refine gY ?_; refine gT ?_; rotate_left; refine gK ?_; refine gH ?_; refine gX ?_; refine gG ?_; refine gA ?_; refine gM ?_; refine gw_nil ?_; rotate_left)
  ·refine gb1 (fun _ _ => ?_)
   rw [areIx_no hlt (by omega)]
  ·refine gb1 (fun _ _ => ?_)
   rw [areIx_no hlt (by omega)]
  ·exact gx_round (k + 1) ⟨by omega, areIx_snoc hlt hI (by omega) (by omega)⟩ (by omega) kK ⟨rfl, trivial⟩ .nil
 ·(refine gI ?_; (iterate 2 refine gZ ?_); refine gJ ?_; refine gX ?_; refine gV ?_; refine gM ?_; refine gO ?_; refine gR ?_)
  refine gb1 (fun _ _ => ?_)
  rw [List.take_of_length_le (by omega)] at hI
  rw [hI]

theorem repeats_ok (w : World) (v : Value) (l : List Int) (hl : Sl rInt w w.heap.size v l) : Ok Tryz.prog 75 [v].toArray w fun r _ => r = .bool (dupL l l.length) := by
 obtain ⟨A, c, rfl, hc, hm, hcell⟩ := hl.int
 refine ok_enter Tryz.func75 rfl Tryz.ntmps75 rfl ?_
 (refine gV ?_; refine gM ?_; refine gN ?_)
 refine gw_makeMap kInt rfl (fun bm => ?_)
 (refine gM ?_; refine gO ?_; refine gQ ?_; refine gV ?_; refine gM ?_; refine gL ?_; refine gM ?_; refine gO ?_; refine gB ?_)
 refine gc_loop1 (σ := Nat) [10, 11, 12, 5, 13, 14, 15, 2, 16, 17, 18, 9] (fun k => [(9, .int .i64 k)]) (fun k => MapR bm kInt (setM (l.take k))) (fun k => k ≤ l.length ∧ dupL l k = false) (fun k => l.length - k) 0 ⟨Nat.zero_le _, rfl⟩ ⟨rfl, trivial⟩ rfl ?_
 rintro k base ⟨hk, hI⟩
 (refine gV ?_; refine gC ?_; refine gO ?_; refine gQ ?_)
 refine gc_if_dec rfl (fun h => ?_) (fun h => ?_)
 ·have hlt : k < l.length := by omega
  obtain ⟨ad, rfl, hb, hce, hi⟩ := hcell k hlt
  (refine gK ?_; refine gX ?_; refine gQ ?_; refine gB ?_; refine gV ?_; apply gw_d; exact w_index rfl rfl rfl rfl (by with_reducible exact rfl) (by omega); apply gw_d; exact w_load_at rfl rfl rfl (by assumption) (by assumption); refine gM ?_; refine gO ?_; refine gQ ?_; refine gV ?_; (iterate 2 refine gM ?_); apply gw_d; exact det_eq (w_lookup (k := l[k]) intLawC rfl rfl rfl rfl .here) (setM_has _ _); refine gO ?_)
  refine gc_if rfl (fun h => ?_) (fun h => ?_)
  ·(refine gV ?_; refine gM ?_; refine gO ?_; refine gR ?_; refine gT ?_; refine gY ?_; (iterate 2 refine gT ?_); refine gY ?_; refine gT ?_)
   refine gb1 (fun _ _ => ?_)
   rw [dupL_yes hlt h]
  ·(refine gK ?_; refine gX ?_; refine gG ?_; (iterate 2 refine gM ?_))
   refine gw_mapSet (k := l[k]) (v := .bool true) intLawC rfl rfl rfl rfl .here ?_
   rw [← setM_snoc, ← List.take_succ_eq_append_getElem hlt]
   (refine gw_nil ?_; refine gH ?_; refine gX ?_; refine gG ?_; refine gA ?_; refine gM ?_; refine gw_nil ?_)
   exact gx_round (k + 1) ⟨by omega, dupL_snoc hlt hI h⟩ (by omega) kK ⟨rfl, trivial⟩ (Sub.all _)
 ·obtain rfl : k = l.length := by omega
  (refine gI ?_; (iterate 2 refine gZ ?_); refine gJ ?_; refine gX ?_; refine gV ?_; refine gM ?_; refine gO ?_; refine gR ?_)
  refine gb1 (fun _ _ => ?_)
  rw [hI]

def opE (l : List Opn) (uses : Int) (i : Nat) : Int := match l[i]? with
 | some o => if ¬ nameB o.name = true then 1 else if ((l.take i).any fun x => eqS x.name o.name) = true then 7 else if o.machine < 0 ∨ o.machine ≥ 8 ∨ o.minutes < 1 ∨ o.minutes > 10000 then 3 else
  if areIx o.after l.length = false ∨ (0 ≤ uses ∧ areIx o.uses uses = false) then 3 else if dupL o.after o.after.length = true ∨ (0 ≤ uses ∧ dupL o.uses o.uses.length = true) then 7 else 0
 | none => 0

theorem checkOne_ok (w : World) (v : Value) (l : List Opn) (i : Nat) (uses : Int) (hl : Sl rOp w w.heap.size v l) (hi : i < l.length) :
  Ok Tryz.prog 57 [v, .int .i64 i, .int .i64 uses].toArray w fun r _ => r = .int .i64 (opE l uses i) := by
 obtain ⟨ad, c, rfl, hc, hm, hb, hcell⟩ := hl.at' 5 rfl (by omega)
 obtain ⟨cs, hce, Aa, ca, Au, cu, rfl, ⟨hnm, _⟩, q1, q2⟩ := hcell i hi
 unfold maxLen at hnm
 have ha : Sl rInt w w.heap.size (.slice Aa l[i].after.length ca) l[i].after := q1
 have hu : Sl rInt w w.heap.size (.slice Au l[i].uses.length cu) l[i].uses := q2
 have c1 : ∀ (L : List Res) (w' : World), St w L w' → Ok Tryz.prog 74 [.slice Aa l[i].after.length ca, .int .i64 l.length].toArray w' fun r _ => r = .bool (areIx l[i].after l.length) := fun L w' s => areIx_ok w' _ _ _ (ha.later s)
 have c2 : ∀ (L : List Res) (w' : World), St w L w' → Ok Tryz.prog 74 [.slice Au l[i].uses.length cu, .int .i64 uses].toArray w' fun r _ => r = .bool (areIx l[i].uses uses) := fun L w' s => areIx_ok w' _ _ _ (hu.later s)
 have c3 : ∀ (L : List Res) (w' : World), St w L w' → Ok Tryz.prog 75 [.slice Aa l[i].after.length ca].toArray w' fun r _ => r = .bool (dupL l[i].after l[i].after.length) := fun L w' s => repeats_ok w' _ _ (ha.later s)
 have c4 : ∀ (L : List Res) (w' : World), St w L w' → Ok Tryz.prog 75 [.slice Au l[i].uses.length cu].toArray w' fun r _ => r = .bool (dupL l[i].uses l[i].uses.length) := fun L w' s => repeats_ok w' _ _ (hu.later s)
 have hE : opE l uses i = if ¬ nameB l[i].name = true then 1 else if ((l.take i).any fun x => eqS x.name l[i].name) = true then 7 else if l[i].machine < 0 ∨ l[i].machine ≥ 8 ∨ l[i].minutes < 1 ∨ l[i].minutes > 10000 then 3 else
  if areIx l[i].after l.length = false ∨ (0 ≤ uses ∧ areIx l[i].uses uses = false) then 3 else if dupL l[i].after l[i].after.length = true ∨ (0 ≤ uses ∧ dupL l[i].uses l[i].uses.length = true) then 7 else 0 := by
  unfold opE; rw [List.getElem?_eq_getElem hi]
 rw [hE]
 refine ok_enter Tryz.func57 rfl Tryz.ntmps57 rfl ?_
 (refine gV ?_; refine gM ?_; refine gN ?_; (iterate 2 refine gM ?_); apply gw_d; exact w_index rfl rfl rfl rfl (by with_reducible exact rfl) (by omega); apply gw_d; exact w_load_elem rfl rfl rfl (by assumption) (by assumption) (by rfl); refine w_alloc rfl (fun _ => ?_); refine w_store_all rfl rfl rfl rfl rfl .here rfl ?_; refine gO ?_; refine gQ ?_; refine gV ?_; refine gF ?_; refine gW .here ?_; apply gw_d; exact w_call rfl rfl (fun w s => isName_ok w _ (by omega)) rfl; apply gw_d; exact det_not_ rfl rfl rfl; refine gO ?_)
 refine gc_if rfl (fun h => ?_) (fun h => ?_)
 ·(refine gV ?_; refine gM ?_; refine gO ?_; refine gR ?_; refine gT ?_)
  refine gi1 (fun _ _ => ?_)
  rw [if_pos (by simpa using h)]
 have hN : ¬ ¬ nameB l[i].name = true := by simpa using h
 rw [if_neg hN]
 (refine gK ?_; refine gX ?_; refine gQ ?_; refine gV ?_; (iterate 2 refine gM ?_); apply gw_d; exact w_cut_hi rfl rfl rfl rfl (by with_reducible exact rfl) (by omega); refine gL ?_; refine gM ?_; refine gO ?_; refine gB ?_)
 refine gc_loopK (σ := Nat) [23, 24, 25, 9, 26, 27, 28, 29, 30, 6, 31, 22] (fun j => [(22, .int .i64 j)]) (fun j => j ≤ i ∧ ((l.take j).any fun x => eqS x.name l[i].name) = false) (fun j => i - j) 0 ⟨Nat.zero_le _, rfl⟩ ⟨rfl, trivial⟩ ?_
 rintro j base ⟨hj, hJ⟩
 (refine gV ?_; refine gC ?_; refine gO ?_; refine gQ ?_)
 refine gc_if_dec rfl (fun h4 => ?_) (fun h4 => ?_)
 ·have hjl : j < l.length := by omega
  obtain ⟨cs2, hce2, _, _, _, _, rfl, _⟩ := hcell j hjl
  (refine gK ?_; refine gX ?_; refine gQ ?_; refine gB ?_; refine gV ?_; apply gw_d; exact w_index rfl rfl rfl rfl (by with_reducible exact rfl) (by omega); apply gw_d; exact w_load_elem rfl rfl rfl (by assumption) (by assumption) (by rfl); refine w_alloc rfl (fun _ => ?_); refine w_store_all rfl rfl rfl rfl rfl .here rfl ?_; refine gN ?_; refine gF ?_; refine gW .here ?_; refine gF ?_; refine gW (.there .here) ?_; apply gw_d; exact det_seq rfl rfl rfl rfl; refine gO ?_)
  refine gc_if rfl (fun h5 => ?_) (fun h5 => ?_)
  ·(refine gV ?_; refine gM ?_; refine gO ?_; refine gR ?_; refine gY ?_; (iterate 2 refine gT ?_); refine gY ?_; refine gT ?_)
   refine gi1 (fun _ _ => ?_)
   rw [if_pos (any_at (l := l.take i) (k := j) (by rw [List.length_take]; omega) (by rw [List.getElem_take]; exact h5))]
  ·(refine gK ?_; refine gH ?_; refine gX ?_; refine gG ?_; refine gA ?_; refine gM ?_; refine gw_nil ?_)
   exact gx_round (j + 1) ⟨by omega, take_any_snoc hjl hJ h5⟩ (by omega) kK ⟨rfl, trivial⟩ Sub.tail
 obtain rfl : j = i := by omega
 rw [if_neg (by rw [hJ]; decide)]
 focus (refine gI ?_; (iterate 2 refine gZ ?_); refine gJ ?_; refine gX ?_; refine gQ ?_; refine gV ?_; refine gF ?_; refine gW .here ?_; refine gC ?_; refine gM ?_; refine gD (fun _ => ?_) (fun _ => ?_); (iterate 3 refine gU ?_); refine gPp ?_; refine gM ?_; (iterate 3 refine gU ?_); refine gPp ?_; refine gM ?_; (iterate 3 refine gU ?_); refine gPp ?_; refine gO ?_; refine gc_if_true rfl ?_; refine gV ?_; refine gM ?_; refine gO ?_; refine gR ?_; refine gT ?_; rotate_left; refine gF ?_; refine gW .here ?_; refine gC ?_; refine gPq ?_; refine gM ?_; refine gD (fun _ => ?_) (fun _ => ?_); (iterate 3 refine gU ?_); refine gPp ?_; refine gM ?_; (iterate 3 refine gU ?_); refine gPp ?_; refine gO ?_; refine gc_if_true rfl ?_; refine gV ?_; refine gM ?_; refine gO ?_; refine gR ?_; refine gT ?_; rotate_left; refine gF ?_; refine gW .here ?_; refine gC ?_; refine gPq ?_; refine gM ?_; refine gD (fun _ => ?_) (fun _ => ?_); (iterate 3 refine gU ?_); refine gPp ?_; refine gO ?_; refine gc_if_true rfl ?_; refine gV ?_; refine gM ?_; refine gO ?_; refine gR ?_; refine gT ?_; rotate_left; refine gF ?_; refine gW .here ?_; refine gC ?_; refine gPq ?_; refine gO ?_; refine gc_if_dec rfl (fun _ => ?_) (fun _ => ?_); refine gV ?_; refine gM ?_; refine gO ?_; refine gR ?_; refine gT ?_; rotate_left; refine gK ?_; refine gX ?_; refine gQ ?_; refine gV ?_; refine gF ?_; refine gW .here ?_; refine gM ?_; refine gL ?_; rotate_left)
 ·refine gi1 (fun _ _ => ?_)
  rw [if_pos (by omega)]
 ·refine gi1 (fun _ _ => ?_)
  rw [if_pos (by omega)]
 ·refine gi1 (fun _ _ => ?_)
  rw [if_pos (by omega)]
 ·refine gi1 (fun _ _ => ?_)
  rw [if_pos (by omega)]
 rw [if_neg (by omega)]
 focus (apply gw_d; exact w_call rfl rfl (c1 _) rfl; apply gw_d; exact det_not_ rfl rfl rfl; refine gM ?_; refine gw_guard rfl rfl (fun _ => ?_) (fun _ => ?_); (iterate 9 refine gU ?_); refine gPp ?_; refine gO ?_; refine gc_if_true rfl ?_; refine gV ?_; refine gM ?_; refine gO ?_; refine gR ?_; refine gT ?_; rotate_left; refine gM ?_; refine gC ?_; refine gM ?_; refine gD (fun _ => ?_) (fun _ => ?_); refine gF ?_; refine gW .here ?_; refine gM ?_; apply gw_d; exact w_call rfl rfl (c2 _) rfl; apply gw_d; exact det_not_ rfl rfl rfl; refine gPp ?_; refine gPq ?_; refine gO ?_; refine gc_if rfl (fun _ => ?_) (fun _ => ?_); refine gV ?_; refine gM ?_; refine gO ?_; refine gR ?_; refine gT ?_; rotate_left; refine gK ?_; refine gX ?_; refine gQ ?_; refine gV ?_; refine gF ?_; refine gW .here ?_; apply gw_d; exact w_call rfl rfl (c3 _) rfl; refine gM ?_; refine gw_guard rfl rfl (fun _ => ?_) (fun _ => ?_); (iterate 7 refine gU ?_); refine gPp ?_; refine gO ?_; refine gc_if_true rfl ?_; refine gV ?_; refine gM ?_; refine gO ?_; refine gR ?_; refine gT ?_; rotate_left; refine gM ?_; refine gC ?_; refine gM ?_; refine gD (fun _ => ?_) (fun _ => ?_); refine gF ?_; refine gW .here ?_; apply gw_d; exact w_call rfl rfl (c4 _) rfl; refine gPp ?_; refine gPq ?_; refine gO ?_; refine gc_if rfl (fun _ => ?_) (fun _ => ?_); refine gV ?_; refine gM ?_; refine gO ?_; refine gR ?_; refine gT ?_; rotate_left; refine gK ?_; refine gX ?_; refine gV ?_; refine gM ?_; refine gO ?_; refine gR ?_; rotate_left; (iterate 3 refine gU ?_); (iterate 2 refine gPq ?_); refine gO ?_; refine gc_if_false rfl ?_; refine gK ?_; refine gX ?_; refine gV ?_; refine gM ?_; refine gO ?_; refine gR ?_; rotate_left; (iterate 5 refine gU ?_); (iterate 2 refine gPq ?_); refine gO ?_; refine gc_if_false rfl ?_; refine gK ?_; refine gX ?_; refine gQ ?_; refine gV ?_; refine gF ?_; refine gW .here ?_; apply gw_d; exact w_call rfl rfl (c3 _) rfl; refine gM ?_; refine gw_guard rfl rfl (fun _ => ?_) (fun _ => ?_); (iterate 7 refine gU ?_); refine gPp ?_; refine gO ?_; refine gc_if_true rfl ?_; refine gV ?_; refine gM ?_; refine gO ?_; refine gR ?_; refine gT ?_; rotate_left; refine gM ?_; refine gC ?_; refine gM ?_; refine gD (fun _ => ?_) (fun _ => ?_); refine gF ?_; refine gW .here ?_; apply gw_d; exact w_call rfl rfl (c4 _) rfl; refine gPp ?_; refine gPq ?_; refine gO ?_; refine gc_if rfl (fun _ => ?_) (fun _ => ?_); refine gV ?_; refine gM ?_; refine gO ?_; refine gR ?_; refine gT ?_; rotate_left; refine gK ?_; refine gX ?_; refine gV ?_; refine gM ?_; refine gO ?_; refine gR ?_; rotate_left; (iterate 3 refine gU ?_); (iterate 2 refine gPq ?_); refine gO ?_; refine gc_if_false rfl ?_; refine gK ?_; refine gX ?_; refine gV ?_; refine gM ?_; refine gO ?_; refine gR ?_; rotate_left)
 all_goals
  refine gi1 (fun _ _ => ?_)
  clear c1 c2 c3 c4 hcell hce ha hu q1 q2 hl hE hJ
  congr 1
  symm
  simp only [Bool.not_eq_true', Bool.not_eq_false'] at *
  first
   | (rw [if_pos (.inl (by assumption))])
   | (rw [if_pos (.inr ⟨by assumption, by assumption⟩)])
   | (rw [if_neg (by rintro (h | ⟨h, h'⟩) <;> simp_all), if_pos (.inl (by assumption))])
   | (rw [if_neg (by rintro (h | ⟨h, h'⟩) <;> simp_all), if_pos (.inr ⟨by assumption, by assumption⟩)])
   | (rw [if_neg (by rintro (h | ⟨h, h'⟩) <;> simp_all), if_neg (by rintro (h | ⟨h, h'⟩) <;> simp_all)])
   | (exfalso; omega)
section
variable {κ : Type} [DecidableEq κ]
theorem aset_keys (m : List (κ × Value)) (k : κ) (v : Value) : (aset m k v).map (·.1) = if k ∈ m.map (·.1) then m.map (·.1) else m.map (·.1) ++ [k] := by
 induction m with
 | nil => simp [aset]
 | cons p m ih =>
  unfold aset
  by_cases h : p.1 = k
  ·rw [if_pos h, List.map_cons, List.map_cons, if_pos (by rw [h]; exact List.mem_cons_self), h]
  ·rw [if_neg h, List.map_cons, List.map_cons, ih]
   by_cases hm : k ∈ m.map (·.1)
   ·rw [if_pos hm, if_pos (List.mem_cons_of_mem _ hm)]
   ·rw [if_neg hm, if_neg (by intro hc; rcases List.mem_cons.1 hc with hc | hc; exact h hc.symm; exact hm hc)]
    rfl
theorem aset_nodup {m : List (κ × Value)} (h : (m.map (·.1)).Nodup) (k : κ) (v : Value) : ((aset m k v).map (·.1)).Nodup := by
 rw [aset_keys]
 split
 ·exact h
 ·rename_i hk
  rw [List.nodup_append]
  exact ⟨h, by simp, fun a ha b hb => by
   rw [List.mem_singleton] at hb
   subst hb
   intro he
   subst he
   exact hk ha⟩
theorem setM_nodup (l : List κ) : ((setM l).map (·.1)).Nodup := by
 unfold setM
 suffices h : ∀ (l : List κ) (m : List (κ × Value)), (m.map (·.1)).Nodup → ((l.foldl (fun m k => aset m k (.bool true)) m).map (·.1)).Nodup from h l [] List.nodup_nil
 intro l
 induction l with
 | nil => intro m h; exact h
 | cons x l ih => intro m h; exact ih _ (aset_nodup h x _)
theorem aget_key {m : List (κ × Value)} {k : κ} : k ∈ m.map (·.1) ↔ (aget m k).isSome = true := by
 induction m with
 | nil => simp [aget_nil]
 | cons p m ih =>
  rw [aget_cons]
  by_cases h : p.1 = k
  ·simp [h]
  ·have : ¬ k = p.1 := fun hk => h hk.symm
   rw [if_neg h, ← ih]
   simp [this]
theorem setM_keys {l : List κ} {k : κ} : k ∈ (setM l).map (·.1) ↔ k ∈ l := by
 rw [aget_key, setM_get]
 by_cases h : k ∈ l <;> simp [h]
theorem adel_filter {m : List (κ × Value)} (h : (m.map (·.1)).Nodup) (k : κ) : adel m k = m.filter fun p => !decide (p.1 = k) := by
 induction m with
 | nil => rfl
 | cons p m ih =>
  rw [List.map_cons, List.nodup_cons] at h
  unfold adel
  by_cases hp : p.1 = k
  ·rw [if_pos hp, List.filter_cons, if_neg (by simp [hp])]
   symm
   apply List.filter_eq_self.2
   intro q hq
   have : ¬ q.1 = k := fun hc => h.1 (by rw [hp, ← hc]; exact List.mem_map_of_mem hq)
   simp [this]
  ·rw [if_neg hp, ih h.2, List.filter_cons, if_pos (by simp [hp])]
end

def afterOf (l : List Opn) (i : Nat) : List Int := ((l[i]?).map (·.after)).getD []
theorem afterOf_get {l : List Opn} {i : Nat} (h : i < l.length) : afterOf l i = l[i].after := by
 unfold afterOf
 rw [List.getElem?_eq_getElem h]
 rfl
def readyB (l : List Opn) (o : List Int) (i : Nat) : Bool := !hasB o (i : Int) && (afterOf l i).all (hasB o)
def nextOf (l : List Opn) (o : List Int) : Option Nat := (List.range l.length).find? (readyB l o)
def arr (l : List Opn) : Nat → List Int → List Int
 | 0, o => o
 | f + 1, o => match nextOf l o with
  | some i => arr l f (o ++ [(i : Int)])
  | none => o
def sortedL (l : List Opn) : List Int := arr l l.length []

def cont (l : List Opn) (o : List Int) (i : Int) : List (Int × Value) := (setM (afterOf l i.toNat)).filter fun p => !hasB o p.1
theorem hasB_snoc {κ : Type} [DecidableEq κ] (o : List κ) (k x : κ) : hasB (o ++ [k]) x = (hasB o x || decide (k = x)) := by
 unfold hasB
 rw [List.any_append]
 simp
theorem hasB_false {κ : Type} [DecidableEq κ] {l : List κ} {k : κ} : hasB l k = false ↔ ¬ k ∈ l := by
 rw [← hasB_iff (l := l), Bool.not_eq_true]
theorem cont_nil {l : List Opn} {i : Nat} : cont l [] i = setM (afterOf l i) := by
 unfold cont
 rw [Int.toNat_natCast]
 apply List.filter_eq_self.2
 intro p _
 rfl
theorem cont_del (l : List Opn) (o : List Int) (i k : Int) : adel (cont l o i) k = cont l (o ++ [k]) i := by
 have hn : ((cont l o i).map (·.1)).Nodup := (setM_nodup (afterOf l i.toNat)).sublist ((List.filter_sublist).map _)
 rw [adel_filter hn]
 unfold cont
 rw [List.filter_filter]
 apply List.filter_congr
 intro p _
 rw [hasB_snoc]
 by_cases h : p.1 = k
 ·simp [h]
 ·have : ¬ k = p.1 := fun hk => h hk.symm
  simp [h, this]
theorem cont_empty {l : List Opn} {o : List Int} {i : Int} : (cont l o i).length = 0 ↔ (afterOf l i.toNat).all (hasB o) = true := by
 rw [List.length_eq_zero_iff]
 unfold cont
 rw [List.filter_eq_nil_iff, List.all_eq_true]
 constructor
 ·intro h a ha
  obtain ⟨p, hp, rfl⟩ := List.mem_map.1 (setM_keys.2 ha)
  have := h p hp
  simpa using this
 ·intro h p hp
  have := h p.1 (setM_keys.1 (List.mem_map_of_mem hp))
  simp [this]

def mapsP (es : List (Nat × List (Int × Value))) (w : World) : Prop := es.Pairwise (fun x y => x.1 ≠ y.1) ∧ ∀ e ∈ es, (MapR e.1 kInt e.2).p w
def MapsR (es : List (Nat × List (Int × Value))) : Res :=
 ⟨fun x => ∃ e ∈ es, x = e.1, mapsP es, fun _ _ h ⟨h1, h2⟩ => ⟨h1, fun e he => (MapR e.1 kInt e.2).stable _ _ (fun b hb => h b ⟨e, he, hb⟩) (h2 e he)⟩⟩
theorem maps_join {A B : List (Nat × List (Int × Value))} {b : Nat} {c : List (Int × Value)} {L : List Res} : Ent (MapR b kInt c :: MapsR (A ++ B) :: L) (MapsR (A ++ (b, c) :: B) :: L) := fun w0 w s => by
 have hsep : ∀ e ∈ A ++ B, e.1 ≠ b := fun e he hc => s.sep.2.2.1 b rfl _ List.mem_cons_self ⟨e, he, hc.symm⟩
 obtain ⟨h1, h2⟩ := s.drop.head
 refine s.merge (fun x hx => ?_) ⟨?_, fun e he => ?_⟩
 ·obtain ⟨e, he, rfl⟩ := hx
  rcases List.mem_append.1 he with h | h
  ·exact .inr ⟨e, List.mem_append_left _ h, rfl⟩
  ·rcases List.mem_cons.1 h with h | h
   ·subst h; exact .inl rfl
   ·exact .inr ⟨e, List.mem_append_right _ h, rfl⟩
 ·rw [List.pairwise_append] at h1 ⊢
  refine ⟨h1.1, List.pairwise_cons.2 ⟨fun e he => (hsep e (List.mem_append_right _ he)).symm, h1.2.1⟩, fun x hx y hy => ?_⟩
  rcases List.mem_cons.1 hy with h | h
  ·subst h; exact hsep x (List.mem_append_left _ hx)
  ·exact h1.2.2 x hx y h
 ·rcases List.mem_append.1 he with h | h
  ·exact h2 e (List.mem_append_left _ h)
  ·rcases List.mem_cons.1 h with h | h
   ·subst h; exact s.head
   ·exact h2 e (List.mem_append_right _ h)
theorem maps_split {A B : List (Nat × List (Int × Value))} {e : Nat × List (Int × Value)} {L : List Res} : Ent (MapsR (A ++ e :: B) :: L) (MapR e.1 kInt e.2 :: MapsR (A ++ B) :: L) := fun w0 w s => by
 obtain ⟨hB, ⟨h1, h2⟩, h3, h4, h5⟩ := s
 have hsub : ∀ x ∈ A ++ B, x ∈ A ++ e :: B := fun x hx => by
  rcases List.mem_append.1 hx with h | h
  ·exact List.mem_append_left _ h
  ·exact List.mem_append_right _ (List.mem_cons_of_mem _ h)
 have he : e ∈ A ++ e :: B := List.mem_append_right _ List.mem_cons_self
 have hne : ∀ x ∈ A ++ B, e.1 ≠ x.1 := fun x hx => by
  rw [List.pairwise_append] at h1
  rcases List.mem_append.1 hx with h | h
  ·exact (h1.2.2 x h e List.mem_cons_self).symm
  ·exact (List.pairwise_cons.1 h1.2.1).1 x h
 refine ⟨hB, h2 e he, fun b hb => h3 b ⟨e, he, hb⟩, fun b hb q hq hqb => ?_, ⟨h1.sublist ((List.Sublist.refl A).append (List.sublist_cons_self e B)), fun x hx => h2 x (hsub x hx)⟩, fun b ⟨x, hx, hb⟩ => h3 b ⟨x, hsub x hx, hb⟩, fun b ⟨x, hx, hb⟩ => h4 b ⟨x, hsub x hx, hb⟩, h5⟩
 rcases List.mem_cons.1 hq with h | h
 ·subst h
  obtain ⟨x, hx, hxb⟩ := hqb
  have : b = e.1 := hb
  exact hne x hx (this.symm.trans hxb)
 ·exact h4 b ⟨e, he, hb⟩ q h hqb
theorem maps_read {es : List (Nat × List (Int × Value))} {w0 w : World} {L L' : List Res} (s : St w0 L w) (hp : Pick L (MapsR es) L') {e : Nat × List (Int × Value)} (he : e ∈ es) : (MapR e.1 kInt e.2).p w := (s.pick hp).head.2 e he
theorem gc_maps0 {P : Program} {Q : Exit → Act → World → Prop} {N : Nat} {w0 : World} {L : List Res} {e : Env} {c : Code} (k : GC P Q N w0 (MapsR [] :: L) c e) : GC P Q N w0 L c e := ⟨fun w s =>
 k.h w (s.add (Ext.refl w) ⟨List.Pairwise.nil, fun e he => by cases he⟩ fun b ⟨e, he, _⟩ => by cases he)⟩
theorem w_maplenP {κ : Type} {P : Program} {ops : Array Oper} {N : Nat} {w0 : World} {L : List Res} {e : Env} {o : Oper} {t : TypeId} {x : Operand} {kt vt b : Nat} {kv : κ → Value} {l : List (κ × Value)} [CMap P t kt vt] (hop : o.op = .call { callee := .builtin .len, args := #[x], argTypes := #[t] }) (hw : wantedE N ops e o = true) (hx : ev N e x = .map (some b))
  (hp : ∀ w, St w0 L w → (MapR b kv l).p w) : Det P ops N w0 L o e (.int .i64 l.length) :=
 det_run hw fun w s => by
  obtain ⟨es, clock, h1, h2, _⟩ := hp w s
  have ht := CMap.h (P := P) (t := t) (k := kt) (v := vt)
  unfold mapKV at ht
  split at ht
  ·rename_i k' v' hu
   have hget : (getObj b).run P w = .ok (.map es clock) w := by
    unfold getObj
    simp [Sem.run, h1]
   have hlen : es.size = l.length := by have := congrArg List.length h2; simpa using this
   unfold execOp
   simp [hop, resolve, invoke, builtin, hx, Builtin.len_, run_underlying hu, goInt, hget, hlen]
  ·cases ht
theorem aset_new {κ : Type} [DecidableEq κ] {m : List (κ × Value)} {k : κ} {v : Value} (h : ¬ k ∈ m.map (·.1)) : aset m k v = m ++ [(k, v)] := by
 induction m with
 | nil => rfl
 | cons p m ih =>
  rw [List.map_cons, List.mem_cons, not_or] at h
  unfold aset
  rw [if_neg (fun hp => h.1 hp.symm), ih h.2]
  rfl
theorem aget_at {κ : Type} [DecidableEq κ] {m : List (κ × Value)} (h : (m.map (·.1)).Nodup) {p : κ × Value} (hp : p ∈ m) : aget m p.1 = some p.2 := by
 induction m with
 | nil => cases hp
 | cons q m ih =>
  rw [List.map_cons, List.nodup_cons] at h
  rw [aget_cons]
  rcases List.mem_cons.1 hp with hp | hp
  ·subst hp; rw [if_pos rfl]
  ·rw [if_neg (fun hq => h.1 (by rw [hq]; exact List.mem_map_of_mem hp)), ih h.2 hp]
theorem aget_out {κ : Type} [DecidableEq κ] {m : List (κ × Value)} {k : κ} (h : ¬ k ∈ m.map (·.1)) : aget m k = none := by
 rw [aget_key] at h
 simpa using h

def openA (T : List (Int × Nat)) : List (Int × Value) := T.map fun t => (t.1, .map (some t.2))
def conts (l : List Opn) (o : List Int) (T : List (Int × Nat)) : List (Nat × List (Int × Value)) := T.map fun t => (t.2, cont l o t.1)
theorem openA_keys (T : List (Int × Nat)) : (openA T).map (·.1) = T.map (·.1) := by
 unfold openA
 rw [List.map_map]
 rfl
theorem openA_len (T : List (Int × Nat)) : (openA T).length = T.length := by simp [openA]
def ixs (n : Nat) : List Int := (List.range n).map (fun i : Nat => (i : Int))
theorem ixs_nodup (n : Nat) : (ixs n).Nodup := by
 unfold ixs
 rw [List.Nodup, List.pairwise_map]
 exact List.nodup_range.imp fun h hc => h (Int.ofNat.inj hc)
theorem ixs_mem {n : Nat} {i : Int} : i ∈ ixs n ↔ 0 ≤ i ∧ i < n := by
 unfold ixs
 rw [List.mem_map]
 constructor
 ·rintro ⟨a, ha, rfl⟩
  rw [List.mem_range] at ha
  omega
 ·rintro ⟨h1, h2⟩
  exact ⟨i.toNat, List.mem_range.2 (by omega), by omega⟩

theorem find_range {n j : Nat} {p : Nat → Bool} (hj : j < n) (hp : p j = true) (h : ∀ i, i < j → p i = false) : (List.range n).find? p = some j := by
 rw [List.find?_range_eq_some]
 exact ⟨hp, List.mem_range.2 hj, fun i hi => by rw [h i hi]; rfl⟩
theorem arr_step {l : List Opn} {o : List Int} {j f : Nat} (h : nextOf l o = some j) : arr l (f + 1) o = arr l f (o ++ [(j : Int)]) := by
 show (match nextOf l o with | some i => arr l f (o ++ [(i : Int)]) | none => o) = _
 rw [h]
theorem arr_end {l : List Opn} {o : List Int} {f : Nat} (h : nextOf l o = none) : arr l f o = o := by
 cases f with
 | zero => rfl
 | succ f =>
  show (match nextOf l o with | some i => arr l f (o ++ [(i : Int)]) | none => o) = _
  rw [h]

def fullB (l : List Opn) : Bool := decide ((sortedL l).length = l.length)

structure Arr (l : List Opn) (o : List Int) (T : List (Int × Nat)) : Prop where
 keys : T.map (·.1) = (ixs l.length).filter fun i => !hasB o i
 len : o.length + T.length = l.length
 arr : arr l (l.length - o.length) o = sortedL l
theorem Arr.nodup {l : List Opn} {o : List Int} {T : List (Int × Nat)} (h : Arr l o T) : (T.map (·.1)).Nodup := by rw [h.keys]; exact (ixs_nodup _).filter _
theorem Arr.mem {l : List Opn} {o : List Int} {T : List (Int × Nat)} (h : Arr l o T) {j : Nat} (hj : j < l.length) : (j : Int) ∈ T.map (·.1) ↔ hasB o (j : Int) = false := by
 rw [h.keys, List.mem_filter]
 constructor
 ·rintro ⟨_, h2⟩; simpa using h2
 ·intro h2; exact ⟨ixs_mem.2 (by omega), by simp [h2]⟩
theorem Arr.step {l : List Opn} {o : List Int} {T : List (Int × Nat)} (h : Arr l o T) {j : Nat} (hj : j < l.length) (hr : readyB l o j = true) (hs : ∀ i, i < j → readyB l o i = false) :
  Arr l (o ++ [(j : Int)]) (T.filter fun t => !decide (t.1 = (j : Int))) := by
 have ho : hasB o (j : Int) = false := by
  unfold readyB at hr
  rw [Bool.and_eq_true] at hr
  simpa using hr.1
 have hk : (T.filter fun t => !decide (t.1 = (j : Int))).map (·.1) = (ixs l.length).filter fun i => !hasB (o ++ [(j : Int)]) i := by
  have h1 : (T.filter fun t => !decide (t.1 = (j : Int))).map (·.1) = (T.map (·.1)).filter fun i => !decide (i = (j : Int)) := by
   rw [List.filter_map]; rfl
  rw [h1, h.keys, List.filter_filter]
  apply List.filter_congr
  intro i _
  rw [hasB_snoc]
  by_cases hi : i = (j : Int)
  ·simp [hi]
  ·have : ¬ (j : Int) = i := fun hc => hi hc.symm
   simp [hi, this]
 have hlen : (T.filter fun t => !decide (t.1 = (j : Int))).length + 1 = T.length := by
  have hm := (h.mem hj).2 ho
  obtain ⟨t, ht, htj⟩ := List.mem_map.1 hm
  obtain ⟨A, B, rfl⟩ := List.append_of_mem ht
  have hnd := h.nodup
  rw [List.map_append, List.map_cons, List.nodup_append] at hnd
  obtain ⟨h1, h2, h3⟩ := hnd
  rw [List.nodup_cons] at h2
  have hA : A.filter (fun t => !decide (t.1 = (j : Int))) = A := List.filter_eq_self.2 fun x hx => by
   have : ¬ x.1 = (j : Int) := fun hc => h3 x.1 (List.mem_map_of_mem hx) t.1 List.mem_cons_self (by rw [hc, htj])
   simp [this]
  have hB : B.filter (fun t => !decide (t.1 = (j : Int))) = B := List.filter_eq_self.2 fun x hx => by
   have : ¬ x.1 = (j : Int) := fun hc => h2.1 (by rw [htj, ← hc]; exact List.mem_map_of_mem hx)
   simp [this]
  rw [List.filter_append, List.filter_cons, if_neg (by simp [htj]), hA, hB]
  simp
  omega
 have hl := h.len
 refine ⟨hk, by simp; omega, ?_⟩
 have : l.length - o.length = (l.length - (o ++ [(j : Int)]).length) + 1 := by simp; omega
 have ha := h.arr
 rw [this, arr_step (find_range hj hr hs)] at ha
 exact ha

theorem mem_erase_nodup {α : Type} {t : α} : ∀ (U : List α) (i : Nat) (hi : i < U.length), U.Nodup → (t ∈ U.eraseIdx i ↔ t ≠ U[i] ∧ t ∈ U)
 | x :: U, 0, _, h => by
  rw [List.nodup_cons] at h
  simp only [List.eraseIdx_cons_zero, List.getElem_cons_zero, List.mem_cons]
  constructor
  ·intro ht; exact ⟨fun hc => h.1 (hc ▸ ht), .inr ht⟩
  ·rintro ⟨h1, h2 | h2⟩
   ·exact absurd h2 h1
   ·exact h2
 | x :: U, i + 1, hi, h => by
  rw [List.nodup_cons] at h
  have hi' : i < U.length := by simpa using hi
  have ih := mem_erase_nodup (t := t) U i hi' h.2
  simp only [List.eraseIdx_cons_succ, List.getElem_cons_succ, List.mem_cons, ih]
  constructor
  ·rintro (h1 | ⟨h1, h2⟩)
   ·subst h1; exact ⟨fun hc => h.1 (hc ▸ List.getElem_mem hi'), .inl rfl⟩
   ·exact ⟨h1, .inr h2⟩
  ·rintro ⟨h1, h2 | h2⟩
   ·exact .inl h2
   ·exact .inr ⟨h1, h2⟩

def mixF (l : List Opn) (o : List Int) (j : Int) (U : List (Int × Nat)) (t : Int × Nat) : Nat × List (Int × Value) := (t.2, if t ∈ U then cont l o t.1 else cont l (o ++ [j]) t.1)
def mix (l : List Opn) (o : List Int) (j : Int) (T U : List (Int × Nat)) : List (Nat × List (Int × Value)) := T.map (mixF l o j U)
theorem mix_all (l : List Opn) (o : List Int) (j : Int) (T : List (Int × Nat)) : mix l o j T T = conts l o T := by
 unfold mix conts
 apply List.map_congr_left
 intro t ht
 unfold mixF
 rw [if_pos ht]
theorem mix_none (l : List Opn) (o : List Int) (j : Int) (T : List (Int × Nat)) : mix l o j T [] = conts l (o ++ [j]) T := by
 unfold mix conts
 apply List.map_congr_left
 intro t ht
 unfold mixF
 rw [if_neg (by simp)]
theorem maps_sub {es es' : List (Nat × List (Int × Value))} {L : List Res} (h : es'.Sublist es) : Ent (MapsR es :: L) (MapsR es' :: L) := fun w0 w s => by
 obtain ⟨h1, h2⟩ := s.head
 exact s.turn (Nat.le_refl _) rfl rfl rfl (fun _ _ _ => rfl) ⟨h1.sublist h, fun e he => h2 e (h.subset he)⟩ fun c ⟨e, he, hc⟩ => .inl ⟨e, h.subset he, hc⟩
theorem mix_at {l : List Opn} {o : List Int} {j : Int} {T U : List (Int × Nat)} (hT : T.Nodup) (hU : U.Sublist T) {i : Nat} (hi : i < U.length) : ∃ A B, mix l o j T U = A ++ (U[i].2, cont l o U[i].1) :: B ∧ mix l o j T (U.eraseIdx i) = A ++ (U[i].2, cont l (o ++ [j]) U[i].1) :: B := by
 have hm : U[i] ∈ U := List.getElem_mem hi
 have hUn : U.Nodup := hT.sublist hU
 have hme : ∀ t, t ∈ U.eraseIdx i ↔ t ≠ U[i] ∧ t ∈ U := fun t => mem_erase_nodup U i hi hUn
 obtain ⟨A, B, hAB⟩ := List.append_of_mem (hU.subset hm)
 have hnd := hT
 rw [hAB, List.nodup_append, List.nodup_cons] at hnd
 obtain ⟨_, ⟨h2, _⟩, h3⟩ := hnd
 have hsame : ∀ t, t ≠ U[i] → mixF l o j (U.eraseIdx i) t = mixF l o j U t := fun t ht => by
  unfold mixF
  by_cases hU' : t ∈ U
  ·rw [if_pos hU', if_pos ((hme t).2 ⟨ht, hU'⟩)]
  ·rw [if_neg hU', if_neg (fun h => hU' ((hme t).1 h).2)]
 refine ⟨A.map (mixF l o j U), B.map (mixF l o j U), ?_, ?_⟩
 ·unfold mix
  rw [hAB, List.map_append, List.map_cons]
  congr 2
  unfold mixF
  rw [if_pos hm]
 ·unfold mix
  rw [hAB, List.map_append, List.map_cons]
  have e1 : A.map (mixF l o j (U.eraseIdx i)) = A.map (mixF l o j U) := List.map_congr_left fun t ht => hsame t fun hc => h3 t ht U[i] List.mem_cons_self hc
  have e2 : B.map (mixF l o j (U.eraseIdx i)) = B.map (mixF l o j U) := List.map_congr_left fun t ht => hsame t fun hc => h2 (hc ▸ ht)
  have e3 : mixF l o j (U.eraseIdx i) U[i] = (U[i].2, cont l (o ++ [j]) U[i].1) := by
   unfold mixF
   rw [if_neg (fun h => ((hme _).1 h).1 rfl)]
  rw [e1, e2, e3]

theorem arrange_ok (w : World) (v : Value) (l : List Opn) (hl : Sl rOp w w.heap.size v l) (h16 : l.length ≤ 16) :
  OkM Tryz.prog 58 [v].toArray w (fun x : Option Addr × Nat => .tuple #[.slice x.1 (if fullB l = true then l.length else 0) x.2, .bool (fullB l)])
   (fun x => if fullB l = true then [Own x.1 l.length x.2 3 1 ((sortedL l).map (Value.int .i64))] else []) := by
 obtain ⟨A0, c0, rfl, hc, hm⟩ := len_small hl
 unfold OkM
 refine ok_enter Tryz.func58 rfl Tryz.ntmps58 rfl ?_
 (refine gV ?_; (iterate 2 refine gM ?_); refine gN ?_)
 refine gw_makeMap kInt rfl (fun bo => ?_)
 (refine gM ?_; refine gO ?_; refine gQ ?_; refine gV ?_; refine gM ?_; refine gL ?_; refine gM ?_; refine gO ?_; refine gB ?_)
 refine gc_maps0 ?_
 refine gc_loop (σ := Nat × List (Int × Nat)) [19, 20, 21, 22, 6, 5, 23, 24, 25, 26, 27, 28, 29, 30, 31, 32, 8, 33, 34, 35, 36, 37, 38, 18] (fun s => [(18, .int .i64 s.1)]) (fun s => [MapR bo kInt (openA s.2), MapsR (conts l [] s.2)]) (fun s => s.1 ≤ l.length ∧ s.2.map (·.1) = ixs s.1) (fun s => l.length - s.1) (0, []) ⟨Nat.zero_le _, rfl⟩ ⟨rfl, trivial⟩ (.cons (.there .here) (.cons .here .nil)) ?_
 rintro ⟨k, T⟩ base ⟨hk, hT⟩
 dsimp only at hk hT ⊢
 (refine gV ?_; refine gC ?_; refine gO ?_; refine gQ ?_)
 refine gc_if_dec rfl (fun h => ?_) (fun h => ?_)
 ·have hlt : k < l.length := by omega
  obtain ⟨ad, _, hv, _, _, hb, hcell⟩ := hl.at' 5 rfl (by omega)
  injection hv with e1 e2 e3
  subst e1 e3
  obtain ⟨cs, hce, Aa, ca, Au, cu, rfl, _, q1, q2⟩ := hcell k hlt
  have ha : Sl rInt w w.heap.size (.slice Aa l[k].after.length ca) l[k].after := q1
  obtain ⟨_, _, hv, hac, ham, hacell⟩ := ha.int
  injection hv with e1 e2 e3
  subst e1 e3
  have hnew : ¬ (k : Int) ∈ (openA T).map (·.1) := by rw [openA_keys, hT, ixs_mem]; omega
  (refine gK ?_; refine gX ?_; refine gQ ?_; refine gB ?_; refine gV ?_; refine gM ?_; apply gw_d; exact w_index rfl rfl rfl rfl (by with_reducible exact rfl) (by omega); apply gw_d; exact w_load_elem rfl rfl rfl (by assumption) (by assumption) (by rfl); refine w_alloc rfl (fun _ => ?_); refine gM ?_; refine w_store_all rfl rfl rfl rfl rfl .here rfl ?_; refine gN ?_; (iterate 2 refine gM ?_))
  refine gw_makeMap kInt rfl (fun b => ?_)
  refine gw_mapSet (k := (k : Int)) (v := .map (some b)) intLawC rfl rfl rfl rfl (.there (.there .here)) ?_
  rw [aset_new hnew, show openA T ++ [((k : Int), Value.map (some b))] = openA (T ++ [((k : Int), b)]) by simp [openA]]
  have hT' : (T ++ [((k : Int), b)]).map (·.1) = ixs (k + 1) := by rw [List.map_append, hT]; unfold ixs; rw [List.range_succ, List.map_append]; rfl
  have hget : aget (openA (T ++ [((k : Int), b)])) (k : Int) = some (.map (some b)) := aget_at (p := ((k : Int), .map (some b))) (by rw [openA_keys, hT']; exact ixs_nodup _) (by simp [openA])
  (refine gN ?_; refine gF ?_; refine gW (.there (.there .here)) ?_; refine gL ?_; refine gM ?_; refine gO ?_; refine gB ?_)
  refine gc_loop (σ := Nat) [30, 31, 32, 8, 33, 34, 35, 36, 37, 29] (fun j => [(29, .int .i64 j)]) (fun j => [MapR b kInt (setM (l[k].after.take j)), MapR bo kInt (openA (T ++ [((k : Int), b)])), MapsR (conts l [] T)]) (fun j => j ≤ l[k].after.length) (fun j => l[k].after.length - j) 0 (Nat.zero_le _) ⟨rfl, trivial⟩ (.cons (.there .here) (.cons .here (.cons (.there .here) .nil))) ?_
  rintro j base2 hj
  (refine gV ?_; refine gC ?_; refine gO ?_; refine gQ ?_)
  refine gc_if_dec rfl (fun h2 => ?_) (fun h2 => ?_)
  ·have hjl : j < l[k].after.length := by omega
   obtain ⟨ad2, rfl, hb2, hce2, _⟩ := hacell j hjl
   (refine gK ?_; refine gX ?_; refine gQ ?_; refine gB ?_; refine gV ?_; apply gw_d; exact w_index rfl rfl rfl rfl (by with_reducible exact rfl) (by omega); apply gw_d; exact w_load_at rfl rfl rfl (by assumption) (by assumption); refine gM ?_; refine gO ?_; refine gG ?_; (iterate 2 refine gM ?_); apply gw_d; exact det_eq (c' := .map (some b)) (w_lookup (k := (k : Int)) intLawC rfl rfl rfl rfl (.there .here)) (by rw [hget]; rfl); refine gM ?_)
   refine gw_mapSet (k := l[k].after[j]) (v := .bool true) intLawC rfl rfl rfl rfl .here ?_
   rw [← setM_snoc, ← List.take_succ_eq_append_getElem hjl]
   (refine gw_nil ?_; refine gH ?_; refine gX ?_; refine gG ?_; refine gA ?_; refine gM ?_; refine gw_nil ?_)
   exact gx_round (j + 1) hjl (by omega) kK ⟨rfl, trivial⟩ (Sub.all _)
  ·obtain rfl : j = l[k].after.length := by omega
   rw [List.take_length]
   (refine gI ?_; (iterate 2 refine gZ ?_); refine gJ ?_; refine gH ?_; refine gX ?_; refine gG ?_; refine gA ?_; refine gM ?_; refine gw_nil ?_)
   refine gx_roundE (k + 1, T ++ [((k : Int), b)]) ⟨hlt, hT'⟩ (by dsimp only; omega) kK ⟨rfl, trivial⟩ ?_
   refine Ent.trans (Sub.ent (.cons (.there .here) (.cons .here (.cons .here .nil)))) (Ent.cons ?_ ?_)
   ·have := maps_join (A := conts l [] T) (B := []) (b := b) (c := setM l[k].after) (L := [])
    rw [List.append_nil] at this
    have hc2 : conts l [] (T ++ [((k : Int), b)]) = conts l [] T ++ [(b, setM l[k].after)] := by
     unfold conts
     rw [List.map_append]
     simp [cont_nil, afterOf_get hlt]
    dsimp only
    rw [hc2]
    exact this
   ·intro q hq x hx
    rw [List.mem_singleton] at hq
    subst hq
    obtain ⟨e, he, hxe⟩ := hx
    obtain ⟨t, ht, rfl⟩ := List.mem_map.1 he
    rcases List.mem_append.1 ht with h3 | h3
    ·exact ⟨_, List.mem_cons_of_mem _ List.mem_cons_self, _, List.mem_map_of_mem h3, hxe⟩
    ·rw [List.mem_singleton] at h3
     subst h3
     exact ⟨_, List.mem_cons_self, hxe⟩
 obtain rfl : k = l.length := by omega
 have hA0 : Arr l [] T := ⟨by rw [hT]; symm; exact List.filter_eq_self.2 fun _ _ => rfl, by have := congrArg List.length hT; simpa [ixs] using this, rfl⟩
 (refine gI ?_; (iterate 2 refine gZ ?_); refine gJ ?_; refine gX ?_; refine gV ?_; refine gM ?_; refine gO ?_; refine gQ ?_; refine gB ?_)
 refine gc_own0 3 1 ?_
 refine gc_loop (σ := List Int × List (Int × Nat) × Option Addr × Nat) [39, 40, 41, 10, 42, 43, 44, 45, 47, 48, 49, 46, 50, 51, 11, 12, 52, 53, 54, 55, 56, 57, 58, 59, 60, 61, 62, 63, 2, 3, 64, 65, 66, 67, 68, 69, 70, 71, 14, 72, 73, 74, 75, 76, 77, 9] (fun s => [(9, .slice s.2.2.1 s.1.length s.2.2.2)])
  (fun s => [MapR bo kInt (openA s.2.1), MapsR (conts l s.1 s.2.1), Own s.2.2.1 s.1.length s.2.2.2 3 1 (s.1.map (Value.int .i64))]) (fun s => Arr l s.1 s.2.1) (fun s => s.2.1.length) ([], T, none, 0) hA0 ⟨rfl, trivial⟩ (.cons (.there .here) (.cons (.there .here) (.cons .here .nil))) ?_
 rintro ⟨o, T, A, c⟩ base3 hA
 dsimp only at hA ⊢
 have hTlen := openA_len T
 have hAl := hA.len
 (refine gQ ?_; refine gV ?_; refine gM ?_; apply gw_d; exact w_maplen rfl rfl rfl .here; refine gC ?_; refine gO ?_)
 refine gc_if_dec rfl (fun h => ?_) (fun h => ?_)
 ·(refine gK ?_; refine gX ?_; refine gB ?_; refine gV ?_; refine gM ?_; refine gO ?_; refine gQ ?_; refine gB ?_)
  refine gc_loopK (σ := Nat) [42, 43, 44, 45, 47, 48, 49, 46, 50, 51, 11, 12, 52, 53, 54, 55, 56, 57, 58, 59, 10] (fun j => [(10, .int .i64 j)]) (fun j => j ≤ l.length ∧ ∀ i, i < j → readyB l o i = false) (fun j => l.length - j) 0 ⟨Nat.zero_le _, fun i hi => by omega⟩ ⟨rfl, trivial⟩ ?_
  rintro j base4 ⟨hj, hJ⟩
  (refine gQ ?_; refine gV ?_; (iterate 2 refine gM ?_); refine gL ?_; refine gC ?_; refine gO ?_)
  refine gc_if_dec rfl (fun h2 => ?_) (fun h2 => ?_)
  ·have hjl : j < l.length := by omega
   have hsn : readyB l o j = false → ∀ i, i < j + 1 → readyB l o i = false := fun hr i hi => by
    by_cases hij : i = j
    ·rw [hij]; exact hr
    ·exact hJ i (by omega)
   by_cases ho : hasB o (j : Int) = false
   ·obtain ⟨⟨ti, b⟩, ht, htj⟩ := List.mem_map.1 ((hA.mem hjl).2 ho)
    dsimp only at htj
    subst htj
    have hget : aget (openA T) (j : Int) = some (.map (some b)) := aget_at (p := ((j : Int), .map (some b))) (by rw [openA_keys]; exact hA.nodup) (List.mem_map_of_mem (f := fun t : Int × Nat => (t.1, Value.map (some t.2))) ht)
    have hce := cont_empty (l := l) (o := o) (i := (j : Int))
    rw [Int.toNat_natCast] at hce
    (refine gK ?_; refine gX ?_; refine gB ?_; refine gQ ?_; refine gV ?_; (iterate 2 refine gM ?_); apply gw_d; exact det_eq (c' := .tuple #[.map (some b), .bool true]) (w_lookup_ok (k := (j : Int)) intLawC rfl rfl rfl rfl .here) (by rw [hget]; rfl); refine gM ?_; apply gw_d; exact det_extract rfl rfl rfl (by conv => (lhs; whnf)); apply gw_d; exact det_extract rfl rfl rfl (by conv => (lhs; whnf)); (iterate 2 refine gM ?_); refine gN ?_; (iterate 3 refine gM ?_); apply gw_d; exact w_maplenP (l := cont l o (j : Int)) rfl rfl rfl (fun w s => maps_read s (.there .here) (e := (b, cont l o (j : Int))) (List.mem_map_of_mem (f := fun t : Int × Nat => (t.2, cont l o t.1)) ht)); refine gC ?_; refine gPp ?_; refine gO ?_)
    refine gc_if_dec rfl (fun h3 => ?_) (fun h3 => ?_)
    ·have hready : readyB l o j = true := by
      unfold readyB
      rw [ho, Bool.not_false, Bool.true_and]
      exact hce.1 (by omega)
     have hA2 := hA.step hjl hready hJ
     have hA2l := hA2.len
     rw [List.length_append, List.length_singleton] at hA2l
     (refine gI ?_; refine gZ ?_; refine gx_block_other rfl ?_; refine gZ ?_; refine gJ ?_; refine gX ?_; refine gQ ?_; refine gV ?_; (iterate 2 refine gM ?_); refine gL ?_; refine gC ?_; refine gO ?_)
     refine gc_if_dec rfl (fun h4 => by omega) (fun _ => ?_)
     (refine gK ?_; refine gX ?_; refine gV ?_; (iterate 2 refine gM ?_))
     refine gw_mapDel (k := (j : Int)) intLawC rfl rfl rfl .here ?_
     have hdel : adel (openA T) (j : Int) = openA (T.filter fun t => !decide (t.1 = (j : Int))) := by
      rw [adel_filter (by rw [openA_keys]; exact hA.nodup)]
      unfold openA
      rw [List.filter_map]
      rfl
     rw [hdel]
     refine gw_ent (K := [MapR bo kInt (openA (T.filter fun t => !decide (t.1 = (j : Int)))), MapsR (conts l o (T.filter fun t => !decide (t.1 = (j : Int)))), Own A o.length c 3 1 (o.map (Value.int .i64))]) ?_ ?_
     ·refine Ent.cons (maps_sub (List.filter_sublist.map _)) fun q hq x hx => ?_
      rcases List.mem_cons.1 hq with h | h
      ·subst h
       obtain ⟨e, he, hxe⟩ := hx
       exact ⟨_, List.mem_cons_self, e, (List.filter_sublist.map _).subset he, hxe⟩
      ·exact ⟨q, List.mem_cons_of_mem _ h, hx⟩
     generalize T.filter (fun t => !decide (t.1 = (j : Int))) = T2 at hA2 hA2l ⊢
     have hTn : T2.Nodup := (List.pairwise_map.1 hA2.nodup).imp fun h hc => h (congrArg (·.1) hc)
     rw [← mix_all l o (j : Int) T2]
     (refine gO ?_; refine gQ ?_; refine gV ?_; refine gM ?_)
     refine gw_range rfl rfl .here (fun r => ?_)
     (refine gO ?_; refine gB ?_)
     refine gc_loop (σ := List (Int × Nat) × Option (Int × Value)) [68, 69, 70, 71, 14, 72, 73] (fun _ => []) (fun s => [ItR bo r kInt (openA T2) (openA s.1) s.2, MapsR (mix l o (j : Int) T2 s.1), Own A o.length c 3 1 (o.map (Value.int .i64))]) (fun s => s.1.Sublist T2) (fun s => s.1.length) (T2, none) (List.Sublist.refl _) trivial (Sub.all _) ?_
     rintro ⟨U, cur⟩ base5 hU
     dsimp only at hU ⊢
     (refine gV ?_)
     refine gw_next rfl rfl .here (fun hU0 => ?_) (fun i hi => ?_)
     ·have hU1 : U = [] := by
       have := congrArg List.length hU0
       rw [openA_len] at this
       exact List.eq_nil_of_length_eq_zero this
      subst hU1
      rw [mix_none]
      (apply gw_d; exact det_extract rfl rfl rfl (by conv => (lhs; whnf)); refine gO ?_; refine gQ ?_)
      refine gc_if_false rfl ?_
      (refine gI ?_; (iterate 2 refine gZ ?_); refine gJ ?_; refine gX ?_; refine gG ?_; (iterate 2 refine gM ?_))
      refine gw_bslice1 (v := .int .i64 (j : Int)) rfl rfl rfl rfl rfl (fun bb => ?_)
      refine gw_append (news := [.int .i64 (j : Int)]) rfl rfl rfl (.there (.there (.there .here))) rfl (fun w' s _ => ?_) (fun u hu => ?_) (by unfold maxLen; omega) (by omega) (by decide) rfl (fun A2 c3 => ?_)
      ·refine ⟨⟨bb, 0, none⟩, rfl, fun i u hu => ?_⟩
       rw [add_zero]
       refine (Box.cell s.head i).trans ?_
       change (#[Value.int .i64 (j : Int)] : Array Value)[i]? = some u
       rw [List.getElem?_toArray]
       exact hu
      ·rw [List.mem_singleton] at hu
       subst hu
       rfl
      ·(refine gM ?_; refine gw_nil ?_; refine gH ?_)
       refine gx_roundE (o ++ [(j : Int)], T2, A2, c3) hA2 (by dsimp only; omega) kK ⟨by rw [List.length_append]; rfl, trivial⟩ ?_
       dsimp only
       rw [List.length_append, List.map_append]
       exact Ent.trans (Sub.ent (.cons (.there (.there .here)) (.cons (.there (.there .here)) (.cons .here .nil)))) ItR.done
     ·have hi' : i < U.length := by rw [openA_len] at hi; exact hi
      have hUi : (openA U)[i] = (U[i].1, Value.map (some U[i].2)) := by simp [openA]
      have herase : (openA U).eraseIdx i = openA (U.eraseIdx i) := (ChangeMaps.map_eraseIdx _ _ _).symm
      obtain ⟨MA, MB, hm1, hm2⟩ := mix_at (l := l) (o := o) (j := (j : Int)) hTn hU hi'
      rw [hUi, herase, hm1]
      (apply gw_d; exact det_extract rfl rfl rfl (by conv => (lhs; whnf)); refine gO ?_; refine gQ ?_)
      refine gc_if_true rfl ?_
      (refine gK ?_; refine gX ?_; refine gB ?_; refine gV ?_; apply gw_d; exact w_entry rfl rfl rfl .here; apply gw_d; exact det_extract rfl rfl rfl (by conv => (lhs; whnf)); refine gM ?_; refine gO ?_; refine gG ?_; (iterate 2 refine gM ?_))
      refine gw_ent (Ent.trans (Sub.ent (.cons (.there .here) (.cons .here (.cons .here .nil)))) maps_split) ?_
      refine gw_mapDel (k := (j : Int)) intLawC rfl rfl rfl .here ?_
      rw [cont_del]
      (refine gw_nil ?_; refine gH ?_)
      refine gx_roundE (U.eraseIdx i, some (U[i].1, Value.map (some U[i].2))) ((List.eraseIdx_sublist _ _).trans hU) (by dsimp only; rw [List.length_eraseIdx_of_lt hi']; omega) kK trivial ?_
      dsimp only
      rw [hm2]
      exact Ent.trans maps_join (Sub.ent (.cons (.there .here) (.cons .here (.cons .here .nil))))
    ·(refine gK ?_; refine gX ?_; refine gG ?_; refine gM ?_; refine gA ?_; refine gM ?_; refine gw_nil ?_; refine gH ?_)
     refine gx_round (j + 1) ⟨by omega, hsn ?_⟩ (by omega) kK ⟨rfl, trivial⟩ (Sub.all _)
     unfold readyB
     rw [ho, Bool.not_false, Bool.true_and, ← Bool.not_eq_true]
     exact fun hc => h3 (by have := hce.2 hc; omega)
   ·have hget : aget (openA T) (j : Int) = none := aget_out (by rw [openA_keys, hA.mem hjl]; exact ho)
    (refine gK ?_; refine gX ?_; refine gB ?_; refine gQ ?_; refine gV ?_; (iterate 2 refine gM ?_); apply gw_d; exact det_eq (c' := .tuple #[.map none, .bool false]) (w_lookup_ok (k := (j : Int)) intLawC rfl rfl rfl rfl .here) (by rw [hget]; rfl); refine gM ?_; apply gw_d; exact det_extract rfl rfl rfl (by conv => (lhs; whnf)); apply gw_d; exact det_extract rfl rfl rfl (by conv => (lhs; whnf)); (iterate 2 refine gM ?_); refine gN ?_; (iterate 2 refine gM ?_); (iterate 3 refine gU ?_); refine gPq ?_; refine gO ?_; refine gc_if_false rfl ?_; refine gK ?_; refine gX ?_; refine gG ?_; refine gM ?_; refine gA ?_; refine gM ?_; refine gw_nil ?_; refine gH ?_)
    refine gx_round (j + 1) ⟨by omega, hsn ?_⟩ (by omega) kK ⟨rfl, trivial⟩ (Sub.all _)
    unfold readyB
    rw [Bool.not_eq_false] at ho
    rw [ho]
    rfl
  ·obtain rfl : j = l.length := by omega
   have hnone : nextOf l o = none := List.find?_eq_none.2 fun i hi => by rw [hJ i (List.mem_range.1 hi)]; decide
   have hso : sortedL l = o := by rw [← hA.arr, arr_end hnone]
   have hfull : fullB l = false := by unfold fullB; rw [hso]; exact decide_eq_false (by omega)
   (refine gI ?_; (iterate 2 refine gZ ?_); refine gJ ?_; refine gX ?_; refine gQ ?_; refine gV ?_; (iterate 2 refine gM ?_); refine gL ?_; refine gC ?_; refine gO ?_)
   refine gc_if_dec rfl (fun _ => ?_) (fun h4 => absurd rfl h4)
   (refine gV ?_; (iterate 2 refine gM ?_); refine gO ?_; refine gR ?_; refine gT ?_; refine gY ?_; refine gT ?_; refine gY ?_; refine gT ?_)
   refine gx_ret2 (u := .slice _ _ _) (v := .bool _) rfl rfl rfl (fun w' s => ⟨(none, 0), ?_, ?_⟩)
   ·rw [hfull]; rfl
   ·rw [hfull]; exact trivial
 ·have hT0 : T.length = 0 := by omega
  have hso : sortedL l = o := by rw [← hA.arr, show l.length - o.length = 0 by omega]; rfl
  have hfull : fullB l = true := by unfold fullB; rw [hso]; exact decide_eq_true (by omega)
  have hol : o.length = l.length := by omega
  (refine gI ?_; (iterate 2 refine gZ ?_); refine gJ ?_; refine gX ?_; refine gV ?_; (iterate 3 refine gM ?_); refine gO ?_; refine gR ?_)
  refine gx_ret2 (u := .slice _ _ _) (v := .bool _) rfl rfl rfl (fun w' s => ⟨(A, c), ?_, ?_⟩)
  ·rw [if_pos hfull, hfull, hol]
  ·rw [if_pos hfull, hso, ← hol]
   exact (s.sub (.cons (.there (.there .here)) .nil)).sep
def encI (i : Int) : List Value := [.int .i64 i]
theorem flat_encI (o : List Int) : o.flatMap encI = o.map (Value.int .i64) := by
 induction o with
 | nil => rfl
 | cons x o ih => rw [List.flatMap_cons, ih]; rfl
theorem Sl.ownI {w0 w : World} {L L' : List Res} {A : Option Addr} {n c : Nat} {el : TypeId} {o : List Int} (s : St w0 L w) (hp : Pick L (Own A n c el 1 (o.map (Value.int .i64))) L') (hn : n = o.length) (hin : ∀ x ∈ o, inI64 x) : Sl rInt w w.heap.size (.slice A n c) o := by
 rw [← flat_encI] at hp
 exact Sl.own (R := rInt) (enc := encI) s hp hn fun x hx => ⟨rfl, hin x hx⟩
theorem Sl.boxI {w0 w : World} {L L' : List Res} {b : Nat} {bt : TypeId} {n c : Nat} {o : List Int} (s : St w0 L w) (hp : Pick L (Box b bt (o.map (Value.int .i64)).toArray) L') (hn : n = o.length) (hc : n ≤ c) (hc2 : c ≤ 1000000) (hin : ∀ x ∈ o, inI64 x) : Sl rInt w w.heap.size (.slice (some ⟨b, 0, none⟩) n c) o := by
 have hs := s.pick hp
 have hb : b < w.heap.size := (hs.sep.fp _ List.mem_cons_self b rfl).2
 subst hn
 refine ⟨_, c, rfl, hc, by unfold maxLen; omega, fun k hk => ⟨⟨b, 0, none⟩, [.int .i64 o[k]], rfl, hb, fun j u hu => ?_, rfl, hin _ (List.getElem_mem hk)⟩⟩
 cases j with
 | succ j => simp at hu
 | zero =>
  rw [add_zero, show rInt.size = 1 from rfl, Nat.mul_one, Nat.add_zero, Box.cell hs.head k]
  simp at hu
  subst hu
  simp [hk]
section
variable {P : Program} {ops : Array Oper} {Q : Exit → Act → World → Prop} {N : Nat} {w0 : World} {L L' : List Res} {rest : List Oper} {e : Env}
theorem gc_ownbox {code : Code} {A : Option Addr} {n c : Nat} {el : TypeId} {sz : Nat} {xs : List Value} (hn : 0 < n) (hp : Pick L (Own A n c el sz xs) L') (k : ∀ g cs, A = some ⟨g, 0, none⟩ → (n ≤ c ∧ c ≤ maxLen ∧ cs.size = c * sz) → cs.toList.take (n * sz) = xs → GC P Q N w0 (Box g el cs :: L') code e) : GC P Q N w0 L code e := ⟨fun w s => by
 have s1 := s.pick hp
 have hown : w.ownsRow 0 el sz (.slice A n c) n xs := s1.head
 rcases hown.2 with ⟨_, h0⟩ | ⟨g, cap, cur, hv, _, hg, h1, h2, h3, h4⟩
 ·omega
 ·injection hv with e1 e2 e3
  subst e1 e3
  exact (k g cur rfl ⟨h1, h2, h3⟩ h4).h w (s1.turn (r' := Box g el cur) (Nat.le_refl _) rfl rfl rfl (fun _ _ _ => rfl) hg fun x hx => .inl (by show some g = some x; rw [show x = g from hx]))⟩
end
theorem box_own {g n c : Nat} {el : TypeId} {sz : Nat} {cs : Array Value} {xs : List Value} {L : List Res} (h : n ≤ c ∧ c ≤ maxLen ∧ cs.size = c * sz) (ht : cs.toList.take (n * sz) = xs) : Ent (Box g el cs :: L) (Own (some ⟨g, 0, none⟩) n c el sz xs :: L) := fun w0 w s =>
 s.turn (Nat.le_refl _) rfl rfl rfl (fun _ _ _ => rfl) ⟨by rw [← ht, List.length_take, Array.length_toList, h.2.2]; exact Nat.min_eq_left (Nat.mul_le_mul_right _ h.1), .inr ⟨g, c, cs, rfl, Nat.zero_le _, s.head, h.1, h.2.1, h.2.2, ht⟩⟩ fun x hx => .inl (by
  have : some g = some x := hx
  injection this with this
  exact this.symm)
theorem arrange_good (w : World) (v : Value) (l : List Opn) (hl : Sl rOp w w.heap.size v l) (h16 : l.length ≤ 16) (hf : fullB l = true) :
  OkM Tryz.prog 58 [v].toArray w (fun x : Option Addr × Nat => .tuple #[.slice x.1 l.length x.2, .bool true]) (fun x => [Own x.1 l.length x.2 3 1 ((sortedL l).map (Value.int .i64))]) := by
 have h := arrange_ok w v l hl h16
 simp only [hf, if_true] at h
 exact h
theorem arrange_bad (w : World) (v : Value) (l : List Opn) (hl : Sl rOp w w.heap.size v l) (h16 : l.length ≤ 16) (hf : fullB l = false) :
  OkM Tryz.prog 58 [v].toArray w (fun x : Option Addr × Nat => .tuple #[.slice x.1 0 x.2, .bool false]) (fun _ => []) := by
 have h := arrange_ok w v l hl h16
 simp only [hf, Bool.false_eq_true, if_false] at h
 exact h

def listE (l : List Opn) (uses : Int) : Int := if 16 < l.length then 5 else if ¬ firstE (opE l uses) l.length = 0 then firstE (opE l uses) l.length else if fullB l = true then 0 else 9

theorem checkList_bad (w : World) (v : Value) (l : List Opn) (uses : Int) (hl : Sl rOp w w.heap.size v l) (hne : ¬ listE l uses = 0) :
  Ok Tryz.prog 40 [v, .int .i64 uses].toArray w fun r _ => r = .tuple #[.slice none 0 0, .int .i64 (listE l uses)] := by
 obtain ⟨A0, c0, rfl, hc, hm⟩ := len_small hl
 refine ok_enter Tryz.func40 rfl Tryz.ntmps40 rfl ?_
 (refine gV ?_; (iterate 2 refine gM ?_); refine gO ?_; refine gQ ?_; refine gV ?_; refine gM ?_; refine gL ?_; refine gC ?_; refine gO ?_)
 refine gc_if_dec rfl (fun h => ?_) (fun h => ?_)
 ·(refine gV ?_; (iterate 2 refine gM ?_); refine gO ?_; refine gR ?_; refine gT ?_)
  refine gx_ret2 (u := .slice _ _ _) (v := .int _ _) rfl rfl rfl (fun _ _ => ?_)
  unfold listE
  rw [if_pos (by omega)]
 have h16 : ¬ 16 < l.length := by omega
 (refine gK ?_; refine gX ?_; refine gQ ?_; refine gV ?_; refine gM ?_; refine gL ?_; refine gM ?_; refine gO ?_; refine gB ?_)
 refine gc_loop (σ := Nat) [16, 17, 6, 18, 19, 20, 21, 7, 22, 23, 24, 4, 5, 25, 15] (fun k => [(15, .int .i64 k)]) (fun _ => []) (fun k => k ≤ l.length ∧ firstE (opE l uses) k = 0) (fun k => l.length - k) 0 ⟨Nat.zero_le _, rfl⟩ ⟨rfl, trivial⟩ .nil ?_
 rintro k base ⟨hk, hI⟩
 (refine gV ?_; refine gC ?_; refine gO ?_; refine gQ ?_)
 refine gc_if_dec rfl (fun h => ?_) (fun h => ?_)
 ·have hlt : k < l.length := by omega
  (refine gK ?_; refine gX ?_; refine gQ ?_; refine gB ?_; refine gV ?_; (iterate 2 refine gM ?_); refine gN ?_; (iterate 3 refine gM ?_); apply gw_d; exact w_call rfl rfl (fun w s => checkOne_ok w _ l k uses (hl.later s) hlt) rfl; refine gM ?_; refine gN ?_; refine gM ?_; refine gC ?_; refine gO ?_)
  refine gc_if_dec rfl (fun h => ?_) (fun h => ?_)
  ·(refine gV ?_; (iterate 3 refine gM ?_); refine gO ?_; refine gR ?_; refine gY ?_; (iterate 2 refine gT ?_); refine gY ?_; refine gT ?_)
   refine gx_ret2 (u := .slice _ _ _) (v := .int _ _) rfl rfl rfl (fun _ _ => ?_)
   have := firstE_stop hI h hlt
   unfold listE
   rw [if_neg h16, this, if_pos h]
  ·(refine gK ?_; refine gH ?_; refine gX ?_; refine gG ?_; refine gA ?_; refine gM ?_; refine gw_nil ?_)
   exact gx_round (k + 1) ⟨by omega, firstE_snoc hI (by simpa using h)⟩ (by omega) kK ⟨rfl, trivial⟩ .nil
 obtain rfl : k = l.length := by omega
 have hE : listE l uses = if fullB l = true then 0 else 9 := by unfold listE; rw [if_neg h16, if_neg (by rw [hI]; decide)]
 have hf : fullB l = false := by
  cases hb : fullB l with
  | false => rfl
  | true => rw [hE, hb] at hne; exact absurd rfl hne
 (refine gI ?_; (iterate 2 refine gZ ?_); refine gJ ?_; refine gX ?_; refine gV ?_; refine gM ?_)
 refine gw_callm rfl (fun w s => arrange_bad w _ l (hl.later s) (by omega) hf) rfl (fun x => ?_)
 (refine gM ?_; apply gw_d; exact det_extract rfl rfl rfl (by conv => (lhs; whnf)); apply gw_d; exact det_extract rfl rfl rfl (by conv => (lhs; whnf)); (iterate 2 refine gM ?_); refine gO ?_; refine gQ ?_; refine gV ?_; refine gM ?_; apply gw_d; exact det_not_ rfl rfl rfl; refine gO ?_)
 refine gc_if_true rfl ?_
 (refine gV ?_; (iterate 2 refine gM ?_); refine gO ?_; refine gR ?_; refine gT ?_)
 refine gx_ret2 (u := .slice _ _ _) (v := .int _ _) rfl rfl rfl (fun _ _ => ?_)
 rw [hE, hf]
 rfl
theorem checkList_good (w : World) (v : Value) (l : List Opn) (uses : Int) (hl : Sl rOp w w.heap.size v l) (he : listE l uses = 0) :
  OkM Tryz.prog 40 [v, .int .i64 uses].toArray w (fun x : Option Addr × Nat => .tuple #[.slice x.1 l.length x.2, .int .i64 0]) (fun x => [Own x.1 l.length x.2 3 1 ((sortedL l).map (Value.int .i64))]) := by
 obtain ⟨A0, c0, rfl, hc, hm⟩ := len_small hl
 have h16 : ¬ 16 < l.length := fun h => by unfold listE at he; rw [if_pos h] at he; cases he
 have hI0 : firstE (opE l uses) l.length = 0 := by
  unfold listE at he
  rw [if_neg h16] at he
  split at he
  ·rename_i h1; exact absurd he h1
  ·rename_i h1; simpa using h1
 have hf : fullB l = true := by
  unfold listE at he
  rw [if_neg h16, if_neg (by rw [hI0]; decide)] at he
  split at he
  ·assumption
  ·cases he
 unfold OkM
 refine ok_enter Tryz.func40 rfl Tryz.ntmps40 rfl ?_
 (refine gV ?_; (iterate 2 refine gM ?_); refine gO ?_; refine gQ ?_; refine gV ?_; refine gM ?_; refine gL ?_; refine gC ?_; refine gO ?_)
 refine gc_if_dec rfl (fun h => by omega) (fun h => ?_)
 (refine gK ?_; refine gX ?_; refine gQ ?_; refine gV ?_; refine gM ?_; refine gL ?_; refine gM ?_; refine gO ?_; refine gB ?_)
 refine gc_loop (σ := Nat) [16, 17, 6, 18, 19, 20, 21, 7, 22, 23, 24, 4, 5, 25, 15] (fun k => [(15, .int .i64 k)]) (fun _ => []) (fun k => k ≤ l.length) (fun k => l.length - k) 0 (Nat.zero_le _) ⟨rfl, trivial⟩ .nil ?_
 rintro k base hk
 (refine gV ?_; refine gC ?_; refine gO ?_; refine gQ ?_)
 refine gc_if_dec rfl (fun h => ?_) (fun h => ?_)
 ·have hlt : k < l.length := by omega
  have h0 := firstE_at hI0 k hlt
  (refine gK ?_; refine gX ?_; refine gQ ?_; refine gB ?_; refine gV ?_; (iterate 2 refine gM ?_); refine gN ?_; (iterate 3 refine gM ?_); apply gw_d; exact w_call rfl rfl (fun w s => checkOne_ok w _ l k uses (hl.later s) hlt) rfl; refine gM ?_; refine gN ?_; refine gM ?_; refine gC ?_; refine gO ?_)
  refine gc_if_dec rfl (fun h => absurd h0 h) (fun h => ?_)
  (refine gK ?_; refine gH ?_; refine gX ?_; refine gG ?_; refine gA ?_; refine gM ?_; refine gw_nil ?_)
  exact gx_round (k + 1) hlt (by omega) kK ⟨rfl, trivial⟩ .nil
 obtain rfl : k = l.length := by omega
 (refine gI ?_; (iterate 2 refine gZ ?_); refine gJ ?_; refine gX ?_; refine gV ?_; refine gM ?_)
 refine gw_callm rfl (fun w s => arrange_good w _ l (hl.later s) (by omega) hf) rfl (fun x => ?_)
 (refine gM ?_; apply gw_d; exact det_extract rfl rfl rfl (by conv => (lhs; whnf)); apply gw_d; exact det_extract rfl rfl rfl (by conv => (lhs; whnf)); (iterate 2 refine gM ?_); refine gO ?_; refine gQ ?_; refine gV ?_; refine gM ?_; apply gw_d; exact det_not_ rfl rfl rfl; refine gO ?_)
 refine gc_if_false rfl ?_
 (refine gK ?_; refine gX ?_; refine gV ?_; (iterate 3 refine gM ?_); refine gO ?_; refine gR ?_)
 exact gx_ret2 (u := .slice _ _ _) (v := .int _ _) rfl rfl rfl (fun w' s => ⟨x, rfl, s.sep⟩)
theorem Order_bad (w : World) (v : Value) (l : List Opn) (hl : Sl rOp w w.heap.size v l) (hne : ¬ listE l (-1) = 0) :
  Ok Tryz.prog 31 [v].toArray w fun r _ => r = .tuple #[.slice none 0 0, .int .i64 (listE l (-1))] := by
 obtain ⟨A0, c0, rfl, hc, hm⟩ := len_small hl
 refine ok_enter Tryz.func31 rfl Tryz.ntmps31 rfl ?_
 (refine gV ?_; (iterate 2 refine gM ?_); refine gN ?_; refine gM ?_; apply gw_d; exact w_call rfl rfl (fun w s => checkList_bad w _ l (-1) (hl.later s) hne) rfl; apply gw_d; exact det_extract rfl rfl rfl (by conv => (lhs; whnf)); apply gw_d; exact det_extract rfl rfl rfl (by conv => (lhs; whnf)); (iterate 2 refine gM ?_); refine gO ?_; refine gR ?_)
 refine gx_ret2 (u := .slice _ _ _) (v := .int _ _) rfl rfl rfl (fun _ _ => ?_)
 rfl
theorem Order_good (w : World) (v : Value) (l : List Opn) (hl : Sl rOp w w.heap.size v l) (he : listE l (-1) = 0) :
  OkM Tryz.prog 31 [v].toArray w (fun x : Option Addr × Nat => .tuple #[.slice x.1 l.length x.2, .int .i64 0]) (fun x => [Own x.1 l.length x.2 3 1 ((sortedL l).map (Value.int .i64))]) := by
 obtain ⟨A0, c0, rfl, hc, hm⟩ := len_small hl
 unfold OkM
 refine ok_enter Tryz.func31 rfl Tryz.ntmps31 rfl ?_
 (refine gV ?_; (iterate 2 refine gM ?_); refine gN ?_; refine gM ?_)
 refine gw_callm rfl (fun w s => checkList_good w _ l (-1) (hl.later s) he) rfl (fun x => ?_)
 (apply gw_d; exact det_extract rfl rfl rfl (by conv => (lhs; whnf)); apply gw_d; exact det_extract rfl rfl rfl (by conv => (lhs; whnf)); (iterate 2 refine gM ?_); refine gO ?_; refine gR ?_)
 exact gx_ret2 (u := .slice _ _ _) (v := .int _ _) rfl rfl rfl (fun w' s => ⟨x, rfl, s.sep⟩)
def overB (l : List Opn) (c : Int) : Bool := l.any fun o => decide (o.minutes > c)
def bndE (l : List Opn) (c : Int) : Int := if ¬ listE l (-1) = 0 then listE l (-1) else if c < 1 ∨ c > 1000000 then 3 else if overB l c = true then 18 else 0
theorem opE_minutes {l : List Opn} {u : Int} {i : Nat} (hi : i < l.length) (h : opE l u i = 0) : 1 ≤ l[i].minutes ∧ l[i].minutes ≤ 10000 ∧ 0 ≤ l[i].machine ∧ l[i].machine < 8 ∧ areIx l[i].after l.length = true := by
 unfold opE at h
 rw [List.getElem?_eq_getElem hi] at h
 dsimp only at h
 split at h
 ·cases h
 split at h
 ·cases h
 split at h
 ·cases h
 rename_i h3
 split at h
 ·cases h
 rename_i h4
 refine ⟨by omega, by omega, by omega, by omega, ?_⟩
 cases hb : areIx l[i].after l.length with
 | true => rfl
 | false => exact absurd (Or.inl hb) h4
theorem list_minutes {l : List Opn} (h : listE l (-1) = 0) : l.length ≤ 16 ∧ ∀ i (hi : i < l.length), 1 ≤ l[i].minutes ∧ l[i].minutes ≤ 10000 ∧ 0 ≤ l[i].machine ∧ l[i].machine < 8 ∧ areIx l[i].after l.length = true := by
 unfold listE at h
 split at h
 ·cases h
 split at h
 ·rename_i h2; exact absurd h h2
 rename_i h1 h2
 exact ⟨by omega, fun i hi => opE_minutes hi (firstE_at (Classical.not_not.1 h2) i hi)⟩
theorem bnd_zero {l : List Opn} {c : Int} (h : bndE l c = 0) : listE l (-1) = 0 ∧ 1 ≤ c ∧ c ≤ 1000000 ∧ overB l c = false := by
 unfold bndE at h
 split at h
 ·rename_i h1; exact absurd h h1
 rename_i h1
 split at h
 ·cases h
 split at h
 ·cases h
 rename_i h2 h3
 exact ⟨Classical.not_not.1 h1, by omega, by omega, by simpa using h3⟩
theorem Bound_bad (w : World) (v : Value) (c : Int) (l : List Opn) (hl : Sl rOp w w.heap.size v l) (he : ¬ bndE l c = 0) :
  Ok Tryz.prog 15 [v, .int .i64 c].toArray w fun r _ => r = .tuple #[.int .i64 0, .int .i64 (bndE l c)] := by
 by_cases h1 : listE l (-1) = 0
 ·have hG := fun (L : List Res) (w' : World) (s' : St w L w') => Order_good w' v l (hl.later s') h1
  obtain ⟨h16, hmin⟩ := list_minutes h1
  obtain ⟨A, ca, rfl, hlc, hlm⟩ := len_small hl
  by_cases h2 : c < 1 ∨ c > 1000000
  ·have hE : bndE l c = 3 := by unfold bndE; rw [if_neg (fun h => h h1), if_pos h2]
   rw [hE]
   refine ok_enter Tryz.func15 rfl Tryz.ntmps15 rfl ?_
   (refine gV ?_; (iterate 2 refine gM ?_); refine gO ?_; refine gQ ?_; refine gV ?_; refine gM ?_)
   refine gw_callm rfl (hG _) rfl (fun x => ?_)
   obtain ⟨O, cO⟩ := x
   (refine gM ?_; apply gw_d; exact det_extract rfl rfl rfl (by conv => (lhs; whnf)); apply gw_d; exact det_extract rfl rfl rfl (by conv => (lhs; whnf)); (iterate 2 refine gM ?_); refine gN ?_; refine gM ?_; refine gC ?_; refine gO ?_)
   refine gc_if_dec rfl (fun h => absurd rfl h) (fun _ => ?_)
   focus (refine gK ?_; refine gX ?_; refine gQ ?_; refine gV ?_; refine gM ?_; refine gC ?_; refine gM ?_; refine gD (fun _ => ?_) (fun _ => ?_); (iterate 2 refine gU ?_); refine gPp ?_; refine gO ?_; refine gc_if_true rfl ?_; refine gV ?_; (iterate 2 refine gM ?_); refine gO ?_; refine gR ?_; refine gT ?_; rotate_left; refine gM ?_; refine gC ?_; refine gPq ?_; refine gO ?_; refine gc_if_dec rfl (fun _ => ?_) (fun _ => ?_); refine gV ?_; (iterate 2 refine gM ?_); refine gO ?_; refine gR ?_; refine gT ?_; rotate_left; refine gK ?_; refine gX ?_; refine gV ?_; (iterate 2 refine gM ?_); refine gO ?_; refine gQ ?_; refine gV ?_; refine gM ?_; refine gL ?_; refine gM ?_; refine gO ?_; refine gB ?_; rotate_left)
   all_goals first | (exfalso; omega) | skip
   all_goals (refine gx_ret2 (u := .int _ _) (v := .int _ _) rfl rfl rfl (fun _ _ => ?_); rfl)
  ·have h3 : overB l c = true := by
    cases hb : overB l c with
    | true => rfl
    | false => exact absurd (show bndE l c = 0 by unfold bndE; rw [if_neg (fun h => h h1), if_neg h2, if_neg (by rw [hb]; decide)]) he
   have hE : bndE l c = 18 := by unfold bndE; rw [if_neg (fun h => h h1), if_neg h2, if_pos h3]
   rw [hE]
   refine ok_enter Tryz.func15 rfl Tryz.ntmps15 rfl ?_
   (refine gV ?_; (iterate 2 refine gM ?_); refine gO ?_; refine gQ ?_; refine gV ?_; refine gM ?_)
   refine gw_callm rfl (hG _) rfl (fun x => ?_)
   obtain ⟨O, cO⟩ := x
   (refine gM ?_; apply gw_d; exact det_extract rfl rfl rfl (by conv => (lhs; whnf)); apply gw_d; exact det_extract rfl rfl rfl (by conv => (lhs; whnf)); (iterate 2 refine gM ?_); refine gN ?_; refine gM ?_; refine gC ?_; refine gO ?_)
   refine gc_if_dec rfl (fun h => absurd rfl h) (fun _ => ?_)
   focus (refine gK ?_; refine gX ?_; refine gQ ?_; refine gV ?_; refine gM ?_; refine gC ?_; refine gM ?_; refine gD (fun _ => ?_) (fun _ => ?_); (iterate 2 refine gU ?_); refine gPp ?_; refine gO ?_; refine gc_if_true rfl ?_; refine gV ?_; (iterate 2 refine gM ?_); refine gO ?_; refine gR ?_; refine gT ?_; rotate_left; refine gM ?_; refine gC ?_; refine gPq ?_; refine gO ?_; refine gc_if_dec rfl (fun _ => ?_) (fun _ => ?_); refine gV ?_; (iterate 2 refine gM ?_); refine gO ?_; refine gR ?_; refine gT ?_; rotate_left; refine gK ?_; refine gX ?_; refine gV ?_; (iterate 2 refine gM ?_); refine gO ?_; refine gQ ?_; refine gV ?_; refine gM ?_; refine gL ?_; refine gM ?_; refine gO ?_; refine gB ?_; rotate_left)
   all_goals first | (exfalso; omega) | skip
   refine gc_loopK (σ := Nat × Int × Int) [29, 30, 31, 11, 32, 33, 34, 35, 4, 5, 36, 37, 38, 39, 8, 40, 41, 42, 43, 44, 45, 46, 9, 47, 28] (fun q => [(28, .int .i64 q.1), (8, .int .i64 q.2.1), (9, .int .i64 q.2.2)]) (fun q => q.1 ≤ l.length ∧ (0 ≤ q.2.1 ∧ q.2.1 ≤ 10000 * q.1) ∧ (0 ≤ q.2.2 ∧ q.2.2 ≤ q.1) ∧ overB (l.take q.1) c = false) (fun q => l.length - q.1) (0, 0, 0) ⟨Nat.zero_le _, by dsimp only; omega, by dsimp only; omega, rfl⟩ ⟨rfl, rfl, rfl, trivial⟩ ?_
   rintro ⟨k, su, la⟩ base ⟨hk, hs1, hs2, hov⟩
   dsimp only at hk hs1 hs2 hov ⊢
   (refine gV ?_; refine gC ?_; refine gO ?_; refine gQ ?_)
   refine gc_if_dec rfl (fun h => ?_) (fun h => ?_)
   ·have hlt : k < l.length := by omega
    obtain ⟨ad, _, hv, _, _, hb1, hcell⟩ := hl.at' 5 rfl (by omega)
    injection hv with e1 e2 e3
    subst e1 e3
    obtain ⟨cs', hce, Aa, ca2, Au, cu, rfl, hnm, q1, q2⟩ := hcell k hlt
    have hmk := hmin k hlt
    (refine gK ?_; refine gX ?_; refine gQ ?_; refine gB ?_; refine gV ?_; apply gw_d; exact w_index rfl rfl rfl rfl (by with_reducible exact rfl) (by omega); apply gw_d; exact w_load_elem rfl rfl rfl (by assumption) (by assumption) (by rfl); refine w_alloc rfl (fun _ => ?_); refine w_store_all rfl rfl rfl rfl rfl .here rfl ?_; refine gO ?_; refine gQ ?_; refine gV ?_; refine gF ?_; refine gW .here ?_; refine gM ?_; refine gC ?_; refine gO ?_)
    refine gc_if_dec rfl (fun h4 => ?_) (fun h4 => ?_)
    ·(refine gV ?_; (iterate 2 refine gM ?_); refine gO ?_; refine gR ?_; refine gT ?_; refine gY ?_; (iterate 2 refine gT ?_); refine gY ?_; refine gT ?_)
     refine gx_ret2 (u := .int _ _) (v := .int _ _) rfl rfl rfl (fun _ _ => ?_)
     rfl
    ·have hov2 : overB (l.take (k + 1)) c = false := any_snoc hlt hov (decide_eq_false h4)
     focus (refine gK ?_; refine gX ?_; refine gV ?_; refine gM ?_; refine gF ?_; refine gW .here ?_; refine gA ?_; refine gM ?_; refine gN ?_; refine gF ?_; refine gW .here ?_; refine gA ?_; refine gM ?_; refine gC ?_; refine gO ?_; refine gc_if_dec rfl (fun _ => ?_) (fun _ => ?_); refine gG ?_; refine gM ?_; refine gA ?_; refine gM ?_; refine gw_nil ?_; refine gH ?_; refine gX ?_; refine gG ?_; refine gA ?_; refine gM ?_; refine gw_nil ?_; rotate_left; refine gK ?_; refine gH ?_; refine gX ?_; refine gG ?_; refine gA ?_; refine gM ?_; refine gw_nil ?_; rotate_left)
     all_goals exact gx_round (k + 1, _, _) ⟨by dsimp only; omega, by dsimp only; omega, by dsimp only; omega, hov2⟩ (by dsimp only; omega) kK ⟨rfl, rfl, rfl, trivial⟩ Sub.tail
   ·obtain rfl : k = l.length := by omega
    rw [List.take_length, h3] at hov
    cases hov
 ·have hE : bndE l c = listE l (-1) := by unfold bndE; rw [if_pos h1]
  rw [hE]
  have hB := fun (L : List Res) (w' : World) (s' : St w L w') => Order_bad w' v l (hl.later s') h1
  generalize listE l (-1) = e at h1 hB
  obtain ⟨A, ca, rfl, hlc, hlm⟩ := len_small hl
  refine ok_enter Tryz.func15 rfl Tryz.ntmps15 rfl ?_
  (refine gV ?_; (iterate 2 refine gM ?_); refine gO ?_; refine gQ ?_; refine gV ?_; refine gM ?_; apply gw_d; exact w_call rfl rfl (hB _) rfl; refine gM ?_; apply gw_d; exact det_extract rfl rfl rfl (by conv => (lhs; whnf)); apply gw_d; exact det_extract rfl rfl rfl (by conv => (lhs; whnf)); (iterate 2 refine gM ?_); refine gN ?_; refine gM ?_; refine gC ?_; refine gO ?_)
  refine gc_if_dec rfl (fun _ => ?_) (fun h => absurd h1 h)
  (refine gV ?_; (iterate 3 refine gM ?_); refine gO ?_; refine gR ?_; refine gT ?_)
  refine gx_ret2 (u := .int _ _) (v := .int _ _) rfl rfl rfl (fun _ _ => ?_)
  rfl
theorem Bound_ok (w : World) (v : Value) (c : Int) (l : List Opn) (hl : Sl rOp w w.heap.size v l) (he : bndE l c = 0) :
  OkM Tryz.prog 15 [v, .int .i64 c].toArray w (fun x : Int => .tuple #[.int .i64 x, .int .i64 0]) (fun _ => []) := by
 obtain ⟨h1, hc1, hc2, hov⟩ := bnd_zero he
 have hG := fun (L : List Res) (w' : World) (s' : St w L w') => Order_good w' v l (hl.later s') h1
 obtain ⟨h16, hmin⟩ := list_minutes h1
 obtain ⟨A, ca, rfl, hlc, hlm⟩ := len_small hl
 unfold OkM
 refine ok_enter Tryz.func15 rfl Tryz.ntmps15 rfl ?_
 (refine gV ?_; (iterate 2 refine gM ?_); refine gO ?_; refine gQ ?_; refine gV ?_; refine gM ?_)
 refine gw_callm rfl (hG _) rfl (fun x => ?_)
 obtain ⟨O, cO⟩ := x
 (refine gM ?_; apply gw_d; exact det_extract rfl rfl rfl (by conv => (lhs; whnf)); apply gw_d; exact det_extract rfl rfl rfl (by conv => (lhs; whnf)); (iterate 2 refine gM ?_); refine gN ?_; refine gM ?_; refine gC ?_; refine gO ?_)
 refine gc_if_dec rfl (fun h => absurd rfl h) (fun _ => ?_)
 focus (refine gK ?_; refine gX ?_; refine gQ ?_; refine gV ?_; refine gM ?_; refine gC ?_; refine gM ?_; refine gD (fun _ => ?_) (fun _ => ?_); (iterate 2 refine gU ?_); refine gPp ?_; refine gO ?_; refine gc_if_true rfl ?_; refine gV ?_; (iterate 2 refine gM ?_); refine gO ?_; refine gR ?_; refine gT ?_; rotate_left; refine gM ?_; refine gC ?_; refine gPq ?_; refine gO ?_; refine gc_if_dec rfl (fun _ => ?_) (fun _ => ?_); refine gV ?_; (iterate 2 refine gM ?_); refine gO ?_; refine gR ?_; refine gT ?_; rotate_left; refine gK ?_; refine gX ?_; refine gV ?_; (iterate 2 refine gM ?_); refine gO ?_; refine gQ ?_; refine gV ?_; refine gM ?_; refine gL ?_; refine gM ?_; refine gO ?_; refine gB ?_; rotate_left)
 all_goals first | (exfalso; omega) | skip
 refine gc_loopK (σ := Nat × Int × Int) [29, 30, 31, 11, 32, 33, 34, 35, 4, 5, 36, 37, 38, 39, 8, 40, 41, 42, 43, 44, 45, 46, 9, 47, 28] (fun q => [(28, .int .i64 q.1), (8, .int .i64 q.2.1), (9, .int .i64 q.2.2)]) (fun q => q.1 ≤ l.length ∧ (0 ≤ q.2.1 ∧ q.2.1 ≤ 10000 * q.1) ∧ (0 ≤ q.2.2 ∧ q.2.2 ≤ q.1)) (fun q => l.length - q.1) (0, 0, 0) ⟨Nat.zero_le _, by dsimp only; omega, by dsimp only; omega⟩ ⟨rfl, rfl, rfl, trivial⟩ ?_
 rintro ⟨k, su, la⟩ base ⟨hk, hs1, hs2⟩
 dsimp only at hk hs1 hs2 ⊢
 (refine gV ?_; refine gC ?_; refine gO ?_; refine gQ ?_)
 refine gc_if_dec rfl (fun h => ?_) (fun h => ?_)
 ·have hlt : k < l.length := by omega
  obtain ⟨ad, _, hv, _, _, hb1, hcell⟩ := hl.at' 5 rfl (by omega)
  injection hv with e1 e2 e3
  subst e1 e3
  obtain ⟨cs', hce, Aa, ca2, Au, cu, rfl, hnm, q1, q2⟩ := hcell k hlt
  have hmk := hmin k hlt
  (refine gK ?_; refine gX ?_; refine gQ ?_; refine gB ?_; refine gV ?_; apply gw_d; exact w_index rfl rfl rfl rfl (by with_reducible exact rfl) (by omega); apply gw_d; exact w_load_elem rfl rfl rfl (by assumption) (by assumption) (by rfl); refine w_alloc rfl (fun _ => ?_); refine w_store_all rfl rfl rfl rfl rfl .here rfl ?_; refine gO ?_; refine gQ ?_; refine gV ?_; refine gF ?_; refine gW .here ?_; refine gM ?_; refine gC ?_; refine gO ?_)
  refine gc_if_dec rfl (fun h4 => ?_) (fun h4 => ?_)
  ·have := List.any_eq_false.1 hov l[k] (List.getElem_mem hlt)
   exact absurd (decide_eq_true h4) this
  ·focus (refine gK ?_; refine gX ?_; refine gV ?_; refine gM ?_; refine gF ?_; refine gW .here ?_; refine gA ?_; refine gM ?_; refine gN ?_; refine gF ?_; refine gW .here ?_; refine gA ?_; refine gM ?_; refine gC ?_; refine gO ?_; refine gc_if_dec rfl (fun _ => ?_) (fun _ => ?_); refine gG ?_; refine gM ?_; refine gA ?_; refine gM ?_; refine gw_nil ?_; refine gH ?_; refine gX ?_; refine gG ?_; refine gA ?_; refine gM ?_; refine gw_nil ?_; rotate_left; refine gK ?_; refine gH ?_; refine gX ?_; refine gG ?_; refine gA ?_; refine gM ?_; refine gw_nil ?_; rotate_left)
   all_goals exact gx_round (k + 1, _, _) ⟨by dsimp only; omega, by dsimp only; omega, by dsimp only; omega⟩ (by dsimp only; omega) kK ⟨rfl, rfl, rfl, trivial⟩ Sub.tail
 ·have hq : 0 ≤ (su + c - 1) / c ∧ (su + c - 1) / c ≤ 2000000 := by
   constructor
   ·exact Int.ediv_nonneg (by omega) (by omega)
   ·have := Int.ediv_le_self (a := su + c - 1) c (by omega)
    omega
  (refine gI ?_; (iterate 2 refine gZ ?_); refine gJ ?_; refine gX ?_; refine gV ?_; (iterate 2 refine gM ?_); refine gA ?_; refine gA ?_; refine gM ?_; apply gw_d; exact det_quo rfl rfl rfl rfl (by omega) (by omega) (by omega); refine gM ?_; apply gw_d; exact w_max rfl rfl rfl rfl; (iterate 2 refine gM ?_); refine gO ?_; refine gR ?_)
  exact gx_ret2 (u := .int _ _) (v := .int _ _) rfl rfl rfl (fun w' s => ⟨_, rfl, trivial⟩)
theorem ofI_nat {i : Nat} (h : i < 65536) : (BitVec.ofInt 64 (i : Int)).toNat = i := by
 rw [BitVec.toNat_ofInt]
 have : ((2 ^ 64 : Nat) : Int) = 18446744073709551616 := rfl
 rw [this]
 omega
section
variable {P : Program} {ops : Array Oper} {N : Nat} {w0 : World} {L : List Res} {e : Env} {o : Oper} {t : TypeId} {x y : Operand}
theorem run_bits3 {b : BinOp} {k : IntKind} {i j : Int} {yt : TypeId} {v : Value} {w : World} (hb : b = .and ∨ b = .or ∨ b = .andNot) (hop : o.op = .binOp b t x y yt) (hx : ev N e x = .int k i) (hy : ev N e y = .int k j) (hr : (Op.intBits b k i j).run P w = .ok v w) : (execOp (ev N e) o).run P w = .ok (.value v) w := by
 unfold execOp
 rcases hb with rfl | rfl | rfl <;> simp [hop, hx, hy, eqGuard, binOp, hr]
theorem det_orI {i j : Nat} {yt : TypeId} (hop : o.op = .binOp .or t x y yt) (hw : wantedE N ops e o = true) (hx : ev N e x = .int .i64 (i : Int)) (hy : ev N e y = .int .i64 (j : Int)) (hi : i < 65536) (hj : j < 65536) : Det P ops N w0 L o e (.int .i64 ((i ||| j : Nat) : Int)) :=
 det_pure hw fun w => run_bits3 (.inr (.inl rfl)) hop hx hy (by
  have h1 : (BitVec.ofInt IntKind.i64.bits (i : Int) ||| BitVec.ofInt IntKind.i64.bits (j : Int)).toNat = i ||| j := by
   show (BitVec.ofInt 64 (i : Int) ||| BitVec.ofInt 64 (j : Int)).toNat = _
   rw [BitVec.toNat_or, ofI_nat hi, ofI_nat hj]
  have h3 : i ||| j < 2 ^ 16 := Nat.or_lt_two_pow hi hj
  simp only [Op.intBits, h1]
  rw [wrap_in (by omega)]
  rfl)
theorem det_and1 {i : Nat} {yt : TypeId} (hop : o.op = .binOp .and t x y yt) (hw : wantedE N ops e o = true) (hx : ev N e x = .int .i64 (i : Int)) (hy : ev N e y = .int .i64 1) (hi : i < 65536) : Det P ops N w0 L o e (.int .i64 ((i % 2 : Nat) : Int)) :=
 det_pure hw fun w => run_bits3 (.inl rfl) hop hx hy (by
  have h1 : (BitVec.ofInt IntKind.i64.bits (i : Int) &&& BitVec.ofInt IntKind.i64.bits 1).toNat = i % 2 := by
   show (BitVec.ofInt 64 (i : Int) &&& BitVec.ofInt 64 1).toNat = _
   rw [BitVec.toNat_and, ofI_nat hi, show (BitVec.ofInt 64 1).toNat = 2 ^ 1 - 1 from rfl, Nat.and_two_pow_sub_one_eq_mod]
  simp only [Op.intBits, h1]
  rw [wrap_in (by omega)]
  rfl)
def less (i j : Nat) : Nat := i ^^^ (i &&& j)
theorem less_nat {i j : Nat} (hi : i < 2 ^ 64) (hj : j < 2 ^ 64) : i &&& (2 ^ 64 - 1 - j) = less i j := by
 apply Nat.eq_of_testBit_eq
 intro k
 unfold less
 rw [Nat.testBit_and, Nat.testBit_xor, Nat.testBit_and, show 2 ^ 64 - 1 - j = 2 ^ 64 - (j + 1) by omega, Nat.testBit_two_pow_sub_succ hj]
 cases hb : i.testBit k with
 | false => simp
 | true =>
  have : k < 64 := by
   apply Classical.byContradiction
   intro hk
   rw [Nat.testBit_lt_two_pow (Nat.lt_of_lt_of_le hi (Nat.pow_le_pow_right (by decide) (by omega)))] at hb
   cases hb
  simp [this]
theorem less_zero {i j : Nat} : less i j = 0 ↔ ∀ k, i.testBit k = true → j.testBit k = true := by
 unfold less
 constructor
 ·intro h k hk
  have := congrArg (fun n => Nat.testBit n k) h
  simp only [Nat.testBit_xor, Nat.testBit_and, Nat.zero_testBit, hk] at this
  simpa using this
 ·intro h
  apply Nat.eq_of_testBit_eq
  intro k
  rw [Nat.testBit_xor, Nat.testBit_and, Nat.zero_testBit]
  cases hb : i.testBit k with
  | false => simp
  | true => simp [h k hb]
theorem less_le (i j : Nat) (hi : i < 65536) : less i j < 65536 := by
 unfold less
 have h1 : i &&& j < 2 ^ 16 := Nat.lt_of_le_of_lt Nat.and_le_left hi
 exact Nat.xor_lt_two_pow (n := 16) hi h1
theorem det_andNotI {i j : Nat} {yt : TypeId} (hop : o.op = .binOp .andNot t x y yt) (hw : wantedE N ops e o = true) (hx : ev N e x = .int .i64 (i : Int)) (hy : ev N e y = .int .i64 (j : Int)) (hi : i < 65536) (hj : j < 65536) : Det P ops N w0 L o e (.int .i64 ((less i j : Nat) : Int)) :=
 det_pure hw fun w => run_bits3 (.inr (.inr rfl)) hop hx hy (by
  have h1 : (BitVec.ofInt IntKind.i64.bits (i : Int) &&& ~~~ BitVec.ofInt IntKind.i64.bits (j : Int)).toNat = less i j := by
   show (BitVec.ofInt 64 (i : Int) &&& ~~~ BitVec.ofInt 64 (j : Int)).toNat = _
   rw [BitVec.toNat_and, BitVec.toNat_not, ofI_nat hi, ofI_nat hj]
   exact less_nat (by omega) (by omega)
  have := less_le i j hi
  simp only [Op.intBits, h1]
  rw [wrap_in (by omega)]
  rfl)
end
def adS (f c m st : Int) : Int := if st = -1 then (if f + m > (f / c + 1) * c then f / c + 1 else f / c) else st
def adV (f c m st : Int) : Int := max f (adS f c m st * c) + m
def adB (f c m st : Int) : Bool := decide (adV f c m st ≤ (adS f c m st + 1) * c)
theorem add_ok (w : World) (f c m st : Int) (hf : 0 ≤ f ∧ f ≤ 100000000) (hc : 1 ≤ c ∧ c ≤ 1000000) (hm : 0 ≤ m ∧ m ≤ 10000) (hs : -1 ≤ st ∧ st ≤ 100) : Ok Tryz.prog 32 [.int .i64 f, .int .i64 c, .int .i64 m, .int .i64 st].toArray w fun r _ => r = .tuple #[.int .i64 (adV f c m st), .bool (adB f c m st)] := by
 have hq : 0 ≤ f / c := Int.ediv_nonneg hf.1 (by omega)
 have hq2 : f / c ≤ f := Int.ediv_le_self c hf.1
 have hq3 : f / c * c ≤ f := by
  have h1 := Int.mul_ediv_add_emod f c
  have h2 := Int.emod_nonneg f (b := c) (by omega)
  rw [Int.mul_comm]
  omega
 have hq4 : (f / c + 1) * c ≤ 200000000 := by
  rw [Int.add_mul]
  omega
 have hq5 : 0 ≤ (f / c + 1) * c := Int.mul_nonneg (by omega) (by omega)
 have hq6 : 0 ≤ f / c * c := Int.mul_nonneg hq (by omega)
 have hq7 : (f / c + 1 + 1) * c ≤ 300000000 := by
  rw [Int.add_mul]
  omega
 have hq8 : 0 ≤ (f / c + 1 + 1) * c := Int.mul_nonneg (by omega) (by omega)
 by_cases h1 : st = -1
 ·by_cases h2 : f + m > (f / c + 1) * c
  ·have hS : adS f c m st = f / c + 1 := by unfold adS; rw [if_pos h1, if_pos h2]
   have hV : adV f c m st = max f ((f / c + 1) * c) + m := by unfold adV; rw [hS]
   have hB : adB f c m st = decide (max f ((f / c + 1) * c) + m ≤ (f / c + 1 + 1) * c) := by unfold adB; rw [hV, hS]
   rw [hV, hB]
   refine ok_enter Tryz.func32 rfl Tryz.ntmps32 rfl ?_
   (refine gV ?_; (iterate 2 refine gM ?_); refine gO ?_; refine gQ ?_; refine gV ?_; refine gM ?_; refine gC ?_; refine gO ?_)
   refine gc_if_dec rfl (fun _ => ?_) (fun h => absurd h1 h)
   (refine gV ?_; (iterate 2 refine gM ?_); apply gw_d; exact det_quo rfl rfl rfl rfl (by omega) (by omega) (by omega); refine gM ?_; refine gN ?_; (iterate 2 refine gM ?_); refine gA ?_; refine gM ?_; refine gA ?_; refine gM ?_; refine gA ?_; refine gC ?_; refine gO ?_)
   refine gc_if_dec rfl (fun _ => ?_) (fun h => absurd h2 h)
   (refine gG ?_; refine gM ?_; refine gA ?_; refine gM ?_; refine gN ?_; (iterate 3 refine gM ?_); refine gA ?_; apply gw_d; exact w_max rfl rfl rfl rfl; refine gM ?_; refine gA ?_; refine gM ?_; refine gN ?_; (iterate 3 refine gM ?_); refine gA ?_; refine gM ?_; refine gA ?_; refine gC ?_; (iterate 2 refine gM ?_); refine gO ?_; refine gR ?_)
   exact gx_ret2 (u := .int _ _) (v := .bool _) rfl rfl rfl (fun w' s => rfl)
  ·have hS : adS f c m st = f / c := by unfold adS; rw [if_pos h1, if_neg h2]
   have hV : adV f c m st = max f (f / c * c) + m := by unfold adV; rw [hS]
   have hB : adB f c m st = decide (max f (f / c * c) + m ≤ (f / c + 1) * c) := by unfold adB; rw [hV, hS]
   rw [hV, hB]
   refine ok_enter Tryz.func32 rfl Tryz.ntmps32 rfl ?_
   (refine gV ?_; (iterate 2 refine gM ?_); refine gO ?_; refine gQ ?_; refine gV ?_; refine gM ?_; refine gC ?_; refine gO ?_)
   refine gc_if_dec rfl (fun _ => ?_) (fun h => absurd h1 h)
   (refine gV ?_; (iterate 2 refine gM ?_); apply gw_d; exact det_quo rfl rfl rfl rfl (by omega) (by omega) (by omega); refine gM ?_; refine gN ?_; (iterate 2 refine gM ?_); refine gA ?_; refine gM ?_; refine gA ?_; refine gM ?_; refine gA ?_; refine gC ?_; refine gO ?_)
   refine gc_if_dec rfl (fun h => absurd h h2) (fun _ => ?_)
   (refine gK ?_; refine gX ?_; refine gV ?_; (iterate 3 refine gM ?_); refine gA ?_; apply gw_d; exact w_max rfl rfl rfl rfl; refine gM ?_; refine gA ?_; refine gM ?_; refine gN ?_; (iterate 3 refine gM ?_); refine gA ?_; refine gM ?_; refine gA ?_; refine gC ?_; (iterate 2 refine gM ?_); refine gO ?_; refine gR ?_)
   exact gx_ret2 (u := .int _ _) (v := .bool _) rfl rfl rfl (fun w' s => rfl)
 ·have hS : adS f c m st = st := by unfold adS; rw [if_neg h1]
  have hV : adV f c m st = max f (st * c) + m := by unfold adV; rw [hS]
  have hB : adB f c m st = decide (max f (st * c) + m ≤ (st + 1) * c) := by unfold adB; rw [hV, hS]
  have h3 : 0 ≤ st * c := Int.mul_nonneg (by omega) (by omega)
  have h4 : st * c ≤ 100 * c := Int.mul_le_mul_of_nonneg_right hs.2 (by omega)
  have h5 : (st + 1) * c = st * c + c := by rw [Int.add_mul, Int.one_mul]
  rw [hV, hB]
  refine ok_enter Tryz.func32 rfl Tryz.ntmps32 rfl ?_
  (refine gV ?_; (iterate 2 refine gM ?_); refine gO ?_; refine gQ ?_; refine gV ?_; refine gM ?_; refine gC ?_; refine gO ?_)
  refine gc_if_dec rfl (fun h => absurd h h1) (fun _ => ?_)
  (refine gK ?_; refine gX ?_; refine gV ?_; (iterate 3 refine gM ?_); refine gA ?_; apply gw_d; exact w_max rfl rfl rfl rfl; refine gM ?_; refine gA ?_; refine gM ?_; refine gN ?_; (iterate 3 refine gM ?_); refine gA ?_; refine gM ?_; refine gA ?_; refine gC ?_; (iterate 2 refine gM ?_); refine gO ?_; refine gR ?_)
  exact gx_ret2 (u := .int _ _) (v := .bool _) rfl rfl rfl (fun w' s => rfl)
end Go.Proofs.YtafbfldjcikmcaaGreat
