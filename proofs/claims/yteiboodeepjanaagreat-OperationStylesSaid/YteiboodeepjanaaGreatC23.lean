/- Contracts: operation.Check for every style. -/
import Derived.Test.YteiboodeepjanaaGreatC20
import Derived.Test.YteiboodeepjanaaGreatC16
namespace Go.Proofs.YteiboodeepjanaaGreat
open Go.RowKit
set_option maxRecDepth 100000
set_option maxHeartbeats 2000000

def markIn (bs : List Bool) (us : List Int) : List Bool := us.foldl (fun bs u => bs.set u.toNat true) bs
def marks (n : Nat) (l : List Opn) : List Bool := l.foldl (fun bs o => markIn bs o.uses) (List.replicate n false)
def opCheckE (s : Sty) (pl : Pc → Int) : Int := if ¬ styleE s pl = 0 then styleE s pl else if ¬ listE s.ops s.uses.length = 0 then listE s.ops s.uses.length else if (marks s.uses.length s.ops).all id = true then 0 else 20
theorem markIn_len (us : List Int) : ∀ bs, (markIn bs us).length = bs.length := by
  induction us with
  | nil => intro bs; rfl
  | cons u us ih => intro bs; exact (ih _).trans (by simp)
theorem marks_len (n : Nat) (l : List Opn) : (marks n l).length = n := by
  unfold marks
  suffices h : ∀ (l : List Opn) (bs : List Bool), (l.foldl (fun bs o => markIn bs o.uses) bs).length = bs.length by rw [h]; simp
  intro l
  induction l with
  | nil => intro bs; rfl
  | cons x o ih => intro bs; exact (ih _).trans (markIn_len _ _)
theorem marks_snoc {n : Nat} {l : List Opn} {k : Nat} (hk : k < l.length) : marks n (l.take (k + 1)) = markIn (marks n (l.take k)) l[k].uses := by
  unfold marks
  rw [List.take_succ_eq_append_getElem hk, List.foldl_append]
  rfl
theorem markIn_snoc {bs : List Bool} {us : List Int} {k : Nat} (hk : k < us.length) : markIn bs (us.take (k + 1)) = (markIn bs (us.take k)).set us[k].toNat true := by
  unfold markIn
  rw [List.take_succ_eq_append_getElem hk, List.foldl_append]
  rfl
theorem list_uses {l : List Opn} {n : Nat} (he : listE l n = 0) {i : Nat} (hi : i < l.length) : ∀ x ∈ l[i].uses, 0 ≤ x ∧ x < (n : Int) := by
  have h16 : ¬ 16 < l.length := fun h => by unfold listE at he; rw [if_pos h] at he; cases he
  have hI0 : firstE (opE l n) l.length = 0 := by
    unfold listE at he
    rw [if_neg h16] at he
    split at he
    · rename_i h1; exact absurd he h1
    · rename_i h1; simpa using h1
  have h1 := firstE_at hI0 i hi
  unfold opE at h1
  rw [List.getElem?_eq_getElem hi] at h1
  dsimp only at h1
  split at h1
  · cases h1
  · split at h1
    · cases h1
    · split at h1
      · cases h1
      · split at h1
        · cases h1
        · rename_i h3
          refine areIx_at ?_
          cases hb : areIx l[i].uses n with
          | true => rfl
          | false => exact absurd (.inr ⟨by omega, hb⟩) h3

theorem style_uses {s : Sty} {pl : Pc → Int} (hS0 : styleE s pl = 0) : s.uses.length ≤ 12 := by
  unfold styleE at hS0
  split at hS0
  · rename_i h; exact absurd hS0 h
  · rename_i h
    have hw : wholeE s = 0 := by simpa using h
    unfold wholeE at hw
    repeat' split at hw
    all_goals first | omega | cases hw

theorem opCheck_ok (w : World) (v : Value) (s : Sty) (hs : StyV w w.heap.size v s) : Ok Tryz.prog 14 [v].toArray w fun r _ => r = .int .i64 (opCheckE s plE) := by
  have hs' := hs
  obtain ⟨As, cs, Am, cm, Ap, cp, Au, cu, Ae, ce, Ao, co, rfl, hnm, h1, h2, h3, h4, h5, h6⟩ := hs
  obtain ⟨_, _, hv, huc, hum⟩ := len_small h4
  injection hv with e1 e2 e3
  subst e1 e3
  obtain ⟨_, _, hv, hoc, hom⟩ := len_small h6
  injection hv with e1 e2 e3
  subst e1 e3
  refine ok_enter Tryz.func14 rfl Tryz.ntmps14 rfl ?_
  focus (refine gc_seq ?_; refine gc_region ?_; refine gw_boxd (v := .agg _) rfl rfl (fun _ => ?_); apply gw_d; exact det_m rfl rfl (by conv => (lhs; whnf)); refine gw_nil ?_; refine gx_next ?_; refine gc_seq ?_; refine gc_seq ?_; refine gc_region ?_; apply gw_d; exact w_load_boxN rfl rfl rfl .here rfl; apply gw_d; exact w_call rfl rfl (fun w s => style_ok w _ _ (hs'.later s)) rfl; apply gw_d; exact det_m rfl rfl (by conv => (lhs; whnf)); refine gw_nil ?_; refine gx_next ?_; refine gc_seq ?_; refine gc_region ?_; apply gw_d; exact det_m rfl rfl (by conv => (lhs; whnf)); apply gw_d; exact det_cmp rfl rfl rfl rfl rfl; refine gw_nil ?_; refine gx_next ?_)
  refine gc_if_dec rfl (fun h => ?_) (fun h => ?_)
  · focus (refine gc_seq ?_; refine gc_region ?_; apply gw_d; exact det_m rfl rfl (by conv => (lhs; whnf)); apply gw_d; exact det_m rfl rfl (by conv => (lhs; whnf)); refine gw_nil ?_; refine gx_next ?_; refine gc_ret ?_; refine gx_then_ret ?_)
    refine gx_ret1 (v := .int _ _) rfl rfl (fun _ _ => ?_)
    unfold opCheckE
    rw [if_pos h]
  have hS0 : styleE s plE = 0 := by simpa using h
  have hu12 := style_uses hS0
  by_cases he : listE s.ops s.uses.length = 0
  · focus (refine gc_skip ?_; refine gx_next ?_; refine gc_seq ?_; refine gc_seq ?_; refine gc_region ?_; apply gw_d; exact w_field rfl rfl rfl; apply gw_d; exact w_load_box rfl rfl rfl .here rfl; apply gw_d; exact w_field rfl rfl rfl; apply gw_d; exact w_load_box rfl rfl rfl .here rfl; apply gw_d; exact w_len rfl rfl rfl)
    refine gw_callm rfl (fun w s' => checkList_good w _ s.ops s.uses.length (h6.later s') he) rfl (fun x => ?_)
    obtain ⟨A, c⟩ := x
    focus (apply gw_d; exact det_m rfl rfl (by conv => (lhs; whnf)); apply gw_d; exact det_extract rfl rfl rfl (by conv => (lhs; whnf)); apply gw_d; exact det_extract rfl rfl rfl (by conv => (lhs; whnf)); apply gw_d; exact det_m rfl rfl (by conv => (lhs; whnf)); apply gw_d; exact det_m rfl rfl (by conv => (lhs; whnf)); refine gw_nil ?_; refine gx_next ?_; refine gc_seq ?_; refine gc_region ?_; apply gw_d; exact det_m rfl rfl (by conv => (lhs; whnf)); apply gw_d; exact det_cmp rfl rfl rfl rfl rfl; refine gw_nil ?_; refine gx_next ?_)
    refine gc_if_dec rfl (fun h => absurd rfl h) (fun _ => ?_)
    focus (refine gc_skip ?_; refine gx_next ?_; refine gc_seq ?_; refine gc_region ?_; apply gw_d; exact w_field rfl rfl rfl; apply gw_d; exact w_load_box rfl rfl rfl (.there .here) rfl; apply gw_d; exact w_len rfl rfl rfl)
    refine gw_make1 (n := s.uses.length) rfl rfl rfl rfl rfl (by omega) (by omega) rfl (fun b => ?_)
    rw [show Array.replicate s.uses.length ((Value.bool false).cells.getD 0 undef) = ((marks s.uses.length (s.ops.take 0)).map Value.bool).toArray from row_make Value.bool s.uses.length false]
    focus (apply gw_d; exact det_m rfl rfl (by conv => (lhs; whnf)); refine gw_nil ?_; refine gx_next ?_; refine gc_seq ?_; refine gc_seq ?_; refine gc_region ?_; apply gw_d; exact w_field rfl rfl rfl; apply gw_d; exact w_load_box rfl rfl rfl (.there (.there .here)) rfl; apply gw_d; exact w_len rfl rfl rfl; apply gw_d; exact det_m rfl rfl (by conv => (lhs; whnf)); refine gw_nil ?_; refine gx_next ?_; refine gc_block ?_)
    refine gc_loop (σ := Nat) [38, 39, 40, 8, 41, 42, 43, 44, 45, 46, 47, 10, 48, 49, 50, 51, 52, 37] (fun k => [(37, .int .i64 k)]) (fun k => [Box b 4 ((marks s.uses.length (s.ops.take k)).map Value.bool).toArray]) (fun k => k ≤ s.ops.length) (fun k => s.ops.length - k) 0 (Nat.zero_le _) ⟨rfl, trivial⟩ (.cons .here .nil) ?_
    rintro k base hk
    focus (refine gc_seq ?_; refine gc_region ?_; apply gw_d; exact det_cmp rfl rfl rfl rfl rfl; refine gw_nil ?_; refine gx_next ?_; refine gc_seq ?_)
    refine gc_if_dec rfl (fun h => ?_) (fun h => ?_)
    · have hlt : k < s.ops.length := by omega
      obtain ⟨ad, _, hv, _, _, hb, hcell⟩ := h6.at' 5 rfl (by omega)
      injection hv with e1 e2 e3
      subst e1 e3
      obtain ⟨cs', hce, Aa, ca, Au', cu', rfl, _, q1, q2⟩ := hcell k hlt
      have ha : Sl rInt w w.heap.size (.slice Au' s.ops[k].uses.length cu') s.ops[k].uses := q2
      obtain ⟨_, _, hv, hac, ham, hacell⟩ := ha.int
      injection hv with e1 e2 e3
      subst e1 e3
      have hus := list_uses he hlt
      have hsn := marks_snoc (n := s.uses.length) hlt
      have hml := marks_len s.uses.length (s.ops.take k)
      generalize marks s.uses.length (s.ops.take k) = bs at hsn hml ⊢
      focus (refine gc_skip ?_; refine gx_next ?_; refine gc_seq ?_; refine gc_block ?_; refine gc_seq ?_; refine gc_region ?_; apply gw_d; exact w_index rfl rfl rfl rfl (by with_reducible exact rfl) (by omega); apply gw_d; exact w_load_elem rfl rfl rfl (by assumption) (by assumption) (by rfl); refine w_alloc rfl (fun _ => ?_); refine w_store_all rfl rfl rfl rfl rfl .here rfl ?_; refine gw_nil ?_; refine gx_next ?_; refine gc_seq ?_; refine gc_region ?_; apply gw_d; exact w_field rfl rfl rfl; apply gw_d; exact w_load_box rfl rfl rfl .here rfl; apply gw_d; exact w_len rfl rfl rfl; apply gw_d; exact det_m rfl rfl (by conv => (lhs; whnf)); refine gw_nil ?_; refine gx_next ?_; refine gc_block ?_)
      refine gc_loop (σ := Nat) [45, 46, 47, 10, 48, 49, 50, 51, 44] (fun j => [(44, .int .i64 j)]) (fun j => [Box b 4 ((markIn bs (s.ops[k].uses.take j)).map Value.bool).toArray]) (fun j => j ≤ s.ops[k].uses.length) (fun j => s.ops[k].uses.length - j) 0 (Nat.zero_le _) ⟨rfl, trivial⟩ (.cons (.there .here) .nil) ?_
      rintro j base2 hj
      focus (refine gc_seq ?_; refine gc_region ?_; apply gw_d; exact det_cmp rfl rfl rfl rfl rfl; refine gw_nil ?_; refine gx_next ?_; refine gc_seq ?_)
      refine gc_if_dec rfl (fun h2 => ?_) (fun h2 => ?_)
      · have hjl : j < s.ops[k].uses.length := by omega
        obtain ⟨ad2, rfl, hb2, hce2, _⟩ := hacell j hjl
        have hpr := hus s.ops[k].uses[j] (List.getElem_mem hjl)
        obtain ⟨p, hp⟩ : ∃ p : Nat, s.ops[k].uses[j] = (p : Int) := ⟨s.ops[k].uses[j].toNat, by omega⟩
        have hsn2 := markIn_snoc (bs := bs) hjl
        rw [hp] at hce2 hsn2
        rw [Int.toNat_natCast] at hsn2
        have hl2 := markIn_len (s.ops[k].uses.take j) bs
        focus (refine gc_skip ?_; refine gx_next ?_; refine gc_seq ?_; refine gc_block ?_; refine gc_seq ?_; refine gc_region ?_; apply gw_d; exact w_index rfl rfl rfl rfl (by with_reducible exact rfl) (by omega); apply gw_d; exact w_load_at rfl rfl rfl (by assumption) (by assumption); apply gw_d; exact det_m rfl rfl (by conv => (lhs; whnf)); refine gw_nil ?_; refine gx_next ?_; refine gc_region ?_; apply gw_d; exact det_m rfl rfl (by conv => (lhs; whnf)); apply gw_d; exact det_m rfl rfl (by conv => (lhs; whnf)); apply gw_d; exact w_index rfl rfl rfl rfl (by with_reducible exact rfl) (by omega))
        refine w_store_row (n := 1) (v := .bool true) rfl rfl rfl rfl rfl .here (by simp; omega) (row_set Value.bool (by omega) true) ?_
        focus (refine gw_nil ?_; refine gx_block ?_; refine gx_next ?_; refine gc_region ?_; apply gw_d; exact det_ar rfl rfl rfl rfl rfl (by omega); apply gw_d; exact det_m rfl rfl (by conv => (lhs; whnf)); refine gw_nil ?_)
        refine gx_round (j + 1) hjl (by omega) (by repeat (first | exact Keeps.refl | refine Keeps.upd rfl ?_ | refine Keeps.sets rfl ?_ | refine Keeps.havoc rfl ?_)) ⟨rfl, trivial⟩ ?_
        rw [hsn2]
        exact .cons .here .nil
      · obtain rfl : j = s.ops[k].uses.length := by omega
        rw [List.take_length, ← hsn]
        focus (refine gc_exit ?_; refine gx_then_exit ?_; refine gx_then_exit ?_; refine gx_block_exit ?_; refine gx_block ?_; refine gx_next ?_; refine gc_region ?_; apply gw_d; exact det_ar rfl rfl rfl rfl rfl (by omega); apply gw_d; exact det_m rfl rfl (by conv => (lhs; whnf)); refine gw_nil ?_)
        exact gx_round (k + 1) hlt (by omega) (by repeat (first | exact Keeps.refl | refine Keeps.upd rfl ?_ | refine Keeps.sets rfl ?_ | refine Keeps.havoc rfl ?_)) ⟨rfl, trivial⟩ (Sub.all _)
    obtain rfl : k = s.ops.length := by omega
    rw [List.take_length]
    have hE : opCheckE s plE = if (marks s.uses.length s.ops).all id = true then 0 else 20 := by unfold opCheckE; rw [if_neg (by rw [hS0]; decide), if_neg (by rw [he]; decide)]
    rw [hE]
    have hml := marks_len s.uses.length s.ops
    generalize marks s.uses.length s.ops = bs at hml ⊢
    focus (refine gc_exit ?_; refine gx_then_exit ?_; refine gx_then_exit ?_; refine gx_block_exit ?_; refine gx_next ?_; refine gc_seq ?_; refine gc_seq ?_; refine gc_region ?_; apply gw_d; exact det_m rfl rfl (by conv => (lhs; whnf)); apply gw_d; exact w_len rfl rfl rfl; apply gw_d; exact det_m rfl rfl (by conv => (lhs; whnf)); refine gw_nil ?_; refine gx_next ?_; refine gc_block ?_)
    refine gc_loopK (σ := Nat) [56, 57, 58, 12, 59, 60, 2, 61, 55] (fun k => [(55, .int .i64 k)]) (fun k => k ≤ bs.length ∧ (bs.take k).all id = true) (fun k => bs.length - k) 0 ⟨Nat.zero_le _, rfl⟩ ⟨rfl, trivial⟩ ?_
    rintro k base3 ⟨hk3, hK⟩
    focus (refine gc_seq ?_; refine gc_region ?_; apply gw_d; exact det_cmp rfl rfl rfl rfl rfl; refine gw_nil ?_; refine gx_next ?_; refine gc_seq ?_)
    refine gc_if_dec rfl (fun h => ?_) (fun h => ?_)
    · have hlt : k < bs.length := by omega
      have hpc : (bs.map Value.bool).toArray[k * 1]? = some (.bool (bs.getD k false)) := row_get Value.bool false (by omega)
      have hg : bs.getD k false = bs[k] := by simp [hlt]
      rw [hg] at hpc
      focus (refine gc_skip ?_; refine gx_next ?_; refine gc_seq ?_; refine gc_block ?_; refine gc_seq ?_; refine gc_region ?_; apply gw_d; exact w_index rfl rfl rfl rfl (by with_reducible exact rfl) (by omega); apply gw_d; exact w_load_row rfl rfl rfl .here hpc; apply gw_d; exact det_m rfl rfl (by conv => (lhs; whnf)); refine gw_nil ?_; refine gx_next ?_; refine gc_seq ?_; refine gc_region ?_; apply gw_d; exact det_m rfl rfl (by conv => (lhs; whnf)); apply gw_d; exact det_not_ rfl rfl rfl; refine gw_nil ?_; refine gx_next ?_)
      refine gc_if rfl (fun h3 => ?_) (fun h3 => ?_)
      · focus (refine gc_seq ?_; refine gc_region ?_; apply gw_d; exact det_m rfl rfl (by conv => (lhs; whnf)); refine gw_nil ?_; refine gx_next ?_; refine gc_ret ?_; refine gx_block_ret ?_; refine gx_then_ret ?_; refine gx_then_ret ?_; refine gx_block_ret ?_; refine gx_then_ret ?_)
        refine gx_ret1 (v := .int _ _) rfl rfl (fun _ _ => ?_)
        rw [if_neg (by rw [Bool.not_eq_true, List.all_eq_false]; exact ⟨bs[k], List.getElem_mem hlt, by simpa using h3⟩)]
      · focus (refine gc_skip ?_; refine gx_block ?_; refine gx_next ?_; refine gc_region ?_; apply gw_d; exact det_ar rfl rfl rfl rfl rfl (by omega); apply gw_d; exact det_m rfl rfl (by conv => (lhs; whnf)); refine gw_nil ?_)
        exact gx_round (k + 1) ⟨hlt, by rw [List.take_succ_eq_append_getElem hlt, List.all_append, hK]; simpa using h3⟩ (by omega) (by repeat (first | exact Keeps.refl | refine Keeps.upd rfl ?_ | refine Keeps.sets rfl ?_ | refine Keeps.havoc rfl ?_)) ⟨rfl, trivial⟩ (Sub.all _)
    · obtain rfl : k = bs.length := by omega
      rw [List.take_length] at hK
      focus (refine gc_exit ?_; refine gx_then_exit ?_; refine gx_then_exit ?_; refine gx_block_exit ?_; refine gx_next ?_; refine gc_seq ?_; refine gc_region ?_; apply gw_d; exact det_m rfl rfl (by conv => (lhs; whnf)); refine gw_nil ?_; refine gx_next ?_; refine gc_ret ?_)
      refine gx_ret1 (v := .int _ _) rfl rfl (fun _ _ => ?_)
      rw [if_pos hK]
  · have hE : opCheckE s plE = listE s.ops s.uses.length := by unfold opCheckE; rw [if_neg (by rw [hS0]; decide), if_pos he]
    rw [hE]
    focus (refine gc_skip ?_; refine gx_next ?_; refine gc_seq ?_; refine gc_seq ?_; refine gc_region ?_; apply gw_d; exact w_field rfl rfl rfl; apply gw_d; exact w_load_box rfl rfl rfl .here rfl; apply gw_d; exact w_field rfl rfl rfl; apply gw_d; exact w_load_box rfl rfl rfl .here rfl; apply gw_d; exact w_len rfl rfl rfl; apply gw_d; exact w_call rfl rfl (fun w s' => checkList_bad w _ s.ops s.uses.length (h6.later s') he) rfl; apply gw_d; exact det_m rfl rfl (by conv => (lhs; whnf)); apply gw_d; exact det_extract rfl rfl rfl (by conv => (lhs; whnf)); apply gw_d; exact det_extract rfl rfl rfl (by conv => (lhs; whnf)); apply gw_d; exact det_m rfl rfl (by conv => (lhs; whnf)); apply gw_d; exact det_m rfl rfl (by conv => (lhs; whnf)); refine gw_nil ?_; refine gx_next ?_; refine gc_seq ?_; refine gc_region ?_; apply gw_d; exact det_m rfl rfl (by conv => (lhs; whnf)); apply gw_d; exact det_cmp rfl rfl rfl rfl rfl; refine gw_nil ?_; refine gx_next ?_)
    refine gc_if_dec rfl (fun _ => ?_) (fun h => absurd he h)
    focus (refine gc_seq ?_; refine gc_region ?_; apply gw_d; exact det_m rfl rfl (by conv => (lhs; whnf)); apply gw_d; exact det_m rfl rfl (by conv => (lhs; whnf)); refine gw_nil ?_; refine gx_next ?_; refine gc_ret ?_; refine gx_then_ret ?_)
    refine gx_ret1 (v := .int _ _) rfl rfl (fun _ _ => ?_)
    rfl
theorem opCheck0_ok (w : World) (v : Value) (s : Sty) (hs : StyV w w.heap.size v s) (hno : ∀ p ∈ s.pieces, p.notches = []) : Ok Tryz.prog 14 [v].toArray w fun r _ => r = .int .i64 (opCheckE s pl0) := by
  have h := opCheck_ok w v s hs
  unfold opCheckE at h ⊢
  rw [styleE_none hno] at h
  exact h
end Go.Proofs.YteiboodeepjanaaGreat
