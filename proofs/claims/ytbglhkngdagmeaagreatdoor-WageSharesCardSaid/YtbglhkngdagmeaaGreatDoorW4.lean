/- Contracts: workers. -/
import Derived.Test.YtbglhkngdagmeaaGreatDoorS1
import Derived.Test.YtbglhkngdagmeaaGreatDoorC14
import Derived.Test.YtbglhkngdagmeaaGreatDoorFwM
namespace Go.Proofs.YtbglhkngdagmeaaGreatDoor
open Go.RowKit
set_option maxRecDepth 100000
set_option maxHeartbeats 2000000

theorem Sl.wrk {w : World} {B : Nat} {v : Value} {l : List Wrk} (h : Sl rWrk w B v l) : ∃ A c, v = .slice A l.length c ∧ l.length ≤ c ∧ l.length ≤ 9223372036854775807 ∧
    ∀ k (hk : k < l.length), ∃ ad Am cm, A = some ad ∧ ad.block < B ∧ (∀ j u, [Value.string l[k].name, .slice Am l[k].machines.length cm][j]? = some u → w.cell? (ad.add (k * 2 + j)) = some u) ∧ l[k].name.size ≤ 9223372036854775807 ∧ Sl rInt w B (.slice Am l[k].machines.length cm) l[k].machines := by
  obtain ⟨A, c, hv, h1, h2, h3⟩ := h
  refine ⟨A, c, hv, h1, by unfold maxLen at h2; omega, fun k hk => ?_⟩
  obtain ⟨ad, cs, ha, hlt, hc, Am, cm, rfl, hn, hs⟩ := h3 k hk
  exact ⟨ad, Am, cm, ha, hlt, hc, by unfold maxLen at hn; omega, hs⟩

theorem isMachine_ok (w : World) (m : Int) : Ok Tryz.prog 84 [.int .i64 m].toArray w fun x _ => x = .bool (decide (0 ≤ m ∧ m < 8)) := by
  refine ok_enter Tryz.func84 rfl Tryz.ntmps84 rfl ?_
  focus (refine gc_seq ?_; refine gc_region ?_; apply gw_d; exact det_m rfl rfl (by conv => (lhs; whnf)); refine gw_nil ?_; refine gx_next ?_; refine gc_seq ?_; refine gc_region ?_; apply gw_d; exact det_m rfl rfl (by conv => (lhs; whnf)); apply gw_d; exact det_cmp rfl rfl rfl rfl rfl; apply gw_d; exact det_m rfl rfl (by conv => (lhs; whnf)); refine gw_guard_dec rfl rfl (fun _ => ?_) (fun _ => ?_); apply gw_d; exact det_m rfl rfl (by conv => (lhs; whnf)); apply gw_d; exact det_cmp rfl rfl rfl rfl rfl; apply gw_d; exact det_pick_t (v := .bool _) rfl rfl rfl rfl; apply gw_d; exact det_m rfl rfl (by conv => (lhs; whnf)); refine gw_nil ?_; refine gx_next ?_; refine gc_ret ?_; rotate_left; apply gw_d; exact det_not rfl; apply gw_d; exact det_not rfl; apply gw_d; exact det_pick_f (v := .bool _) rfl rfl rfl rfl; apply gw_d; exact det_m rfl rfl (by conv => (lhs; whnf)); refine gw_nil ?_; refine gx_next ?_; refine gc_ret ?_; rotate_left)
  · refine gx_ret1 (v := .bool _) rfl rfl (fun _ _ => ?_)
    rename_i h _ _
    congr 1
    simp only [show 0 ≤ m from h, true_and]
  · refine gx_ret1 (v := .bool _) rfl rfl (fun _ _ => ?_)
    rename_i h _ _
    congr 1
    rw [decide_eq_false (fun h2 => h h2.1)]
theorem can_ok (w : World) (nm : ByteArray) (A : Option Addr) (c m : Int) (k : Nat) (ms : List Int) (hl : Sl rInt w w.heap.size (.slice A ms.length k) ms) : Ok Tryz.prog 74 [.agg #[.string nm, .slice A ms.length k], .int .i64 m].toArray w fun x _ => x = .bool (hasB ms m) := by
  refine ok_enter Tryz.func74 rfl Tryz.ntmps74 rfl ?_
  focus (refine gc_seq ?_; refine gc_region ?_; refine gw_boxd (v := .agg _) rfl rfl (fun _ => ?_); apply gw_d; exact det_m rfl rfl (by conv => (lhs; whnf)); refine gw_nil ?_; refine gx_next ?_; refine gc_seq ?_; refine gc_region ?_; apply gw_d; exact w_field rfl rfl rfl; apply gw_d; exact w_load_box rfl rfl rfl .here rfl; apply gw_d; exact det_m rfl rfl (by conv => (lhs; whnf)); apply gw_d; exact w_call rfl rfl (fun w' s => containsInt_ok w' _ ms m (hl.later s)) rfl; apply gw_d; exact det_m rfl rfl (by conv => (lhs; whnf)); refine gw_nil ?_; refine gx_next ?_; refine gc_ret ?_)
  refine gx_ret1 (v := .bool _) rfl rfl (fun _ _ => ?_)
  congr 1
  unfold hasB isI
  congr 1
  funext x
  simp [eq_comm]
/-! ### The machines of a worker -/
def machF (ms : List Int) (j : Nat) : Int := match ms[j]? with
  | some m => if ¬ (0 ≤ m ∧ m < 8) then 3 else if hasB (ms.take j) m = true then 7 else 0
  | none => 0
def machE (ms : List Int) : Int := firstE (machF ms) ms.length
def wrkE (l : List Wrk) (i : Nat) : Int := match l[i]? with
  | some x => if nameB x.name = false then 1 else if ((l.take i).any fun y => eqS y.name x.name) = true then 7 else machE x.machines
  | none => 0
def skillE (l : List Wrk) : Int := if l.length > 12 then 5 else firstE (wrkE l) l.length
def seenL (ms : List Int) : List Bool := (List.range 8).map fun i => hasB ms ((i : Nat) : Int)
theorem seenL_len (ms : List Int) : (seenL ms).length = 8 := by simp [seenL]
theorem seenL_get (ms : List Int) {m : Nat} (hm : m < 8) : (seenL ms).getD m false = hasB ms m := by
  simp [seenL, hm]
theorem seenL_snoc (ms : List Int) {m : Nat} (hm : m < 8) : (seenL ms).set m true = seenL (ms ++ [(m : Int)]) := by
  apply List.ext_getElem
  · simp [seenL]
  · intro i h1 h2
    simp only [seenL, List.getElem_set, List.getElem_map, List.getElem_range, hasB, List.any_append]
    by_cases h : m = i
    · subst h; simp
    · have : ¬ (m : Int) = (i : Int) := by omega
      simp [h, this]
theorem skillCheck_ok (w : World) (v : Value) (l : List Wrk) (hl : Sl rWrk w w.heap.size v l) : Ok Tryz.prog 73 [v].toArray w fun x _ => x = .int .i64 (skillE l) := by
  obtain ⟨A, c, rfl, hc, hm, hcell⟩ := hl.wrk
  refine ok_enter Tryz.func73 rfl Tryz.ntmps73 rfl ?_
  focus (refine gc_seq ?_; refine gc_region ?_; apply gw_d; exact det_m rfl rfl (by conv => (lhs; whnf)); refine gw_nil ?_; refine gx_next ?_; refine gc_seq ?_; refine gc_seq ?_; refine gc_region ?_; apply gw_d; exact det_m rfl rfl (by conv => (lhs; whnf)); apply gw_d; exact w_len rfl rfl rfl; apply gw_d; exact det_cmp rfl rfl rfl rfl rfl; refine gw_nil ?_; refine gx_next ?_)
  refine gc_if_dec rfl (fun h => ?_) (fun h12 => ?_)
  · focus (refine gc_seq ?_; refine gc_region ?_; apply gw_d; exact det_m rfl rfl (by conv => (lhs; whnf)); refine gw_nil ?_; refine gx_next ?_; refine gc_ret ?_; refine gx_then_ret ?_)
    refine gx_ret1 (v := .int _ _) rfl rfl (fun _ _ => ?_)
    unfold skillE
    rw [if_pos (by omega)]
  have hE : skillE l = firstE (wrkE l) l.length := by unfold skillE; rw [if_neg (by omega)]
  rw [hE]
  focus (refine gc_skip ?_; refine gx_next ?_; refine gc_seq ?_; refine gc_seq ?_; refine gc_region ?_; apply gw_d; exact det_m rfl rfl (by conv => (lhs; whnf)); apply gw_d; exact w_len rfl rfl rfl; apply gw_d; exact det_m rfl rfl (by conv => (lhs; whnf)); refine gw_nil ?_; refine gx_next ?_; refine gc_block ?_)
  refine gc_loopK (σ := Nat) [16, 17, 18, 19, 4, 3, 20, 21, 22, 23, 24, 2, 25, 26, 27, 28, 29, 30, 31, 32, 6, 33, 34, 35, 36, 37, 38, 7, 39, 40, 41, 42, 43, 44, 45, 9, 46, 47, 48, 49, 50, 51, 52, 53, 54, 55, 15] (fun k => [(15, .int .i64 k)]) (fun k => k ≤ l.length ∧ firstE (wrkE l) k = 0) (fun k => l.length - k) 0 ⟨Nat.zero_le _, rfl⟩ ⟨rfl, trivial⟩ ?_
  rintro k base ⟨hk, hI⟩
  focus (refine gc_seq ?_; refine gc_region ?_; apply gw_d; exact det_cmp rfl rfl rfl rfl rfl; refine gw_nil ?_; refine gx_next ?_; refine gc_seq ?_)
  refine gc_if_dec rfl (fun h => ?_) (fun h => ?_)
  · have hlt : k < l.length := by omega
    obtain ⟨ad, Am, cm, rfl, hb, hce, hnm, hms⟩ := hcell k hlt
    have hW : wrkE l k = if nameB l[k].name = false then 1 else if ((l.take k).any fun y => eqS y.name l[k].name) = true then 7 else machE l[k].machines := by
      unfold wrkE
      rw [List.getElem?_eq_getElem hlt]
    focus (refine gc_skip ?_; refine gx_next ?_; refine gc_seq ?_; refine gc_block ?_; refine gc_seq ?_; refine gc_region ?_; apply gw_d; exact det_m rfl rfl (by conv => (lhs; whnf)); apply gw_d; exact w_index rfl rfl rfl rfl (by with_reducible exact rfl) (by omega); apply gw_d; exact w_load_elem rfl rfl rfl (by assumption) (by assumption) (by rfl); refine w_alloc rfl (fun _ => ?_); apply gw_d; exact det_m rfl rfl (by conv => (lhs; whnf)); refine w_store_all rfl rfl rfl rfl rfl .here rfl ?_; refine gw_nil ?_; refine gx_next ?_; refine gc_seq ?_; refine gc_seq ?_; refine gc_region ?_; apply gw_d; exact w_field rfl rfl rfl; apply gw_d; exact w_load_box rfl rfl rfl .here rfl)
    focus (apply gw_d; exact w_buildP [(0, .int .i64 2), (2, .string l[k].name)] (cells := #[.int .i64 2, .bool false, .slice none 0 0, .slice none 0 0, .string l[k].name, .slice none 0 0]) (by rfl) rfl rfl rfl; apply gw_d; exact w_call rfl rfl (fun w _ => fcheck_ok w l[k].name hnm) rfl; apply gw_d; exact det_cmp rfl rfl rfl rfl rfl; refine gw_nil ?_; refine gx_next ?_)
    refine gc_if_dec rfl (fun h => ?_) (fun h => ?_)
    · focus (refine gc_seq ?_; refine gc_region ?_; apply gw_d; exact det_m rfl rfl (by conv => (lhs; whnf)); refine gw_nil ?_; refine gx_next ?_; refine gc_ret ?_; refine gx_then_ret ?_; refine gx_block_ret ?_; refine gx_then_ret ?_; refine gx_then_ret ?_; refine gx_block_ret ?_; refine gx_then_ret ?_)
      refine gx_ret1 (v := .int _ _) rfl rfl (fun _ _ => ?_)
      have hn : nameB l[k].name = false := by cases h2 : nameB l[k].name <;> simp_all
      rw [if_pos hn] at hW
      rw [firstE_stop hI (by rw [hW]; decide) hlt, hW]
    have hn : nameB l[k].name = true := by cases h2 : nameB l[k].name <;> simp_all
    rw [if_neg (by rw [hn]; decide)] at hW
    focus (refine gc_skip ?_; refine gx_next ?_; refine gc_seq ?_; refine gc_seq ?_; refine gc_region ?_; apply gw_d; exact det_m rfl rfl (by conv => (lhs; whnf)); apply gw_d; exact det_m rfl rfl (by conv => (lhs; whnf)); apply gw_d; exact w_cut_hi rfl rfl rfl rfl (by with_reducible exact rfl) (by omega); apply gw_d; exact w_len rfl rfl rfl; apply gw_d; exact det_m rfl rfl (by conv => (lhs; whnf)); refine gw_nil ?_; refine gx_next ?_; refine gc_block ?_)
    refine gc_loopK (σ := Nat) [30, 31, 32, 6, 33, 34, 35, 36, 37, 2, 38, 29] (fun j => [(29, .int .i64 j)]) (fun j => j ≤ k ∧ ((l.take j).any fun y => eqS y.name l[k].name) = false) (fun j => k - j) 0 ⟨Nat.zero_le _, rfl⟩ ⟨rfl, trivial⟩ ?_
    rintro j base2 ⟨hj, hJ⟩
    focus (refine gc_seq ?_; refine gc_region ?_; apply gw_d; exact det_cmp rfl rfl rfl rfl rfl; refine gw_nil ?_; refine gx_next ?_; refine gc_seq ?_)
    refine gc_if_dec rfl (fun h => ?_) (fun h => ?_)
    · have hjl : j < l.length := by omega
      obtain ⟨ad2, Am2, cm2, h2, hb2, hce2, _, _⟩ := hcell j hjl
      injection h2 with h2
      subst h2
      focus (refine gc_skip ?_; refine gx_next ?_; refine gc_seq ?_; refine gc_block ?_; refine gc_seq ?_; refine gc_region ?_; apply gw_d; exact w_index rfl rfl rfl rfl (by with_reducible exact rfl) (by omega); apply gw_d; exact w_load_elem rfl rfl rfl (by assumption) (by assumption) (by rfl); refine w_alloc rfl (fun _ => ?_); refine w_store_all rfl rfl rfl rfl rfl .here rfl ?_; refine gw_nil ?_; refine gx_next ?_; refine gc_seq ?_; refine gc_region ?_; apply gw_d; exact w_field rfl rfl rfl; apply gw_d; exact w_load_box rfl rfl rfl .here rfl; apply gw_d; exact w_field rfl rfl rfl; apply gw_d; exact w_load_box rfl rfl rfl (.there .here) rfl; apply gw_d; exact det_seq rfl rfl rfl rfl; refine gw_nil ?_; refine gx_next ?_)
      refine gc_if rfl (fun h => ?_) (fun h => ?_)
      · focus (refine gc_seq ?_; refine gc_region ?_; apply gw_d; exact det_m rfl rfl (by conv => (lhs; whnf)); refine gw_nil ?_; refine gx_next ?_; refine gc_ret ?_; refine gx_block_ret ?_; refine gx_then_ret ?_; refine gx_then_ret ?_; refine gx_block_ret ?_; refine gx_then_ret ?_; refine gx_block_ret ?_; refine gx_then_ret ?_; refine gx_then_ret ?_; refine gx_block_ret ?_; refine gx_then_ret ?_)
        refine gx_ret1 (v := .int _ _) rfl rfl (fun _ _ => ?_)
        rw [if_pos (List.any_eq_true.2 ⟨l[j], List.mem_take_iff_getElem.2 ⟨j, by omega, rfl⟩, h⟩)] at hW
        rw [firstE_stop hI (by rw [hW]; decide) hlt, hW]
      · focus (refine gc_skip ?_; refine gx_block ?_; refine gx_next ?_; refine gc_region ?_; apply gw_d; exact det_ar rfl rfl rfl rfl rfl (by omega); apply gw_d; exact det_m rfl rfl (by conv => (lhs; whnf)); refine gw_nil ?_)
        exact gx_round (j + 1) ⟨by omega, take_any_snoc hjl hJ h⟩ (by omega) (by repeat (first | exact Keeps.refl | refine Keeps.upd rfl ?_ | refine Keeps.sets rfl ?_ | refine Keeps.havoc rfl ?_)) ⟨rfl, trivial⟩ Sub.tail
    obtain rfl : j = k := by omega
    rw [if_neg (by rw [hJ]; decide)] at hW
    obtain ⟨_, _, hv, hmc, hmm, hmcell⟩ := hms.int
    injection hv with e1 e2 e3
    subst e1 e3
    focus (refine gc_exit ?_; refine gx_then_exit ?_; refine gx_then_exit ?_; refine gx_block_exit ?_; refine gx_next ?_; refine gc_seq ?_; refine gc_region ?_; refine w_alloc rfl (fun _ => ?_); refine gw_nil ?_; refine gx_next ?_; refine gc_seq ?_; refine gc_region ?_; apply gw_d; exact w_field rfl rfl rfl; apply gw_d; exact w_load_box rfl rfl rfl (.there .here) rfl; apply gw_d; exact w_len rfl rfl rfl; apply gw_d; exact det_m rfl rfl (by conv => (lhs; whnf)); refine gw_nil ?_; refine gx_next ?_; refine gc_block ?_)
    refine gc_loop1 (σ := Nat) [43, 44, 45, 9, 46, 47, 48, 2, 49, 50, 51, 52, 53, 54, 42] (fun i => [(42, .int .i64 i)]) (fun i => Box _ 165 ((seenL (l[j].machines.take i)).map Value.bool).toArray) (fun i => i ≤ l[j].machines.length ∧ firstE (machF l[j].machines) i = 0) (fun i => l[j].machines.length - i) 0 ⟨Nat.zero_le _, rfl⟩ ⟨rfl, trivial⟩ rfl ?_
    rintro i base3 ⟨hi, hM⟩
    focus (refine gc_seq ?_; refine gc_region ?_; apply gw_d; exact det_cmp rfl rfl rfl rfl rfl; refine gw_nil ?_; refine gx_next ?_; refine gc_seq ?_)
    refine gc_if_dec rfl (fun h => ?_) (fun h => ?_)
    · have hil : i < l[j].machines.length := by omega
      obtain ⟨ad3, rfl, hb3, hce3, _⟩ := hmcell i hil
      have hF : machF l[j].machines i = if ¬ (0 ≤ l[j].machines[i] ∧ l[j].machines[i] < 8) then 3 else if hasB (l[j].machines.take i) l[j].machines[i] = true then 7 else 0 := by
        unfold machF
        rw [List.getElem?_eq_getElem hil]
      focus (refine gc_skip ?_; refine gx_next ?_; refine gc_seq ?_; refine gc_block ?_; refine gc_seq ?_; refine gc_region ?_; apply gw_d; exact w_index rfl rfl rfl rfl (by with_reducible exact rfl) (by omega); apply gw_d; exact w_load_at rfl rfl rfl (by assumption) (by assumption); apply gw_d; exact det_m rfl rfl (by conv => (lhs; whnf)); refine gw_nil ?_; refine gx_next ?_; refine gc_seq ?_; refine gc_seq ?_; refine gc_region ?_; apply gw_d; exact det_m rfl rfl (by conv => (lhs; whnf)); apply gw_d; exact w_call rfl rfl (fun w _ => isMachine_ok w _) rfl; apply gw_d; exact det_not_dec rfl rfl rfl; refine gw_nil ?_; refine gx_next ?_)
      refine gc_if rfl (fun h => ?_) (fun h => ?_)
      · focus (refine gc_seq ?_; refine gc_region ?_; apply gw_d; exact det_m rfl rfl (by conv => (lhs; whnf)); refine gw_nil ?_; refine gx_next ?_; refine gc_ret ?_; refine gx_then_ret ?_; refine gx_block_ret ?_; refine gx_then_ret ?_; refine gx_then_ret ?_; refine gx_block_ret ?_; refine gx_block_ret ?_; refine gx_then_ret ?_; refine gx_then_ret ?_; refine gx_block_ret ?_; refine gx_then_ret ?_)
        refine gx_ret1 (v := .int _ _) rfl rfl (fun _ _ => ?_)
        have h' : ¬ (0 ≤ l[j].machines[i] ∧ l[j].machines[i] < 8) := by
          have h9 : l[j].machines[i] < 0 ∨ 8 ≤ l[j].machines[i] := by simpa using h
          omega
        rw [if_pos h'] at hF
        have hME : machE l[j].machines = 3 := by unfold machE; rw [firstE_stop hM (by rw [hF]; decide) hil, hF]
        rw [hME] at hW
        rw [firstE_stop hI (by rw [hW]; decide) hlt, hW]
      have h8 : 0 ≤ l[j].machines[i] ∧ l[j].machines[i] < 8 := by simpa using h
      obtain ⟨m, hmm⟩ : ∃ m : Nat, l[j].machines[i] = (m : Int) := ⟨l[j].machines[i].toNat, by omega⟩
      have hm8 : m < 8 := by omega
      rw [hmm] at hF
      rw [if_neg (by omega)] at hF
      have hsl := seenL_len (l[j].machines.take i)
      have hg : ((seenL (l[j].machines.take i)).map Value.bool).toArray[m * 1]? = some (.bool ((seenL (l[j].machines.take i)).getD m false)) := row_get Value.bool false (by omega)
      rw [seenL_get _ hm8] at hg
      focus (refine gc_skip ?_; refine gx_next ?_; refine gc_seq ?_; refine gc_seq ?_; refine gc_region ?_; apply gw_d; exact det_m rfl rfl (by conv => (lhs; whnf)); apply gw_d; exact w_index_arr (m := m) rfl rfl rfl rfl hmm hm8; apply gw_d; exact w_load_row rfl rfl rfl .here hg; refine gw_nil ?_; refine gx_next ?_)
      refine gc_if rfl (fun h => ?_) (fun h => ?_)
      · focus (refine gc_seq ?_; refine gc_region ?_; apply gw_d; exact det_m rfl rfl (by conv => (lhs; whnf)); refine gw_nil ?_; refine gx_next ?_; refine gc_ret ?_; refine gx_then_ret ?_; refine gx_block_ret ?_; refine gx_then_ret ?_; refine gx_then_ret ?_; refine gx_block_ret ?_; refine gx_block_ret ?_; refine gx_then_ret ?_; refine gx_then_ret ?_; refine gx_block_ret ?_; refine gx_then_ret ?_)
        refine gx_ret1 (v := .int _ _) rfl rfl (fun _ _ => ?_)
        rw [if_pos h] at hF
        have hME : machE l[j].machines = 7 := by unfold machE; rw [firstE_stop hM (by rw [hF]; decide) hil, hF]
        rw [hME] at hW
        rw [firstE_stop hI (by rw [hW]; decide) hlt, hW]
      rw [if_neg (by rw [h]; decide)] at hF
      focus (refine gc_skip ?_; refine gx_next ?_; refine gc_region ?_; apply gw_d; exact det_m rfl rfl (by conv => (lhs; whnf)); apply gw_d; exact w_index_arr (m := m) rfl rfl rfl rfl hmm hm8)
      refine w_store_row (n := 1) (v := .bool true) rfl rfl rfl rfl rfl .here (by simp; omega) (row_set Value.bool (by omega) true) ?_
      rw [seenL_snoc _ hm8, ← hmm, ← List.take_succ_eq_append_getElem hil]
      focus (refine gw_nil ?_; refine gx_block ?_; refine gx_next ?_; refine gc_region ?_; apply gw_d; exact det_ar rfl rfl rfl rfl rfl (by omega); apply gw_d; exact det_m rfl rfl (by conv => (lhs; whnf)); refine gw_nil ?_)
      exact gx_round (i + 1) ⟨by omega, firstE_snoc hM hF⟩ (by omega) (by repeat (first | exact Keeps.refl | refine Keeps.upd rfl ?_ | refine Keeps.sets rfl ?_ | refine Keeps.havoc rfl ?_)) ⟨rfl, trivial⟩ (Sub.all _)
    · obtain rfl : i = l[j].machines.length := by omega
      have hME : machE l[j].machines = 0 := hM
      rw [hME] at hW
      focus (refine gc_exit ?_; refine gx_then_exit ?_; refine gx_then_exit ?_; refine gx_block_exit ?_; refine gx_block ?_; refine gx_next ?_; refine gc_region ?_; apply gw_d; exact det_ar rfl rfl rfl rfl rfl (by omega); apply gw_d; exact det_m rfl rfl (by conv => (lhs; whnf)); refine gw_nil ?_)
      exact gx_round (j + 1) ⟨by omega, firstE_snoc hI hW⟩ (by omega) (by repeat (first | exact Keeps.refl | refine Keeps.upd rfl ?_ | refine Keeps.sets rfl ?_ | refine Keeps.havoc rfl ?_)) ⟨rfl, trivial⟩ (Sub.weak (Sub.weak (Sub.all _)))
  · obtain rfl : k = l.length := by omega
    focus (refine gc_exit ?_; refine gx_then_exit ?_; refine gx_then_exit ?_; refine gx_block_exit ?_; refine gx_next ?_; refine gc_seq ?_; refine gc_region ?_; apply gw_d; exact det_m rfl rfl (by conv => (lhs; whnf)); refine gw_nil ?_; refine gx_next ?_; refine gc_ret ?_)
    refine gx_ret1 (v := .int _ _) rfl rfl (fun _ _ => ?_)
    rw [hI]
end Go.Proofs.YtbglhkngdagmeaaGreatDoor
