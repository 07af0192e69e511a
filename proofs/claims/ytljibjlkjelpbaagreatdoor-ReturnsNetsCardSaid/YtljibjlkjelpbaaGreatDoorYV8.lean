/- Contracts: the chapter's Net. -/
import Derived.Test.YtljibjlkjelpbaaGreatDoorJV
namespace Go.Proofs.YtljibjlkjelpbaaGreatDoor
open Go.RowKit
set_option maxRecDepth 100000
set_option maxHeartbeats 4000000

/-! ### The chapter's Net -/
theorem wrong_ok (w : World) (n : Int) : Ok Tryz.prog 43 [.int .i64 n].toArray w fun x _ => x = .bool (!moneyB n) := by
  refine ok_enter Tryz.func43 rfl Tryz.ntmps43 rfl ?_
  focus (refine gc_seq ?_; refine gc_region ?_; refine gM rfl rfl (by conv => (lhs; whnf)) ?_; refine gN ?_; refine gM rfl rfl (by conv => (lhs; whnf)) ?_; refine gC rfl rfl rfl rfl rfl ?_; refine gM rfl rfl (by conv => (lhs; whnf)) ?_; refine gw_guard_dec rfl rfl (fun _ => ?_) (fun _ => ?_); refine gU rfl ?_; refine gU rfl ?_; apply gw_d; exact det_pick_t (v := .bool _) rfl rfl rfl rfl; refine gM rfl rfl (by conv => (lhs; whnf)) ?_; refine gO ?_; refine gc_ret ?_; rotate_left; refine gM rfl rfl (by conv => (lhs; whnf)) ?_; refine gC rfl rfl rfl rfl rfl ?_; apply gw_d; exact det_pick_f (v := .bool _) rfl rfl rfl rfl; refine gM rfl rfl (by conv => (lhs; whnf)) ?_; refine gO ?_; refine gc_ret ?_; rotate_left)
  all_goals (refine gx_ret1 (v := .bool _) rfl rfl (fun _ _ => ?_); unfold moneyB; congr 1; rw [Bool.eq_iff_iff]; simp; try omega)
theorem sat_stuck {cs : List Chg} {k : Int} : ∀ {i : Nat}, i ≤ cs.length → moneyB (satF (cs.take i) k) = false → satF cs k = satF (cs.take i) k := by
  intro i hi h
  have e : satF cs k = (cs.drop i).foldl (fun a c => if c.who = k then satI a c.amt else a) (satF (cs.take i) k) := by
    unfold satF
    rw [← List.foldl_append, List.take_append_drop]
  rw [e]
  generalize satF (cs.take i) k = a at h
  generalize cs.drop i = l
  induction l with
  | nil => rfl
  | cons c l ih =>
    rw [List.foldl_cons]
    have : (if c.who = k then satI a c.amt else a) = a := by
      by_cases hk : c.who = k
      · rw [if_pos hk]
        unfold satI
        rw [if_neg (by rw [h]; decide)]
      · rw [if_neg hk]
    rw [this]
    exact ih
def sumV (n : Int) : Value := if moneyB n = true then .tuple #[.int .i64 n, .bool false] else .tuple #[.int .i64 0, .bool true]
theorem sum58_ok (w : World) (vc : Value) (cs : List Chg) (k : Int) (hc : Sl rChg w w.heap.size vc cs) (hall : cs.all chgE = true) : Ok Tryz.prog 44 [vc, .int .i64 k].toArray w fun x _ => x = sumV (satF cs k) := by
  obtain ⟨Ac, cc, rfl, hcc, hcm, hccell⟩ := hc.chg
  refine ok_enter Tryz.func44 rfl Tryz.ntmps44 rfl ?_
  focus (refine gc_seq ?_; refine gc_region ?_; refine gM rfl rfl (by conv => (lhs; whnf)) ?_; refine gM rfl rfl (by conv => (lhs; whnf)) ?_; refine gN ?_; refine gM rfl rfl (by conv => (lhs; whnf)) ?_; refine gO ?_; refine gc_seq ?_; refine gc_seq ?_; refine gc_region ?_; refine gM rfl rfl (by conv => (lhs; whnf)) ?_; refine gO ?_; refine gc_block ?_)
  refine gc_loopK (σ := Nat) [8, 9, 10, 11, 14, 15, 16, 17, 18, 19, 20, 21, 22, 23, 24, 25, 26, 27, 6, 28, 29, 4, 5, 12, 13, 7] (fun i => [(7, .int .i64 i), (6, .int .i64 (satF (cs.take i) k))]) (fun i => i ≤ cs.length ∧ moneyB (satF (cs.take i) k) = true) (fun i => cs.length - i) 0 ⟨Nat.zero_le _, rfl⟩ ⟨rfl, rfl, trivial⟩ ?_
  rintro i base ⟨hi, hm⟩
  have hm' := money_iff.1 hm
  focus (refine gc_seq ?_; refine gc_seq ?_; refine gc_region ?_; refine gM rfl rfl (by conv => (lhs; whnf)) ?_; refine gM rfl rfl (by conv => (lhs; whnf)) ?_; refine gL rfl rfl rfl ?_; refine gC rfl rfl rfl rfl rfl ?_; refine gO ?_)
  refine gc_if_dec rfl (fun h => ?_) (fun h => ?_)
  · have hil : i < cs.length := by omega
    obtain ⟨ad, rfl, hbk, hce, _⟩ := hccell i hil
    have hc0 := hce 0 _ rfl
    have hc4 := hce 4 _ rfl
    have hst := satF_take hil k
    have ha := money_iff.1 (List.all_eq_true.1 hall cs[i] (List.getElem_mem hil))
    focus (refine gc_skip ?_; refine gx_next ?_; refine gc_seq ?_; refine gc_block ?_; refine gc_seq ?_; refine gc_region ?_; refine gM rfl rfl (by conv => (lhs; whnf)) ?_; refine gM rfl rfl (by conv => (lhs; whnf)) ?_; apply gw_d; exact w_index rfl rfl rfl rfl (by with_reducible exact rfl) (by omega); refine gF rfl rfl rfl ?_; apply gw_d; exact w_load_fld rfl rfl rfl (by assumption) (by assumption); refine gM rfl rfl (by conv => (lhs; whnf)) ?_; refine gC rfl rfl rfl rfl rfl ?_; refine gO ?_)
    refine gc_if_dec rfl (fun h2 => ?_) (fun h2 => ?_)
    · rw [if_pos h2] at hst
      unfold satI at hst
      rw [if_pos hm] at hst
      focus (refine gc_seq ?_; refine gc_region ?_; refine gM rfl rfl (by conv => (lhs; whnf)) ?_; refine gM rfl rfl (by conv => (lhs; whnf)) ?_; refine gM rfl rfl (by conv => (lhs; whnf)) ?_; apply gw_d; exact w_index rfl rfl rfl rfl (by with_reducible exact rfl) (by omega); refine gF rfl rfl rfl ?_; apply gw_d; exact w_load_fld rfl rfl rfl (by assumption) (by assumption); apply gw_d; exact det_ar rfl rfl rfl rfl rfl (by omega); refine gM rfl rfl (by conv => (lhs; whnf)) ?_; refine gN ?_; refine gM rfl rfl (by conv => (lhs; whnf)) ?_; refine gC rfl rfl rfl rfl rfl ?_; refine gO ?_)
      refine gc_if_dec rfl (fun h3 => ?_) (fun h3 => ?_)
      · have hf : moneyB (satF (cs.take (i + 1)) k) = false := by
          cases hx : moneyB (satF (cs.take (i + 1)) k) with
          | false => rfl
          | true => have := money_iff.1 hx; omega
        have hs := sat_stuck (by omega) hf
        focus (refine gc_seq ?_; refine gc_region ?_; refine gM rfl rfl (by conv => (lhs; whnf)) ?_; refine gM rfl rfl (by conv => (lhs; whnf)) ?_; refine gO ?_; refine gc_ret ?_; refine gx_block_ret ?_; refine gx_then_ret ?_; refine gx_then_ret ?_; refine gx_block_ret ?_; refine gx_then_ret ?_)
        refine gx_ret2 (u := .int _ _) (v := .bool _) rfl rfl rfl (fun _ _ => ?_)
        unfold sumV
        rw [if_neg (by rw [hs, hf]; decide)]
      · have hf : moneyB (satF (cs.take (i + 1)) k) = true := money_iff.2 (by omega)
        focus (refine gc_skip ?_; refine gx_block ?_; refine gx_next ?_; refine gc_region ?_; refine gM rfl rfl (by conv => (lhs; whnf)) ?_; apply gw_d; exact det_ar rfl rfl rfl rfl rfl (by omega); refine gM rfl rfl (by conv => (lhs; whnf)) ?_; refine gw_nil ?_)
        exact gx_round (i + 1) ⟨by omega, hf⟩ (by omega) (by repeat (first | exact Keeps.refl | refine Keeps.upd rfl ?_ | refine Keeps.sets rfl ?_ | refine Keeps.havoc rfl ?_)) ⟨rfl, by rw [hst]; rfl, trivial⟩ (Sub.all _)
    · rw [if_neg h2] at hst
      focus (refine gc_skip ?_; refine gx_block ?_; refine gx_next ?_; refine gc_region ?_; refine gM rfl rfl (by conv => (lhs; whnf)) ?_; apply gw_d; exact det_ar rfl rfl rfl rfl rfl (by omega); refine gM rfl rfl (by conv => (lhs; whnf)) ?_; refine gw_nil ?_)
      exact gx_round (i + 1) ⟨by omega, by rw [hst]; exact hm⟩ (by omega) (by repeat (first | exact Keeps.refl | refine Keeps.upd rfl ?_ | refine Keeps.sets rfl ?_ | refine Keeps.havoc rfl ?_)) ⟨rfl, by rw [hst]; rfl, trivial⟩ (Sub.all _)
  · obtain rfl : i = cs.length := by omega
    rw [List.take_length] at hm ⊢
    focus (refine gc_exit ?_; refine gx_then_exit ?_; refine gx_then_exit ?_; refine gx_block_exit ?_; refine gx_next ?_; refine gc_seq ?_; refine gc_region ?_; refine gM rfl rfl (by conv => (lhs; whnf)) ?_; refine gM rfl rfl (by conv => (lhs; whnf)) ?_; refine gM rfl rfl (by conv => (lhs; whnf)) ?_; refine gO ?_; refine gc_ret ?_)
    refine gx_ret2 (u := .int _ _) (v := .bool _) rfl rfl rfl (fun _ _ => ?_)
    unfold sumV
    rw [if_pos hm]
def netOwnR (cs : List Chg) (ps : List Pay) (x : Option Addr × Nat) : List Res := if netE cs ps = 0 then [Own x.1 ps.length x.2 3 1 ((netL cs ps).map (Value.int .i64))] else []
def netResR (cs : List Chg) (ps : List Pay) (x : Option Addr × Nat) : Value := if netE cs ps = 0 then .tuple #[.slice x.1 ps.length x.2, .int .i64 0] else .tuple #[.slice none 0 0, .int .i64 (netE cs ps)]
theorem rNet_all (w : World) (vp vc : Value) (ps : List Pay) (cs : List Chg) (hp : Sl rPay w w.heap.size vp ps) (hc : Sl rChg w w.heap.size vc cs) (h60 : ps.length ≤ 1000) : OkM Tryz.prog 24 [vp, vc].toArray w (netResR cs ps) (netOwnR cs ps) := by
  have hc' := hc
  obtain ⟨Ap, cp, rfl, hpc, hpm, hpcell⟩ := hp.pay
  obtain ⟨Ac, cc, rfl, hcc, hcm, hccell⟩ := hc.chg
  have hR : ∀ (L : List Res) (w' : World) (n : Int), St w L w' → Ok Tryz.prog 43 [.int .i64 n].toArray w' fun x _ => x = .bool (!moneyB n) := fun L w' n _ => wrong_ok w' n
  unfold OkM
  refine ok_enter Tryz.func24 rfl Tryz.ntmps24 rfl ?_
  focus (refine gc_seq ?_; refine gc_region ?_; refine gM rfl rfl (by conv => (lhs; whnf)) ?_; refine gM rfl rfl (by conv => (lhs; whnf)) ?_; refine gO ?_; refine gc_seq ?_; refine gc_seq ?_; refine gc_region ?_; refine gM rfl rfl (by conv => (lhs; whnf)) ?_; refine gO ?_; refine gc_block ?_)
  refine gc_loopK (σ := Nat) [12, 13, 14, 15, 18, 19, 20, 21, 22, 23, 4, 5, 16, 17, 6] (fun i => [(6, .int .i64 i)]) (fun i => i ≤ cs.length ∧ (cs.take i).all chgE = true) (fun i => cs.length - i) 0 ⟨Nat.zero_le _, rfl⟩ ⟨rfl, trivial⟩ ?_
  rintro i base ⟨hi, hall⟩
  focus (refine gc_seq ?_; refine gc_seq ?_; refine gc_region ?_; refine gM rfl rfl (by conv => (lhs; whnf)) ?_; refine gM rfl rfl (by conv => (lhs; whnf)) ?_; refine gL rfl rfl rfl ?_; refine gC rfl rfl rfl rfl rfl ?_; refine gO ?_)
  refine gc_if_dec rfl (fun h => ?_) (fun h => ?_)
  · have hil : i < cs.length := by omega
    obtain ⟨ad, rfl, hbk, hce, _⟩ := hccell i hil
    have hc4 := hce 4 _ rfl
    have c1 := fun L w' => hR L w' cs[i].amt
    cases hm1 : moneyB cs[i].amt with
    | true =>
      rw [hm1] at c1
      focus (refine gc_skip ?_; refine gx_next ?_; refine gc_seq ?_; refine gc_block ?_; refine gc_seq ?_; refine gc_region ?_; refine gM rfl rfl (by conv => (lhs; whnf)) ?_; refine gM rfl rfl (by conv => (lhs; whnf)) ?_; apply gw_d; exact w_index rfl rfl rfl rfl (by with_reducible exact rfl) (by omega); refine gF rfl rfl rfl ?_; apply gw_d; exact w_load_fld rfl rfl rfl (by assumption) (by assumption); apply gw_d; exact w_call rfl rfl (c1 _) rfl; refine gO ?_)
      refine gc_if_false rfl ?_
      focus (refine gc_skip ?_; refine gx_block ?_; refine gx_next ?_; refine gc_region ?_; refine gM rfl rfl (by conv => (lhs; whnf)) ?_; apply gw_d; exact det_ar rfl rfl rfl rfl rfl (by omega); refine gM rfl rfl (by conv => (lhs; whnf)) ?_; refine gw_nil ?_)
      exact gx_round (i + 1) ⟨by omega, all_snoc hil hall hm1⟩ (by omega) (by repeat (first | exact Keeps.refl | refine Keeps.upd rfl ?_ | refine Keeps.sets rfl ?_ | refine Keeps.havoc rfl ?_)) ⟨rfl, trivial⟩ (Sub.all _)
    | false =>
      rw [hm1] at c1
      have hE : netE cs ps = 3 := by unfold netE; rw [if_pos (all_no hil hm1)]
      focus (refine gc_skip ?_; refine gx_next ?_; refine gc_seq ?_; refine gc_block ?_; refine gc_seq ?_; refine gc_region ?_; refine gM rfl rfl (by conv => (lhs; whnf)) ?_; refine gM rfl rfl (by conv => (lhs; whnf)) ?_; apply gw_d; exact w_index rfl rfl rfl rfl (by with_reducible exact rfl) (by omega); refine gF rfl rfl rfl ?_; apply gw_d; exact w_load_fld rfl rfl rfl (by assumption) (by assumption); apply gw_d; exact w_call rfl rfl (c1 _) rfl; refine gO ?_)
      refine gc_if_true rfl ?_
      focus (refine gc_seq ?_; refine gc_region ?_; refine gM rfl rfl (by conv => (lhs; whnf)) ?_; refine gM rfl rfl (by conv => (lhs; whnf)) ?_; refine gO ?_; refine gc_ret ?_; refine gx_block_ret ?_; refine gx_then_ret ?_; refine gx_then_ret ?_; refine gx_block_ret ?_; refine gx_then_ret ?_)
      exact gx_ret2 (u := .slice _ _ _) (v := .int _ _) rfl rfl rfl (fun w' s' => ⟨(none, 0), by unfold netResR; rw [if_neg (by rw [hE]; decide), hE], by unfold netOwnR; rw [if_neg (by rw [hE]; decide)]; trivial⟩)
  obtain rfl : i = cs.length := by omega
  rw [List.take_length] at hall
  have hE0 : netE cs ps = firstE (netPE cs ps) ps.length := by unfold netE; rw [if_neg (by rw [hall]; decide)]
  have hS : ∀ (L : List Res) (w' : World) (k : Int), St w L w' → Ok Tryz.prog 44 [.slice Ac cs.length cc, .int .i64 k].toArray w' fun x _ => x = sumV (satF cs k) := fun L w' k s' => sum58_ok w' _ cs k (hc'.later s') hall
  focus (refine gc_exit ?_; refine gx_then_exit ?_; refine gx_then_exit ?_; refine gx_block_exit ?_; refine gx_next ?_; refine gc_seq ?_; refine gc_region ?_; refine gM rfl rfl (by conv => (lhs; whnf)) ?_; refine gO ?_; refine gc_seq ?_; refine gc_seq ?_; refine gc_region ?_; refine gM rfl rfl (by conv => (lhs; whnf)) ?_; refine gO ?_; refine gc_block ?_)
  refine gc_own0 3 1 ?_
  refine gc_loop1 (σ := Nat × Option Addr × Nat) [24, 25, 26, 27, 9, 30, 31, 32, 35, 36, 37, 38, 39, 40, 41, 42, 43, 44, 45, 4, 5, 33, 34, 47, 48, 49, 50, 51, 52, 53, 46, 54, 55, 10, 11, 56, 57, 58, 59, 60, 61, 62, 63, 64, 65, 66, 67, 68, 69, 70, 71, 72, 73, 74, 75, 76, 77, 78, 79, 80, 81, 82, 83, 84, 85, 86, 87, 88, 89, 90, 91, 92, 93, 94, 95, 96, 97, 98, 99, 100, 101, 102, 103, 7, 28, 29, 8] (fun q => [(8, .int .i64 q.1), (7, .slice q.2.1 q.1 q.2.2)]) (fun q => Own q.2.1 q.1 q.2.2 3 1 (((ps.take q.1).map (netV cs)).map (Value.int .i64))) (fun q => q.1 ≤ ps.length ∧ firstE (netPE cs ps) q.1 = 0) (fun q => ps.length - q.1) (0, none, 0) ⟨Nat.zero_le _, rfl⟩ ⟨rfl, rfl, trivial⟩ rfl ?_
  rintro ⟨k, A, c⟩ base2 ⟨hk, hI⟩
  dsimp only at hk hI ⊢
  focus (refine gc_seq ?_; refine gc_seq ?_; refine gc_region ?_; refine gM rfl rfl (by conv => (lhs; whnf)) ?_; refine gM rfl rfl (by conv => (lhs; whnf)) ?_; refine gL rfl rfl rfl ?_; refine gC rfl rfl rfl rfl rfl ?_; refine gO ?_)
  refine gc_if_dec rfl (fun h => ?_) (fun h => ?_)
  · have hkl : k < ps.length := by omega
    obtain ⟨ad, rfl, hbk, hce, hpi⟩ := hpcell k hkl
    have hp0 := hce 0 _ rfl
    have hp1 := hce 1 _ rfl
    have hp2 := hce 2 _ rfl
    have hts : ps.take (k + 1) = ps.take k ++ [ps[k]] := List.take_succ_eq_append_getElem hkl
    have hpe : netPE cs ps k = if ((ps.take k).any fun q => decide (q.who = ps[k].who)) = true then 7 else if moneyB ps[k].work = false ∨ moneyB ps[k].top = false ∨ moneyB (ps[k].work + ps[k].top) = false ∨ moneyB (satF cs ps[k].who) = false then 3 else 0 := by
      unfold netPE
      rw [List.getElem?_eq_getElem hkl]
    have hbad : ∀ x : Int, netPE cs ps k = x → ¬ x = 0 → netResR cs ps (none, 0) = .tuple #[.slice none 0 0, .int .i64 x] ∧ netOwnR cs ps (none, 0) = [] := fun x hx hx0 => by
      have : netE cs ps = x := by rw [hE0, firstE_stop hI (by rw [hx]; exact hx0) hkl, hx]
      unfold netResR netOwnR
      rw [if_neg (by rw [this]; exact hx0), if_neg (by rw [this]; exact hx0), this]
      exact ⟨rfl, rfl⟩
    have hsn := firstE_snoc (f := netPE cs ps) (k := k) hI
    focus (refine gc_skip ?_; refine gx_next ?_; refine gc_seq ?_; refine gc_block ?_; refine gc_seq ?_; refine gc_seq ?_; refine gc_region ?_; refine gM rfl rfl (by conv => (lhs; whnf)) ?_; refine gO ?_; refine gc_block ?_)
    refine gc_loopK (σ := Nat) [30, 31, 32, 35, 36, 37, 38, 39, 40, 41, 42, 43, 44, 45, 4, 5, 33, 34, 9] (fun j => [(9, .int .i64 j)]) (fun j => j ≤ k ∧ ((ps.take j).any fun q => decide (q.who = ps[k].who)) = false) (fun j => k - j) 0 ⟨Nat.zero_le _, rfl⟩ ⟨rfl, trivial⟩ ?_
    rintro j base3 ⟨hj, hJ⟩
    focus (refine gc_seq ?_; refine gc_seq ?_; refine gc_region ?_; refine gM rfl rfl (by conv => (lhs; whnf)) ?_; refine gM rfl rfl (by conv => (lhs; whnf)) ?_; refine gC rfl rfl rfl rfl rfl ?_; refine gO ?_)
    refine gc_if_dec rfl (fun h2 => ?_) (fun h2 => ?_)
    · have hjl : j < ps.length := by omega
      obtain ⟨ad2, h6, hb2, hce2, _⟩ := hpcell j hjl
      injection h6 with h6
      subst h6
      have hj0 := hce2 0 _ rfl
      focus (refine gc_skip ?_; refine gx_next ?_; refine gc_seq ?_; refine gc_block ?_; refine gc_seq ?_)
      refine gc_draw 11 (by kernel_rfl) (by kernel_rfl) ?_
      focus (apply gd_d; exact det_m rfl rfl (by conv => (lhs; whnf)); apply gd_d; exact det_m rfl rfl (by conv => (lhs; whnf)); apply gd_d; exact w_index rfl rfl rfl rfl (by with_reducible exact rfl) (by omega); apply gd_d; exact w_field rfl rfl rfl; apply gd_d; exact w_load_fld rfl rfl rfl (by assumption) (by assumption); apply gd_d; exact det_m rfl rfl (by conv => (lhs; whnf)); apply gd_d; exact det_m rfl rfl (by conv => (lhs; whnf)); apply gd_d; exact w_index rfl rfl rfl rfl (by with_reducible exact rfl) (by omega); apply gd_d; exact w_field rfl rfl rfl; apply gd_d; exact w_load_fld rfl rfl rfl (by assumption) (by assumption); apply gd_d; exact det_cmp rfl rfl rfl rfl rfl; refine gd_nil ?_; refine gO ?_)
      refine gc_if_dec rfl (fun h3 => ?_) (fun h3 => ?_)
      · rw [if_pos (List.any_eq_true.2 ⟨ps[j], List.mem_take_iff_getElem.2 ⟨j, by omega, rfl⟩, decide_eq_true h3⟩)] at hpe
        obtain ⟨r1, r2⟩ := hbad 7 hpe (by decide)
        focus (refine gc_seq ?_; refine gc_region ?_; refine gM rfl rfl (by conv => (lhs; whnf)) ?_; refine gM rfl rfl (by conv => (lhs; whnf)) ?_; refine gO ?_; refine gc_ret ?_; refine gx_block_ret ?_; refine gx_then_ret ?_; refine gx_then_ret ?_; refine gx_block_ret ?_; refine gx_then_ret ?_; refine gx_block_ret ?_; refine gx_then_ret ?_; refine gx_then_ret ?_; refine gx_block_ret ?_; refine gx_then_ret ?_)
        exact gx_ret2 (u := .slice _ _ _) (v := .int _ _) rfl rfl rfl (fun w' s' => ⟨(none, 0), r1.symm, by rw [r2]; trivial⟩)
      · focus (refine gc_skip ?_; refine gx_block ?_; refine gx_next ?_; refine gc_region ?_; refine gM rfl rfl (by conv => (lhs; whnf)) ?_; apply gw_d; exact det_ar rfl rfl rfl rfl rfl (by omega); refine gM rfl rfl (by conv => (lhs; whnf)) ?_; refine gw_nil ?_)
        exact gx_round (j + 1) ⟨by omega, take_any_snoc hjl hJ (decide_eq_false h3)⟩ (by omega) (by repeat (first | exact Keeps.refl | refine Keeps.upd rfl ?_ | refine Keeps.sets rfl ?_ | refine Keeps.havoc rfl ?_)) ⟨rfl, trivial⟩ (Sub.all _)
    obtain rfl : j = k := by omega
    rw [if_neg (by rw [hJ]; decide)] at hpe
    have hsr := sat_range hall ps[j].who
    have c1 := fun L w' => hR L w' ps[j].work
    have c2 := fun L w' => hR L w' ps[j].top
    have c3 := fun L w' => hR L w' (ps[j].work + ps[j].top)
    have c4 := fun L w' => hS L w' ps[j].who
    unfold sumV at c4
    have hnv : netV cs ps[j] = max (ps[j].work - satF cs ps[j].who) 0 + ps[j].top := rfl
    generalize satF cs ps[j].who = sa at hpe hsr c4 hnv
    by_cases h3 : moneyB ps[j].work = false ∨ moneyB ps[j].top = false ∨ moneyB (ps[j].work + ps[j].top) = false ∨ moneyB sa = false
    · rw [if_pos h3] at hpe
      obtain ⟨r1, r2⟩ := hbad 3 hpe (by decide)
      obtain ⟨n0, b0, h4⟩ : ∃ (n0 : Int) (b0 : Bool), (if moneyB sa = true then Value.tuple #[.int .i64 sa, .bool false] else .tuple #[.int .i64 0, .bool true]) = .tuple #[.int .i64 n0, .bool b0] ∧ b0 = !moneyB sa := by
        cases hx : moneyB sa with
        | true => exact ⟨sa, false, by rw [if_pos rfl], rfl⟩
        | false => exact ⟨0, true, by rw [if_neg (by decide)], rfl⟩
      rw [h4.1, h4.2] at c4
      cases m1 : moneyB ps[j].work with
      | false =>
        rw [m1] at c1
        focus (refine gc_exit ?_; refine gx_then_exit ?_; refine gx_then_exit ?_; refine gx_block_exit ?_; refine gx_next ?_; refine gc_seq ?_; refine gc_region ?_; refine gM rfl rfl (by conv => (lhs; whnf)) ?_; refine gM rfl rfl (by conv => (lhs; whnf)) ?_; refine gM rfl rfl (by conv => (lhs; whnf)) ?_; apply gw_d; exact w_index rfl rfl rfl rfl (by with_reducible exact rfl) (by omega); refine gF rfl rfl rfl ?_; apply gw_d; exact w_load_fld rfl rfl rfl (by assumption) (by assumption); apply gw_d; exact w_call rfl rfl (c4 _) rfl; refine gM rfl rfl (by conv => (lhs; whnf)) ?_; apply gw_d; exact det_extract rfl rfl rfl (by conv => (lhs; whnf)); apply gw_d; exact det_extract rfl rfl rfl (by conv => (lhs; whnf)); refine gM rfl rfl (by conv => (lhs; whnf)) ?_; refine gM rfl rfl (by conv => (lhs; whnf)) ?_; refine gO ?_; refine gc_seq ?_; refine gc_seq ?_)
        refine gc_draw 31 (by kernel_rfl) (by kernel_rfl) ?_
        focus (apply gd_d; exact det_m rfl rfl (by conv => (lhs; whnf)); apply gd_d; exact det_m rfl rfl (by conv => (lhs; whnf)); apply gd_d; exact w_index rfl rfl rfl rfl (by with_reducible exact rfl) (by omega); apply gd_d; exact w_field rfl rfl rfl; apply gd_d; exact w_load_fld rfl rfl rfl (by assumption) (by assumption); apply gd_d; exact w_call rfl rfl (c1 _) rfl; apply gd_d; exact det_m rfl rfl (by conv => (lhs; whnf)); apply gd_d; exact det_not rfl; apply gd_d; exact det_not rfl; apply gd_d; exact det_not rfl; apply gd_d; exact det_not rfl; apply gd_d; exact det_not rfl; apply gd_d; exact det_not rfl; apply gd_d; exact det_pick_t (v := .bool _) rfl rfl rfl rfl; apply gd_d; exact det_m rfl rfl (by conv => (lhs; whnf)); apply gd_d; exact det_not rfl; apply gd_d; exact det_not rfl; apply gd_d; exact det_not rfl; apply gd_d; exact det_not rfl; apply gd_d; exact det_not rfl; apply gd_d; exact det_not rfl; apply gd_d; exact det_not rfl; apply gd_d; exact det_not rfl; apply gd_d; exact det_not rfl; apply gd_d; exact det_not rfl; apply gd_d; exact det_not rfl; apply gd_d; exact det_not rfl; apply gd_d; exact det_pick_t (v := .bool _) rfl rfl rfl rfl; apply gd_d; exact det_m rfl rfl (by conv => (lhs; whnf)); apply gd_d; exact det_not rfl; apply gd_d; exact det_pick_t (v := .bool _) rfl rfl rfl rfl; refine gd_nil ?_; refine gO ?_)
        refine gc_if_true rfl ?_
        focus (refine gc_seq ?_; refine gc_region ?_; refine gM rfl rfl (by conv => (lhs; whnf)) ?_; refine gM rfl rfl (by conv => (lhs; whnf)) ?_; refine gO ?_; refine gc_ret ?_; refine gx_then_ret ?_; refine gx_block_ret ?_; refine gx_then_ret ?_; refine gx_then_ret ?_; refine gx_block_ret ?_; refine gx_then_ret ?_)
        exact gx_ret2 (u := .slice _ _ _) (v := .int _ _) rfl rfl rfl (fun w' s' => ⟨(none, 0), r1.symm, by rw [r2]; trivial⟩)
      | true =>
        rw [m1] at c1
        have m1' := money_iff.1 m1
        cases m2 : moneyB ps[j].top with
        | false =>
          rw [m2] at c2
          focus (refine gc_exit ?_; refine gx_then_exit ?_; refine gx_then_exit ?_; refine gx_block_exit ?_; refine gx_next ?_; refine gc_seq ?_; refine gc_region ?_; refine gM rfl rfl (by conv => (lhs; whnf)) ?_; refine gM rfl rfl (by conv => (lhs; whnf)) ?_; refine gM rfl rfl (by conv => (lhs; whnf)) ?_; apply gw_d; exact w_index rfl rfl rfl rfl (by with_reducible exact rfl) (by omega); refine gF rfl rfl rfl ?_; apply gw_d; exact w_load_fld rfl rfl rfl (by assumption) (by assumption); apply gw_d; exact w_call rfl rfl (c4 _) rfl; refine gM rfl rfl (by conv => (lhs; whnf)) ?_; apply gw_d; exact det_extract rfl rfl rfl (by conv => (lhs; whnf)); apply gw_d; exact det_extract rfl rfl rfl (by conv => (lhs; whnf)); refine gM rfl rfl (by conv => (lhs; whnf)) ?_; refine gM rfl rfl (by conv => (lhs; whnf)) ?_; refine gO ?_; refine gc_seq ?_; refine gc_seq ?_)
          refine gc_draw 31 (by kernel_rfl) (by kernel_rfl) ?_
          focus (apply gd_d; exact det_m rfl rfl (by conv => (lhs; whnf)); apply gd_d; exact det_m rfl rfl (by conv => (lhs; whnf)); apply gd_d; exact w_index rfl rfl rfl rfl (by with_reducible exact rfl) (by omega); apply gd_d; exact w_field rfl rfl rfl; apply gd_d; exact w_load_fld rfl rfl rfl (by assumption) (by assumption); apply gd_d; exact w_call rfl rfl (c1 _) rfl; apply gd_d; exact det_m rfl rfl (by conv => (lhs; whnf)); apply gd_d; exact det_m rfl rfl (by conv => (lhs; whnf)); apply gd_d; exact det_m rfl rfl (by conv => (lhs; whnf)); apply gd_d; exact w_index rfl rfl rfl rfl (by with_reducible exact rfl) (by omega); apply gd_d; exact w_field rfl rfl rfl; apply gd_d; exact w_load_fld rfl rfl rfl (by assumption) (by assumption); apply gd_d; exact w_call rfl rfl (c2 _) rfl; apply gd_d; exact det_pick_f (v := .bool _) rfl rfl rfl rfl; apply gd_d; exact det_m rfl rfl (by conv => (lhs; whnf)); apply gd_d; exact det_not rfl; apply gd_d; exact det_not rfl; apply gd_d; exact det_not rfl; apply gd_d; exact det_not rfl; apply gd_d; exact det_not rfl; apply gd_d; exact det_not rfl; apply gd_d; exact det_not rfl; apply gd_d; exact det_not rfl; apply gd_d; exact det_not rfl; apply gd_d; exact det_not rfl; apply gd_d; exact det_not rfl; apply gd_d; exact det_not rfl; apply gd_d; exact det_pick_t (v := .bool _) rfl rfl rfl rfl; apply gd_d; exact det_m rfl rfl (by conv => (lhs; whnf)); apply gd_d; exact det_not rfl; apply gd_d; exact det_pick_t (v := .bool _) rfl rfl rfl rfl; refine gd_nil ?_; refine gO ?_)
          refine gc_if_true rfl ?_
          focus (refine gc_seq ?_; refine gc_region ?_; refine gM rfl rfl (by conv => (lhs; whnf)) ?_; refine gM rfl rfl (by conv => (lhs; whnf)) ?_; refine gO ?_; refine gc_ret ?_; refine gx_then_ret ?_; refine gx_block_ret ?_; refine gx_then_ret ?_; refine gx_then_ret ?_; refine gx_block_ret ?_; refine gx_then_ret ?_)
          exact gx_ret2 (u := .slice _ _ _) (v := .int _ _) rfl rfl rfl (fun w' s' => ⟨(none, 0), r1.symm, by rw [r2]; trivial⟩)
        | true =>
          rw [m2] at c2
          have m2' := money_iff.1 m2
          cases m3 : moneyB (ps[j].work + ps[j].top) with
          | false =>
            rw [m3] at c3
            focus (refine gc_exit ?_; refine gx_then_exit ?_; refine gx_then_exit ?_; refine gx_block_exit ?_; refine gx_next ?_; refine gc_seq ?_; refine gc_region ?_; refine gM rfl rfl (by conv => (lhs; whnf)) ?_; refine gM rfl rfl (by conv => (lhs; whnf)) ?_; refine gM rfl rfl (by conv => (lhs; whnf)) ?_; apply gw_d; exact w_index rfl rfl rfl rfl (by with_reducible exact rfl) (by omega); refine gF rfl rfl rfl ?_; apply gw_d; exact w_load_fld rfl rfl rfl (by assumption) (by assumption); apply gw_d; exact w_call rfl rfl (c4 _) rfl; refine gM rfl rfl (by conv => (lhs; whnf)) ?_; apply gw_d; exact det_extract rfl rfl rfl (by conv => (lhs; whnf)); apply gw_d; exact det_extract rfl rfl rfl (by conv => (lhs; whnf)); refine gM rfl rfl (by conv => (lhs; whnf)) ?_; refine gM rfl rfl (by conv => (lhs; whnf)) ?_; refine gO ?_; refine gc_seq ?_; refine gc_seq ?_)
            refine gc_draw 31 (by kernel_rfl) (by kernel_rfl) ?_
            focus (apply gd_d; exact det_m rfl rfl (by conv => (lhs; whnf)); apply gd_d; exact det_m rfl rfl (by conv => (lhs; whnf)); apply gd_d; exact w_index rfl rfl rfl rfl (by with_reducible exact rfl) (by omega); apply gd_d; exact w_field rfl rfl rfl; apply gd_d; exact w_load_fld rfl rfl rfl (by assumption) (by assumption); apply gd_d; exact w_call rfl rfl (c1 _) rfl; apply gd_d; exact det_m rfl rfl (by conv => (lhs; whnf)); apply gd_d; exact det_m rfl rfl (by conv => (lhs; whnf)); apply gd_d; exact det_m rfl rfl (by conv => (lhs; whnf)); apply gd_d; exact w_index rfl rfl rfl rfl (by with_reducible exact rfl) (by omega); apply gd_d; exact w_field rfl rfl rfl; apply gd_d; exact w_load_fld rfl rfl rfl (by assumption) (by assumption); apply gd_d; exact w_call rfl rfl (c2 _) rfl; apply gd_d; exact det_pick_f (v := .bool _) rfl rfl rfl rfl; apply gd_d; exact det_m rfl rfl (by conv => (lhs; whnf)); apply gd_d; exact det_m rfl rfl (by conv => (lhs; whnf)); apply gd_d; exact det_m rfl rfl (by conv => (lhs; whnf)); apply gd_d; exact w_index rfl rfl rfl rfl (by with_reducible exact rfl) (by omega); apply gd_d; exact w_field rfl rfl rfl; apply gd_d; exact w_load_fld rfl rfl rfl (by assumption) (by assumption); apply gd_d; exact det_m rfl rfl (by conv => (lhs; whnf)); apply gd_d; exact det_m rfl rfl (by conv => (lhs; whnf)); apply gd_d; exact w_index rfl rfl rfl rfl (by with_reducible exact rfl) (by omega); apply gd_d; exact w_field rfl rfl rfl; apply gd_d; exact w_load_fld rfl rfl rfl (by assumption) (by assumption); apply gd_d; exact det_ar rfl rfl rfl rfl rfl (by omega); apply gd_d; exact w_call rfl rfl (c3 _) rfl; apply gd_d; exact det_pick_f (v := .bool _) rfl rfl rfl rfl; apply gd_d; exact det_m rfl rfl (by conv => (lhs; whnf)); apply gd_d; exact det_not rfl; apply gd_d; exact det_pick_t (v := .bool _) rfl rfl rfl rfl; refine gd_nil ?_; refine gO ?_)
            refine gc_if_true rfl ?_
            focus (refine gc_seq ?_; refine gc_region ?_; refine gM rfl rfl (by conv => (lhs; whnf)) ?_; refine gM rfl rfl (by conv => (lhs; whnf)) ?_; refine gO ?_; refine gc_ret ?_; refine gx_then_ret ?_; refine gx_block_ret ?_; refine gx_then_ret ?_; refine gx_then_ret ?_; refine gx_block_ret ?_; refine gx_then_ret ?_)
            exact gx_ret2 (u := .slice _ _ _) (v := .int _ _) rfl rfl rfl (fun w' s' => ⟨(none, 0), r1.symm, by rw [r2]; trivial⟩)
          | true =>
            rw [m3] at c3
            have m4 : moneyB sa = false := by
              rcases h3 with h3 | h3 | h3 | h3
              · rw [m1] at h3; cases h3
              · rw [m2] at h3; cases h3
              · rw [m3] at h3; cases h3
              · exact h3
            rw [m4] at c4
            focus (refine gc_exit ?_; refine gx_then_exit ?_; refine gx_then_exit ?_; refine gx_block_exit ?_; refine gx_next ?_; refine gc_seq ?_; refine gc_region ?_; refine gM rfl rfl (by conv => (lhs; whnf)) ?_; refine gM rfl rfl (by conv => (lhs; whnf)) ?_; refine gM rfl rfl (by conv => (lhs; whnf)) ?_; apply gw_d; exact w_index rfl rfl rfl rfl (by with_reducible exact rfl) (by omega); refine gF rfl rfl rfl ?_; apply gw_d; exact w_load_fld rfl rfl rfl (by assumption) (by assumption); apply gw_d; exact w_call rfl rfl (c4 _) rfl; refine gM rfl rfl (by conv => (lhs; whnf)) ?_; apply gw_d; exact det_extract rfl rfl rfl (by conv => (lhs; whnf)); apply gw_d; exact det_extract rfl rfl rfl (by conv => (lhs; whnf)); refine gM rfl rfl (by conv => (lhs; whnf)) ?_; refine gM rfl rfl (by conv => (lhs; whnf)) ?_; refine gO ?_; refine gc_seq ?_; refine gc_seq ?_)
            refine gc_draw 31 (by kernel_rfl) (by kernel_rfl) ?_
            focus (apply gd_d; exact det_m rfl rfl (by conv => (lhs; whnf)); apply gd_d; exact det_m rfl rfl (by conv => (lhs; whnf)); apply gd_d; exact w_index rfl rfl rfl rfl (by with_reducible exact rfl) (by omega); apply gd_d; exact w_field rfl rfl rfl; apply gd_d; exact w_load_fld rfl rfl rfl (by assumption) (by assumption); apply gd_d; exact w_call rfl rfl (c1 _) rfl; apply gd_d; exact det_m rfl rfl (by conv => (lhs; whnf)); apply gd_d; exact det_m rfl rfl (by conv => (lhs; whnf)); apply gd_d; exact det_m rfl rfl (by conv => (lhs; whnf)); apply gd_d; exact w_index rfl rfl rfl rfl (by with_reducible exact rfl) (by omega); apply gd_d; exact w_field rfl rfl rfl; apply gd_d; exact w_load_fld rfl rfl rfl (by assumption) (by assumption); apply gd_d; exact w_call rfl rfl (c2 _) rfl; apply gd_d; exact det_pick_f (v := .bool _) rfl rfl rfl rfl; apply gd_d; exact det_m rfl rfl (by conv => (lhs; whnf)); apply gd_d; exact det_m rfl rfl (by conv => (lhs; whnf)); apply gd_d; exact det_m rfl rfl (by conv => (lhs; whnf)); apply gd_d; exact w_index rfl rfl rfl rfl (by with_reducible exact rfl) (by omega); apply gd_d; exact w_field rfl rfl rfl; apply gd_d; exact w_load_fld rfl rfl rfl (by assumption) (by assumption); apply gd_d; exact det_m rfl rfl (by conv => (lhs; whnf)); apply gd_d; exact det_m rfl rfl (by conv => (lhs; whnf)); apply gd_d; exact w_index rfl rfl rfl rfl (by with_reducible exact rfl) (by omega); apply gd_d; exact w_field rfl rfl rfl; apply gd_d; exact w_load_fld rfl rfl rfl (by assumption) (by assumption); apply gd_d; exact det_ar rfl rfl rfl rfl rfl (by omega); apply gd_d; exact w_call rfl rfl (c3 _) rfl; apply gd_d; exact det_pick_f (v := .bool _) rfl rfl rfl rfl; apply gd_d; exact det_m rfl rfl (by conv => (lhs; whnf)); apply gd_d; exact det_m rfl rfl (by conv => (lhs; whnf)); apply gd_d; exact det_pick_f (v := .bool _) rfl rfl rfl rfl; refine gd_nil ?_; refine gO ?_)
            refine gc_if_true rfl ?_
            focus (refine gc_seq ?_; refine gc_region ?_; refine gM rfl rfl (by conv => (lhs; whnf)) ?_; refine gM rfl rfl (by conv => (lhs; whnf)) ?_; refine gO ?_; refine gc_ret ?_; refine gx_then_ret ?_; refine gx_block_ret ?_; refine gx_then_ret ?_; refine gx_then_ret ?_; refine gx_block_ret ?_; refine gx_then_ret ?_)
            exact gx_ret2 (u := .slice _ _ _) (v := .int _ _) rfl rfl rfl (fun w' s' => ⟨(none, 0), r1.symm, by rw [r2]; trivial⟩)
    · rw [if_neg h3] at hpe
      have m1 : moneyB ps[j].work = true := by
        cases hx : moneyB ps[j].work with
        | true => rfl
        | false => exact absurd (.inl hx) h3
      have m2 : moneyB ps[j].top = true := by
        cases hx : moneyB ps[j].top with
        | true => rfl
        | false => exact absurd (.inr (.inl hx)) h3
      have m3 : moneyB (ps[j].work + ps[j].top) = true := by
        cases hx : moneyB (ps[j].work + ps[j].top) with
        | true => rfl
        | false => exact absurd (.inr (.inr (.inl hx))) h3
      have m4 : moneyB sa = true := by
        cases hx : moneyB sa with
        | true => rfl
        | false => exact absurd (.inr (.inr (.inr hx))) h3
      have m1' := money_iff.1 m1
      have m2' := money_iff.1 m2
      rw [m1] at c1
      rw [m2] at c2
      rw [m3] at c3
      rw [if_pos m4] at c4
      focus (refine gc_exit ?_; refine gx_then_exit ?_; refine gx_then_exit ?_; refine gx_block_exit ?_; refine gx_next ?_; refine gc_seq ?_; refine gc_region ?_; refine gM rfl rfl (by conv => (lhs; whnf)) ?_; refine gM rfl rfl (by conv => (lhs; whnf)) ?_; refine gM rfl rfl (by conv => (lhs; whnf)) ?_; apply gw_d; exact w_index rfl rfl rfl rfl (by with_reducible exact rfl) (by omega); refine gF rfl rfl rfl ?_; apply gw_d; exact w_load_fld rfl rfl rfl (by assumption) (by assumption); apply gw_d; exact w_call rfl rfl (c4 _) rfl; refine gM rfl rfl (by conv => (lhs; whnf)) ?_; apply gw_d; exact det_extract rfl rfl rfl (by conv => (lhs; whnf)); apply gw_d; exact det_extract rfl rfl rfl (by conv => (lhs; whnf)); refine gM rfl rfl (by conv => (lhs; whnf)) ?_; refine gM rfl rfl (by conv => (lhs; whnf)) ?_; refine gO ?_; refine gc_seq ?_; refine gc_seq ?_)
      refine gc_draw 31 (by kernel_rfl) (by kernel_rfl) ?_
      focus (apply gd_d; exact det_m rfl rfl (by conv => (lhs; whnf)); apply gd_d; exact det_m rfl rfl (by conv => (lhs; whnf)); apply gd_d; exact w_index rfl rfl rfl rfl (by with_reducible exact rfl) (by omega); apply gd_d; exact w_field rfl rfl rfl; apply gd_d; exact w_load_fld rfl rfl rfl (by assumption) (by assumption); apply gd_d; exact w_call rfl rfl (c1 _) rfl; apply gd_d; exact det_m rfl rfl (by conv => (lhs; whnf)); apply gd_d; exact det_m rfl rfl (by conv => (lhs; whnf)); apply gd_d; exact det_m rfl rfl (by conv => (lhs; whnf)); apply gd_d; exact w_index rfl rfl rfl rfl (by with_reducible exact rfl) (by omega); apply gd_d; exact w_field rfl rfl rfl; apply gd_d; exact w_load_fld rfl rfl rfl (by assumption) (by assumption); apply gd_d; exact w_call rfl rfl (c2 _) rfl; apply gd_d; exact det_pick_f (v := .bool _) rfl rfl rfl rfl; apply gd_d; exact det_m rfl rfl (by conv => (lhs; whnf)); apply gd_d; exact det_m rfl rfl (by conv => (lhs; whnf)); apply gd_d; exact det_m rfl rfl (by conv => (lhs; whnf)); apply gd_d; exact w_index rfl rfl rfl rfl (by with_reducible exact rfl) (by omega); apply gd_d; exact w_field rfl rfl rfl; apply gd_d; exact w_load_fld rfl rfl rfl (by assumption) (by assumption); apply gd_d; exact det_m rfl rfl (by conv => (lhs; whnf)); apply gd_d; exact det_m rfl rfl (by conv => (lhs; whnf)); apply gd_d; exact w_index rfl rfl rfl rfl (by with_reducible exact rfl) (by omega); apply gd_d; exact w_field rfl rfl rfl; apply gd_d; exact w_load_fld rfl rfl rfl (by assumption) (by assumption); apply gd_d; exact det_ar rfl rfl rfl rfl rfl (by omega); apply gd_d; exact w_call rfl rfl (c3 _) rfl; apply gd_d; exact det_pick_f (v := .bool _) rfl rfl rfl rfl; apply gd_d; exact det_m rfl rfl (by conv => (lhs; whnf)); apply gd_d; exact det_m rfl rfl (by conv => (lhs; whnf)); apply gd_d; exact det_pick_f (v := .bool _) rfl rfl rfl rfl; refine gd_nil ?_; refine gO ?_)
      refine gc_if_false rfl ?_
      focus (refine gc_skip ?_; refine gx_next ?_)
      have hrow : (((ps.take (j + 1)).map (netV cs)).map (Value.int .i64)) = ((ps.take j).map (netV cs)).map (Value.int .i64) ++ [.int .i64 (max (ps[j].work - sa) 0 + ps[j].top)] := by
        rw [hts, List.map_append, List.map_append, ← hnv]
        rfl
      generalize ((ps.take j).map (netV cs)).map (Value.int .i64) = row at hrow ⊢
      generalize hv5 : max (ps[j].work - sa) 0 + ps[j].top = v5 at hrow
      refine gc_blockJ (P := Tryz.prog) (Nat × Option Addr × Nat) 17 (fun i => ([[], [], [], [1, 2], [1, 2, 3], [1, 2, 3, 4], [], [1, 2, 3, 4, 5, 6], [1, 2, 3, 4, 5, 6, 7], [], [], [9, 10], [9, 10, 11], [9, 10, 11, 12], [1, 2, 3, 4, 5, 6, 7, 8, 9, 10, 11, 12, 13], [1, 2, 3, 4, 5, 6, 7, 8, 9, 10, 11, 12, 13, 14], [0, 1, 2, 3, 4, 5, 6, 7, 8, 9, 10, 11, 12, 13, 14, 15]] : List (List Nat)).getD i []) (fun i γ => match i with
        | 0 => .slice A j c
        | 1 => .slice (some ad) ps.length cp
        | 2 => .int .i64 j
        | 3 => .pointer (some (ad.add (j * 3)))
        | 4 => .pointer (some ((ad.add (j * 3)).add 1))
        | 5 => .int .i64 ps[j].work
        | 6 => .int .i64 sa
        | 7 => .int .i64 (ps[j].work - sa)
        | 8 => .int .i64 (max (ps[j].work - sa) 0)
        | 9 => .slice (some ad) ps.length cp
        | 10 => .int .i64 j
        | 11 => .pointer (some (ad.add (j * 3)))
        | 12 => .pointer (some ((ad.add (j * 3)).add 2))
        | 13 => .int .i64 ps[j].top
        | 14 => .int .i64 v5
        | 15 => .slice (some ⟨(γ 15).1, 0, none⟩) 1 1
        | 16 => .slice (γ 16).2.1 (j + 1) (γ 16).2.2
        | _ => undef) (fun ls β w' => St w ((if ls 16 = true then Own (β 16).2.1 (j + 1) (β 16).2.2 3 1 (row ++ [Value.int .i64 v5]) else Own A j c 3 1 row) :: ((if ls 15 = true then [Box (β 15).1 3 #[.int .i64 v5]] else []) ++ [])) w') rfl (by kernel_rfl) (fun w' s => by simp only [Bool.false_eq_true, if_false, List.append_nil]; exact s) ?_ ?_
      · intro i o ls β w' hi hik hls hpl hJ2
        have hS0 : St w [] w' := ⟨hJ2.below, trivial⟩
        obtain rfl | rfl | rfl | rfl | rfl | rfl | rfl | rfl | rfl | rfl | rfl | rfl | rfl | rfl | rfl | rfl | rfl : i = 0 ∨ i = 1 ∨ i = 2 ∨ i = 3 ∨ i = 4 ∨ i = 5 ∨ i = 6 ∨ i = 7 ∨ i = 8 ∨ i = 9 ∨ i = 10 ∨ i = 11 ∨ i = 12 ∨ i = 13 ∨ i = 14 ∨ i = 15 ∨ i = 16 := by omega
        · cases hi
          exact detG (det_m (v := .slice A j c) rfl rfl rfl) rfl hS0 (fun w2 hx => ⟨default, rfl, St.ext hJ2 hx⟩)
        · cases hi
          exact detG (det_m (v := .slice (some ad) ps.length cp) rfl rfl rfl) rfl hS0 (fun w2 hx => ⟨default, rfl, St.ext hJ2 hx⟩)
        · cases hi
          exact detG (det_m (v := .int .i64 (j : Int)) rfl rfl rfl) rfl hS0 (fun w2 hx => ⟨default, rfl, St.ext hJ2 hx⟩)
        · cases hi
          exact detG (w_index (m := j) rfl rfl rfl rfl rfl hkl) rfl hS0 (fun w2 hx => ⟨default, rfl, St.ext hJ2 hx⟩)
        · cases hi
          exact detG (w_field rfl rfl rfl) rfl hS0 (fun w2 hx => ⟨default, rfl, St.ext hJ2 hx⟩)
        · cases hi
          exact detG (w_load_fld rfl rfl rfl hbk hp1) rfl hS0 (fun w2 hx => ⟨default, rfl, St.ext hJ2 hx⟩)
        · cases hi
          exact detG (det_m (v := .int .i64 sa) rfl rfl rfl) rfl hS0 (fun w2 hx => ⟨default, rfl, St.ext hJ2 hx⟩)
        · cases hi
          exact detG (det_ar (r := ps[j].work - sa) rfl rfl rfl rfl rfl (by omega)) rfl hS0 (fun w2 hx => ⟨default, rfl, St.ext hJ2 hx⟩)
        · cases hi
          exact detG (w_max rfl rfl rfl rfl) rfl hS0 (fun w2 hx => ⟨default, rfl, St.ext hJ2 hx⟩)
        · cases hi
          exact detG (det_m (v := .slice (some ad) ps.length cp) rfl rfl rfl) rfl hS0 (fun w2 hx => ⟨default, rfl, St.ext hJ2 hx⟩)
        · cases hi
          exact detG (det_m (v := .int .i64 (j : Int)) rfl rfl rfl) rfl hS0 (fun w2 hx => ⟨default, rfl, St.ext hJ2 hx⟩)
        · cases hi
          exact detG (w_index (m := j) rfl rfl rfl rfl rfl hkl) rfl hS0 (fun w2 hx => ⟨default, rfl, St.ext hJ2 hx⟩)
        · cases hi
          exact detG (w_field rfl rfl rfl) rfl hS0 (fun w2 hx => ⟨default, rfl, St.ext hJ2 hx⟩)
        · cases hi
          exact detG (w_load_fld rfl rfl rfl hbk hp2) rfl hS0 (fun w2 hx => ⟨default, rfl, St.ext hJ2 hx⟩)
        · cases hi
          exact detG (det_eq (c' := .int .i64 v5) (det_ar (r := max (ps[j].work - sa) 0 + ps[j].top) rfl rfl rfl rfl rfl (by omega)) (by rw [hv5])) rfl hS0 (fun w2 hx => ⟨default, rfl, St.ext hJ2 hx⟩)
        · cases hi
          rw [hls] at hJ2
          refine ⟨rfl, (stepG_bslice1 (v := .int .i64 v5) rfl rfl rfl rfl hJ2).mono fun u w2 hu => ?_⟩
          obtain ⟨b, hu, s2⟩ := hu
          exact ⟨(b, none, 0), hu, St.sub (.cons (.there .here) (.cons .here .nil)) s2⟩
        · cases hi
          have h15 : ls 15 = true := hpl 15 (by decide)
          rw [hls, h15] at hJ2
          refine ⟨rfl, (stepG_append (sz := 1) (z := .int .i64 0) (n := j) (m := 1) (xs := row) (news := [.int .i64 v5]) rfl rfl .here rfl (fun w3 s3 _ => ?_) (fun u hu => ?_) (by unfold maxLen; omega) (by omega) (by decide) rfl hJ2).mono fun u w2 hu => ?_⟩
          · refine ⟨⟨(β 15).1, 0, none⟩, rfl, fun i u hu => ?_⟩
            rw [add_zero]
            refine (Box.cell s3.drop.head i).trans ?_
            change (#[Value.int .i64 v5] : Array Value)[i]? = some u
            rw [List.getElem?_toArray]
            exact hu
          · rw [List.mem_singleton] at hu
            subst hu
            rfl
          · obtain ⟨A', c', hu, s2⟩ := hu
            refine ⟨(0, A', c'), hu, ?_⟩
            show St w (Own A' (j + 1) c' 3 1 (row ++ [Value.int .i64 v5]) :: ((if ls 15 = true then [Box (β 15).1 3 #[.int .i64 v5]] else []) ++ [])) w2
            rw [h15]
            exact s2
      · intro ls β w' hall2 hJ2
        rw [hall2 15 (by decide), hall2 16 (by decide)] at hJ2
        have hJ3 : St w [Own (β 16).2.1 (j + 1) (β 16).2.2 3 1 (row ++ [Value.int .i64 v5]), Box (β 15).1 3 #[.int .i64 v5]] w' := hJ2
        refine GW.h (P := Tryz.prog) ?_ w' hJ3
        rw [← hrow]
        focus (refine gM rfl rfl (by conv => (lhs; whnf)) ?_; refine gw_nil ?_; refine gx_block ?_; refine gx_next ?_; refine gc_region ?_; refine gM rfl rfl (by conv => (lhs; whnf)) ?_; apply gw_d; exact det_ar rfl rfl rfl rfl rfl (by omega); refine gM rfl rfl (by conv => (lhs; whnf)) ?_; refine gw_nil ?_)
        exact gx_round (j + 1, (β 16).2.1, (β 16).2.2) ⟨by dsimp only; omega, hsn hpe⟩ (by dsimp only; omega) (by repeat (first | exact Keeps.refl | refine Keeps.upd rfl ?_ | refine Keeps.sets rfl ?_ | refine Keeps.havoc rfl ?_)) ⟨rfl, rfl, trivial⟩ (.cons .here .nil)
  · obtain rfl : k = ps.length := by omega
    rw [hI] at hE0
    rw [List.take_length]
    focus (refine gc_exit ?_; refine gx_then_exit ?_; refine gx_then_exit ?_; refine gx_block_exit ?_; refine gx_next ?_; refine gc_seq ?_; refine gc_region ?_; refine gM rfl rfl (by conv => (lhs; whnf)) ?_; refine gM rfl rfl (by conv => (lhs; whnf)) ?_; refine gM rfl rfl (by conv => (lhs; whnf)) ?_; refine gO ?_; refine gc_ret ?_)
    exact gx_ret2 (u := .slice _ _ _) (v := .int _ _) rfl rfl rfl (fun w' s' => ⟨(A, c), by unfold netResR; rw [if_pos hE0], by
      unfold netOwnR
      rw [if_pos hE0]
      exact (St.sub (K := [Own A ps.length c 3 1 ((netL cs ps).map (Value.int .i64))]) (.cons .here .nil) s').sep⟩)
end Go.Proofs.YtljibjlkjelpbaaGreatDoor
