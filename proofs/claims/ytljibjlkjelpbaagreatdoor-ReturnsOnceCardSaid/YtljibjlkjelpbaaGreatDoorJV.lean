/- Texts in one file: V1 V2 V3 V4. -/
import Derived.Test.YtljibjlkjelpbaaGreatDoorJR
/- Contracts: returns.history.trace, returns.Trace. -/
namespace Go.Proofs.YtljibjlkjelpbaaGreatDoor
open Go.RowKit
set_option maxRecDepth 100000
set_option maxHeartbeats 4000000

section
variable {P : Program} {N : Nat} {w0 : World} {L L' : List Res} {e : Env} {t : TypeId} {n : Nat}
theorem gx_ret3c [CAgg P t n] {fn : Func} {φ : Value → World → Prop} {a b r c : Nat} {bt : TypeId} {cs : Array Value} {u v : Value} (hres : fn.results = #[.tmp a, .cell r t, .tmp c]) (hu : ev N e (.tmp a) = u) (hv : ev N e (.tmp c) = v) (hr : ev N e (.tmp r) = .pointer (some ⟨b, 0, none⟩)) (hp : Pick L (Box b bt cs) L') (hn : cs.size = n) (h : ∀ w, St w0 L w → φ (.tuple #[u, .agg cs, v]) w) :
    GX (Post P fn w0 φ) N w0 L .ret e :=
  gx_ret (fun w s => by
    have hl := run_loadVarN (P := P) (t := t) (cs := cs.toList) (a := ⟨b, 0, none⟩) (w := w) (by rw [Array.length_toList, hn]; exact CAgg.h) fun j u hu => by
      have hadd : (⟨b, 0, none⟩ : Addr).add j = ⟨b, j, none⟩ := by unfold Addr.add; split <;> simp_all
      rw [hadd, Box.cell (s.pick hp).head j]
      simpa using hu
    have hg : (mk N e).tmps.getD r undef = .pointer (some ⟨b, 0, none⟩) := by rw [mk_getD]; exact hr
    have g1 : (mk N e).tmps.getD a undef = u := by rw [mk_getD]; exact hu
    have g2 : (mk N e).tmps.getD c undef = v := by rw [mk_getD]; exact hv
    simp only [Array.getD_eq_getD_getElem?] at hg g1 g2
    simp [results, hres, hg, g1, g2, asAddr, hl]) h
end
theorem find_take {α : Type} {p : α → Bool} {l : List α} {k : Nat} (hk : k < l.length) (h : (l.take k).find? p = none) (hp : p l[k] = true) : l.find? p = some l[k] := by
  have e : (l.take k ++ l[k] :: l.drop (k + 1)).find? p = some l[k] := by
    rw [List.find?_append, h, List.find?_cons, hp]
    rfl
  rwa [List.getElem_cons_drop, List.take_append_drop] at e
theorem find_snoc {α : Type} {p : α → Bool} {l : List α} {k : Nat} (hk : k < l.length) (h : (l.take k).find? p = none) (hp : p l[k] = false) : (l.take (k + 1)).find? p = none := by
  rw [List.take_succ_eq_append_getElem hk, List.find?_append, h]
  simp [hp]
def bunC (b : Bun) : Array Value := #[.int .i64 b.tick, .int .i64 b.garm, .int .i64 b.size, .int .i64 b.lot, .int .i64 b.fr, .int .i64 b.upto]

theorem trace_ok (w : World) (Al : Option Addr) (n cl : Nat) (vb vp : Value) (bs : List Bun) (ps : List Scn) (r : Ret) (hb : Sl rBun w w.heap.size vb bs) (hp : Sl rScn w w.heap.size vp ps) (_hn : n ≤ 9223372036854775807) :
    Ok Tryz.prog 47 [.agg #[.slice Al n cl, vb, vp], .agg #[.int .i64 r.tick, .int .i64 r.ply, .int .i64 r.op]].toArray w fun y _ => y = .tuple #[.int .i64 (trW n bs ps r), .agg (bunC (trB n bs ps r)), .int .i64 (trE n bs ps r)] := by
  obtain ⟨Ab, cb, rfl, hbc, hbm, hbcell⟩ := hb.bun
  obtain ⟨Ap, cp, rfl, hpc, hpm, hpcell⟩ := hp.scn
  refine ok_enter Tryz.func47 rfl Tryz.ntmps47 rfl ?_
  focus (refine gc_seq ?_; refine gc_region ?_; refine gw_boxd (v := .agg _) rfl rfl (fun _ => ?_); refine gw_boxd (v := .agg _) rfl rfl (fun _ => ?_); refine gM rfl rfl (by conv => (lhs; whnf)) ?_; refine w_alloc rfl (fun _ => ?_); refine gM rfl rfl (by conv => (lhs; whnf)) ?_; refine gO ?_; refine gc_seq ?_; refine gc_seq ?_; refine gc_region ?_; refine gF rfl rfl rfl ?_; apply gw_d; exact w_load_box rfl rfl rfl (.there (.there .here)) rfl; refine gL rfl rfl rfl ?_; refine gM rfl rfl (by conv => (lhs; whnf)) ?_; refine gO ?_; refine gc_block ?_)
  refine gc_loopK (σ := Nat) [15, 16, 17, 8, 18, 19, 20, 21, 22, 23, 24, 25, 26, 27, 28, 29, 30, 31, 32, 33, 34, 35, 36, 37, 38, 39, 40, 41, 42, 43, 44, 45, 46, 47, 48, 4, 6, 49, 50, 51, 52, 53, 54, 55, 10, 56, 57, 58, 59, 60, 61, 62, 63, 64, 65, 66, 67, 68, 69, 70, 71, 72, 73, 14] (fun k => [(14, .int .i64 k)]) (fun k => k ≤ bs.length ∧ (bs.take k).find? (fun b => decide (b.tick = r.tick)) = none) (fun k => bs.length - k) 0 ⟨Nat.zero_le _, rfl⟩ ⟨rfl, trivial⟩ ?_
  rintro k base ⟨hk, hI⟩
  focus (refine gc_seq ?_; refine gc_region ?_; refine gC rfl rfl rfl rfl rfl ?_; refine gO ?_; refine gc_seq ?_)
  refine gc_if_dec rfl (fun h => ?_) (fun h => ?_)
  · have hlt : k < bs.length := by omega
    obtain ⟨ad, rfl, hbk, hce, _⟩ := hbcell k hlt
    focus (refine gc_skip ?_; refine gx_next ?_; refine gc_seq ?_; refine gc_block ?_; refine gc_seq ?_; refine gc_region ?_; apply gw_d; exact w_index rfl rfl rfl rfl (by with_reducible exact rfl) (by omega); apply gw_d; exact w_load_elem rfl rfl rfl (by assumption) (by assumption) (by rfl); refine w_alloc rfl (fun _ => ?_); refine w_store_all rfl rfl rfl rfl rfl .here rfl ?_; refine gO ?_; refine gc_seq ?_; refine gc_seq ?_; refine gc_region ?_; refine gF rfl rfl rfl ?_; apply gw_d; exact w_load_box rfl rfl rfl .here rfl; refine gF rfl rfl rfl ?_; apply gw_d; exact w_load_box rfl rfl rfl (.there (.there .here)) rfl; refine gC rfl rfl rfl rfl rfl ?_; refine gO ?_)
    refine gc_if_dec rfl (fun h2 => ?_) (fun h2 => ?_)
    · focus (refine gc_exit ?_; refine gx_then_exit ?_; refine gx_block_exit ?_; refine gx_next ?_; refine gc_region ?_; apply gw_d; exact det_ar rfl rfl rfl rfl rfl (by omega); refine gM rfl rfl (by conv => (lhs; whnf)) ?_; refine gw_nil ?_)
      exact gx_round (k + 1) ⟨hlt, find_snoc hlt hI (decide_eq_false h2)⟩ (by omega) (by repeat (first | exact Keeps.refl | refine Keeps.upd rfl ?_ | refine Keeps.sets rfl ?_ | refine Keeps.havoc rfl ?_)) ⟨rfl, trivial⟩ Sub.tail
    have h2' : bs[k].tick = r.tick := by simpa using h2
    have hbun : bunAt bs r.tick = some bs[k] := find_take hlt hI (decide_eq_true h2')
    by_cases hr : r.ply < bs[k].fr ∨ r.ply ≥ bs[k].upto ∨ r.op < 0 ∨ r.op ≥ n
    · have hE : trE n bs ps r = 3 := by
        unfold trE
        rw [hbun]
        dsimp only
        rw [if_pos hr]
      obtain ⟨hW, hB⟩ := trE_bad (n := n) (bs := bs) (ps := ps) (r := r) (by rw [hE]; decide)
      rw [hE, hW, hB]
      focus (refine gc_skip ?_; refine gx_next ?_; refine gc_seq ?_; refine gc_seq ?_; refine gc_region ?_; refine gF rfl rfl rfl ?_; apply gw_d; exact w_load_box rfl rfl rfl (.there (.there .here)) rfl; refine gF rfl rfl rfl ?_; apply gw_d; exact w_load_box rfl rfl rfl .here rfl; refine gC rfl rfl rfl rfl rfl ?_; refine gM rfl rfl (by conv => (lhs; whnf)) ?_; refine gw_guard_dec rfl rfl (fun _ => ?_) (fun _ => ?_); refine gU rfl ?_; refine gU rfl ?_; refine gU rfl ?_; refine gU rfl ?_; refine gU rfl ?_; apply gw_d; exact det_pick_t (v := .bool _) rfl rfl rfl rfl; refine gM rfl rfl (by conv => (lhs; whnf)) ?_; refine gU rfl ?_; refine gU rfl ?_; refine gU rfl ?_; apply gw_d; exact det_pick_t (v := .bool _) rfl rfl rfl rfl; refine gM rfl rfl (by conv => (lhs; whnf)) ?_; refine gU rfl ?_; refine gU rfl ?_; refine gU rfl ?_; refine gU rfl ?_; refine gU rfl ?_; refine gU rfl ?_; apply gw_d; exact det_pick_t (v := .bool _) rfl rfl rfl rfl; refine gO ?_; refine gc_if_true rfl ?_; refine gc_seq ?_; refine gc_region ?_; apply gw_d; exact w_buildP [] (cells := #[.int .i64 0, .int .i64 0, .int .i64 0, .int .i64 0, .int .i64 0, .int .i64 0]) (by kernel_rfl) rfl rfl rfl; refine gM rfl rfl (by conv => (lhs; whnf)) ?_; refine w_store_all rfl rfl rfl rfl rfl (.there .here) rfl ?_; refine gM rfl rfl (by conv => (lhs; whnf)) ?_; refine gO ?_; refine gc_ret ?_; refine gx_then_ret ?_; refine gx_block_ret ?_; refine gx_then_ret ?_; refine gx_then_ret ?_; refine gx_block_ret ?_; refine gx_then_ret ?_; rotate_left; refine gF rfl rfl rfl ?_; apply gw_d; exact w_load_box rfl rfl rfl (.there (.there .here)) rfl; refine gF rfl rfl rfl ?_; apply gw_d; exact w_load_box rfl rfl rfl .here rfl; refine gC rfl rfl rfl rfl rfl ?_; apply gw_d; exact det_pick_f (v := .bool _) rfl rfl rfl rfl; refine gM rfl rfl (by conv => (lhs; whnf)) ?_; refine gw_guard_dec rfl rfl (fun _ => ?_) (fun _ => ?_); refine gU rfl ?_; refine gU rfl ?_; refine gU rfl ?_; apply gw_d; exact det_pick_t (v := .bool _) rfl rfl rfl rfl; refine gM rfl rfl (by conv => (lhs; whnf)) ?_; refine gU rfl ?_; refine gU rfl ?_; refine gU rfl ?_; refine gU rfl ?_; refine gU rfl ?_; refine gU rfl ?_; apply gw_d; exact det_pick_t (v := .bool _) rfl rfl rfl rfl; refine gO ?_; refine gc_if_true rfl ?_; refine gc_seq ?_; refine gc_region ?_; apply gw_d; exact w_buildP [] (cells := #[.int .i64 0, .int .i64 0, .int .i64 0, .int .i64 0, .int .i64 0, .int .i64 0]) (by kernel_rfl) rfl rfl rfl; refine gM rfl rfl (by conv => (lhs; whnf)) ?_; refine w_store_all rfl rfl rfl rfl rfl (.there .here) rfl ?_; refine gM rfl rfl (by conv => (lhs; whnf)) ?_; refine gO ?_; refine gc_ret ?_; refine gx_then_ret ?_; refine gx_block_ret ?_; refine gx_then_ret ?_; refine gx_then_ret ?_; refine gx_block_ret ?_; refine gx_then_ret ?_; rotate_left; refine gF rfl rfl rfl ?_; apply gw_d; exact w_load_box rfl rfl rfl (.there (.there .here)) rfl; refine gC rfl rfl rfl rfl rfl ?_; apply gw_d; exact det_pick_f (v := .bool _) rfl rfl rfl rfl; refine gM rfl rfl (by conv => (lhs; whnf)) ?_; refine gw_guard_dec rfl rfl (fun _ => ?_) (fun _ => ?_); refine gU rfl ?_; refine gU rfl ?_; refine gU rfl ?_; refine gU rfl ?_; refine gU rfl ?_; refine gU rfl ?_; apply gw_d; exact det_pick_t (v := .bool _) rfl rfl rfl rfl; refine gO ?_; refine gc_if_true rfl ?_; refine gc_seq ?_; refine gc_region ?_; apply gw_d; exact w_buildP [] (cells := #[.int .i64 0, .int .i64 0, .int .i64 0, .int .i64 0, .int .i64 0, .int .i64 0]) (by kernel_rfl) rfl rfl rfl; refine gM rfl rfl (by conv => (lhs; whnf)) ?_; refine w_store_all rfl rfl rfl rfl rfl (.there .here) rfl ?_; refine gM rfl rfl (by conv => (lhs; whnf)) ?_; refine gO ?_; refine gc_ret ?_; refine gx_then_ret ?_; refine gx_block_ret ?_; refine gx_then_ret ?_; refine gx_then_ret ?_; refine gx_block_ret ?_; refine gx_then_ret ?_; rotate_left; refine gF rfl rfl rfl ?_; apply gw_d; exact w_load_box rfl rfl rfl (.there (.there .here)) rfl; refine gF rfl rfl rfl ?_; apply gw_d; exact w_load_box rfl rfl rfl (.there (.there (.there .here))) rfl; refine gL rfl rfl rfl ?_; refine gC rfl rfl rfl rfl rfl ?_; apply gw_d; exact det_pick_f (v := .bool _) rfl rfl rfl rfl; refine gO ?_; refine gc_if_dec rfl (fun _ => ?_) (fun _ => ?_); refine gc_seq ?_; refine gc_region ?_; apply gw_d; exact w_buildP [] (cells := #[.int .i64 0, .int .i64 0, .int .i64 0, .int .i64 0, .int .i64 0, .int .i64 0]) (by kernel_rfl) rfl rfl rfl; refine gM rfl rfl (by conv => (lhs; whnf)) ?_; refine w_store_all rfl rfl rfl rfl rfl (.there .here) rfl ?_; refine gM rfl rfl (by conv => (lhs; whnf)) ?_; refine gO ?_; refine gc_ret ?_; refine gx_then_ret ?_; refine gx_block_ret ?_; refine gx_then_ret ?_; refine gx_then_ret ?_; refine gx_block_ret ?_; refine gx_then_ret ?_; rotate_left; refine gc_skip ?_; refine gx_next ?_; refine gc_seq ?_; refine gc_seq ?_; refine gc_region ?_; refine gF rfl rfl rfl ?_; apply gw_d; exact w_load_box rfl rfl rfl (.there (.there (.there .here))) rfl; refine gL rfl rfl rfl ?_; refine gM rfl rfl (by conv => (lhs; whnf)) ?_; refine gO ?_; refine gc_block ?_; rotate_left)
      all_goals first | (exfalso; omega) | skip
      all_goals exact gx_ret3c (cs := #[.int .i64 0, .int .i64 0, .int .i64 0, .int .i64 0, .int .i64 0, .int .i64 0]) rfl rfl rfl rfl .here rfl (fun _ _ => rfl)
    focus (refine gc_skip ?_; refine gx_next ?_; refine gc_seq ?_; refine gc_seq ?_; refine gc_region ?_; refine gF rfl rfl rfl ?_; apply gw_d; exact w_load_box rfl rfl rfl (.there (.there .here)) rfl; refine gF rfl rfl rfl ?_; apply gw_d; exact w_load_box rfl rfl rfl .here rfl; refine gC rfl rfl rfl rfl rfl ?_; refine gM rfl rfl (by conv => (lhs; whnf)) ?_; refine gw_guard_dec rfl rfl (fun _ => ?_) (fun _ => ?_); refine gU rfl ?_; refine gU rfl ?_; refine gU rfl ?_; refine gU rfl ?_; refine gU rfl ?_; apply gw_d; exact det_pick_t (v := .bool _) rfl rfl rfl rfl; refine gM rfl rfl (by conv => (lhs; whnf)) ?_; refine gU rfl ?_; refine gU rfl ?_; refine gU rfl ?_; apply gw_d; exact det_pick_t (v := .bool _) rfl rfl rfl rfl; refine gM rfl rfl (by conv => (lhs; whnf)) ?_; refine gU rfl ?_; refine gU rfl ?_; refine gU rfl ?_; refine gU rfl ?_; refine gU rfl ?_; refine gU rfl ?_; apply gw_d; exact det_pick_t (v := .bool _) rfl rfl rfl rfl; refine gO ?_; refine gc_if_true rfl ?_; refine gc_seq ?_; refine gc_region ?_; rotate_left; refine gF rfl rfl rfl ?_; apply gw_d; exact w_load_box rfl rfl rfl (.there (.there .here)) rfl; refine gF rfl rfl rfl ?_; apply gw_d; exact w_load_box rfl rfl rfl .here rfl; refine gC rfl rfl rfl rfl rfl ?_; apply gw_d; exact det_pick_f (v := .bool _) rfl rfl rfl rfl; refine gM rfl rfl (by conv => (lhs; whnf)) ?_; refine gw_guard_dec rfl rfl (fun _ => ?_) (fun _ => ?_); refine gU rfl ?_; refine gU rfl ?_; refine gU rfl ?_; apply gw_d; exact det_pick_t (v := .bool _) rfl rfl rfl rfl; refine gM rfl rfl (by conv => (lhs; whnf)) ?_; refine gU rfl ?_; refine gU rfl ?_; refine gU rfl ?_; refine gU rfl ?_; refine gU rfl ?_; refine gU rfl ?_; apply gw_d; exact det_pick_t (v := .bool _) rfl rfl rfl rfl; refine gO ?_; refine gc_if_true rfl ?_; refine gc_seq ?_; refine gc_region ?_; rotate_left; refine gF rfl rfl rfl ?_; apply gw_d; exact w_load_box rfl rfl rfl (.there (.there .here)) rfl; refine gC rfl rfl rfl rfl rfl ?_; apply gw_d; exact det_pick_f (v := .bool _) rfl rfl rfl rfl; refine gM rfl rfl (by conv => (lhs; whnf)) ?_; refine gw_guard_dec rfl rfl (fun _ => ?_) (fun _ => ?_); refine gU rfl ?_; refine gU rfl ?_; refine gU rfl ?_; refine gU rfl ?_; refine gU rfl ?_; refine gU rfl ?_; apply gw_d; exact det_pick_t (v := .bool _) rfl rfl rfl rfl; refine gO ?_; refine gc_if_true rfl ?_; refine gc_seq ?_; refine gc_region ?_; rotate_left; refine gF rfl rfl rfl ?_; apply gw_d; exact w_load_box rfl rfl rfl (.there (.there .here)) rfl; refine gF rfl rfl rfl ?_; apply gw_d; exact w_load_box rfl rfl rfl (.there (.there (.there .here))) rfl; refine gL rfl rfl rfl ?_; refine gC rfl rfl rfl rfl rfl ?_; apply gw_d; exact det_pick_f (v := .bool _) rfl rfl rfl rfl; refine gO ?_; refine gc_if_dec rfl (fun _ => ?_) (fun _ => ?_); refine gc_seq ?_; refine gc_region ?_; rotate_left; refine gc_skip ?_; refine gx_next ?_; refine gc_seq ?_; refine gc_seq ?_; refine gc_region ?_; refine gF rfl rfl rfl ?_; apply gw_d; exact w_load_box rfl rfl rfl (.there (.there (.there .here))) rfl; refine gL rfl rfl rfl ?_; refine gM rfl rfl (by conv => (lhs; whnf)) ?_; refine gO ?_; refine gc_block ?_; rotate_left)
    all_goals first | (exfalso; omega) | skip
    have hnE : trE n bs ps r = (match whoAt ps r.tick r.op with | none => (6 : Int) | some _ => 0) := by
      unfold trE
      rw [hbun]
      dsimp only
      rw [if_neg hr]
      rfl
    refine gc_loopK (σ := Nat) [53, 54, 55, 10, 56, 57, 58, 59, 60, 61, 62, 63, 64, 65, 66, 67, 68, 69, 70, 4, 6, 71, 52] (fun j => [(52, .int .i64 j)]) (fun j => j ≤ ps.length ∧ (ps.take j).find? (fun x => decide (x.tick = r.tick) && decide (x.op = r.op)) = none) (fun j => ps.length - j) 0 ⟨Nat.zero_le _, rfl⟩ ⟨rfl, trivial⟩ ?_
    rintro j base2 ⟨hj, hJ⟩
    focus (refine gc_seq ?_; refine gc_region ?_; refine gC rfl rfl rfl rfl rfl ?_; refine gO ?_; refine gc_seq ?_)
    refine gc_if_dec rfl (fun h3 => ?_) (fun h3 => ?_)
    · have hjl : j < ps.length := by omega
      obtain ⟨ad2, rfl, hpk, hcp, _⟩ := hpcell j hjl
      by_cases hm : ps[j].tick = r.tick ∧ ps[j].op = r.op
      · have hwho : whoAt ps r.tick r.op = some ps[j] := find_take hjl hJ (by rw [decide_eq_true hm.1, decide_eq_true hm.2]; rfl)
        have hE : trE n bs ps r = 0 := by rw [hnE, hwho]
        have hW : trW n bs ps r = ps[j].who := by unfold trW; rw [if_pos hE, hwho]; rfl
        have hB : trB n bs ps r = bs[k] := by unfold trB; rw [if_pos hE, hbun]; rfl
        rw [hE, hW, hB]
        focus (refine gc_skip ?_; refine gx_next ?_; refine gc_seq ?_; refine gc_block ?_; refine gc_seq ?_; refine gc_region ?_; apply gw_d; exact w_index rfl rfl rfl rfl (by with_reducible exact rfl) (by omega); apply gw_d; exact w_load_elem rfl rfl rfl (by assumption) (by assumption) (by rfl); refine w_alloc rfl (fun _ => ?_); refine w_store_all rfl rfl rfl rfl rfl .here rfl ?_; refine gN ?_; refine gF rfl rfl rfl ?_; apply gw_d; exact w_load_box rfl rfl rfl .here rfl; refine gF rfl rfl rfl ?_; apply gw_d; exact w_load_box rfl rfl rfl (.there (.there (.there .here))) rfl; refine gC rfl rfl rfl rfl rfl ?_; refine gM rfl rfl (by conv => (lhs; whnf)) ?_)
        focus (refine gw_guard_dec rfl rfl (fun _ => ?_) (fun _ => ?_); refine gF rfl rfl rfl ?_; apply gw_d; exact w_load_box rfl rfl rfl .here rfl; refine gF rfl rfl rfl ?_; apply gw_d; exact w_load_box rfl rfl rfl (.there (.there (.there .here))) rfl; refine gC rfl rfl rfl rfl rfl ?_; apply gw_d; exact det_pick_t (v := .bool _) rfl rfl rfl rfl; refine gO ?_; refine gc_if_dec rfl (fun _ => ?_) (fun _ => ?_); refine gc_seq ?_; rotate_left; refine gc_skip ?_; refine gx_block ?_; refine gx_next ?_; refine gc_region ?_; apply gw_d; exact det_ar rfl rfl rfl rfl rfl (by omega); refine gM rfl rfl (by conv => (lhs; whnf)) ?_; refine gw_nil ?_; rotate_left; refine gU rfl ?_; refine gU rfl ?_; refine gU rfl ?_; refine gU rfl ?_; refine gU rfl ?_; apply gw_d; exact det_pick_f (v := .bool _) rfl rfl rfl rfl; refine gO ?_; refine gc_if_false rfl ?_; refine gc_skip ?_; refine gx_block ?_; refine gx_next ?_; refine gc_region ?_; apply gw_d; exact det_ar rfl rfl rfl rfl rfl (by omega); refine gM rfl rfl (by conv => (lhs; whnf)) ?_; refine gw_nil ?_; rotate_left)
        all_goals first | (exfalso; omega) | skip
        refine gc_draw 4 (by kernel_rfl) (by kernel_rfl) ?_
        focus (apply gd_d; exact w_field rfl rfl rfl; apply gd_d; exact w_load_box rfl rfl rfl .here rfl; apply gd_d; exact w_load_boxN rfl rfl rfl (.there .here) rfl; apply gd_d; exact det_m rfl rfl (by conv => (lhs; whnf)); refine gd_nil ?_; refine w_store_all rfl rfl rfl rfl rfl (.there (.there .here)) rfl ?_; refine gM rfl rfl (by conv => (lhs; whnf)) ?_; refine gO ?_; refine gc_ret ?_; refine gx_block_ret ?_; refine gx_then_ret ?_; refine gx_then_ret ?_; refine gx_block_ret ?_; refine gx_then_ret ?_; refine gx_block_ret ?_; refine gx_then_ret ?_; refine gx_then_ret ?_; refine gx_block_ret ?_; refine gx_then_ret ?_)
        exact gx_ret3c (cs := bunC bs[k]) rfl rfl rfl rfl .here rfl (fun _ _ => rfl)
      · have hJ' := find_snoc hjl hJ (by
          cases hx : (decide (ps[j].tick = r.tick) && decide (ps[j].op = r.op)) with
          | false => rfl
          | true =>
            rw [Bool.and_eq_true, decide_eq_true_eq, decide_eq_true_eq] at hx
            exact absurd hx hm)
        focus (refine gc_skip ?_; refine gx_next ?_; refine gc_seq ?_; refine gc_block ?_; refine gc_seq ?_; refine gc_region ?_; apply gw_d; exact w_index rfl rfl rfl rfl (by with_reducible exact rfl) (by omega); apply gw_d; exact w_load_elem rfl rfl rfl (by assumption) (by assumption) (by rfl); refine w_alloc rfl (fun _ => ?_); refine w_store_all rfl rfl rfl rfl rfl .here rfl ?_; refine gN ?_; refine gF rfl rfl rfl ?_; apply gw_d; exact w_load_box rfl rfl rfl .here rfl; refine gF rfl rfl rfl ?_; apply gw_d; exact w_load_box rfl rfl rfl (.there (.there (.there .here))) rfl; refine gC rfl rfl rfl rfl rfl ?_; refine gM rfl rfl (by conv => (lhs; whnf)) ?_)
        focus (refine gw_guard_dec rfl rfl (fun _ => ?_) (fun _ => ?_); refine gF rfl rfl rfl ?_; apply gw_d; exact w_load_box rfl rfl rfl .here rfl; refine gF rfl rfl rfl ?_; apply gw_d; exact w_load_box rfl rfl rfl (.there (.there (.there .here))) rfl; refine gC rfl rfl rfl rfl rfl ?_; apply gw_d; exact det_pick_t (v := .bool _) rfl rfl rfl rfl; refine gO ?_; refine gc_if_dec rfl (fun _ => ?_) (fun _ => ?_); refine gc_seq ?_; rotate_left; refine gc_skip ?_; refine gx_block ?_; refine gx_next ?_; refine gc_region ?_; apply gw_d; exact det_ar rfl rfl rfl rfl rfl (by omega); refine gM rfl rfl (by conv => (lhs; whnf)) ?_; refine gw_nil ?_; rotate_left; refine gU rfl ?_; refine gU rfl ?_; refine gU rfl ?_; refine gU rfl ?_; refine gU rfl ?_; apply gw_d; exact det_pick_f (v := .bool _) rfl rfl rfl rfl; refine gO ?_; refine gc_if_false rfl ?_; refine gc_skip ?_; refine gx_block ?_; refine gx_next ?_; refine gc_region ?_; apply gw_d; exact det_ar rfl rfl rfl rfl rfl (by omega); refine gM rfl rfl (by conv => (lhs; whnf)) ?_; refine gw_nil ?_; rotate_left)
        all_goals first | (exfalso; exact hm ⟨by assumption, by assumption⟩) | skip
        all_goals exact gx_round (j + 1) ⟨by omega, hJ'⟩ (by omega) (by repeat (first | exact Keeps.refl | refine Keeps.upd rfl ?_ | refine Keeps.sets rfl ?_ | refine Keeps.havoc rfl ?_)) ⟨rfl, trivial⟩ Sub.tail
    · obtain rfl : j = ps.length := by omega
      rw [List.take_length] at hJ
      have hE : trE n bs ps r = 6 := by unfold whoAt at hnE; rw [hnE, hJ]
      obtain ⟨hW, hB⟩ := trE_bad (n := n) (bs := bs) (ps := ps) (r := r) (by rw [hE]; decide)
      rw [hE, hW, hB]
      focus (refine gc_exit ?_; refine gx_then_exit ?_; refine gx_then_exit ?_; refine gx_block_exit ?_; refine gx_next ?_; refine gc_seq ?_; refine gc_region ?_; apply gw_d; exact w_buildP [] (cells := #[.int .i64 0, .int .i64 0, .int .i64 0, .int .i64 0, .int .i64 0, .int .i64 0]) (by kernel_rfl) rfl rfl rfl; refine gM rfl rfl (by conv => (lhs; whnf)) ?_; refine w_store_all rfl rfl rfl rfl rfl (.there .here) rfl ?_; refine gM rfl rfl (by conv => (lhs; whnf)) ?_; refine gO ?_; refine gc_ret ?_; refine gx_block_ret ?_; refine gx_then_ret ?_; refine gx_then_ret ?_; refine gx_block_ret ?_; refine gx_then_ret ?_)
      exact gx_ret3c (cs := #[.int .i64 0, .int .i64 0, .int .i64 0, .int .i64 0, .int .i64 0, .int .i64 0]) rfl rfl rfl rfl .here rfl (fun _ _ => rfl)
  · obtain rfl : k = bs.length := by omega
    rw [List.take_length] at hI
    have hE : trE n bs ps r = 6 := by unfold trE bunAt; rw [hI]
    obtain ⟨hW, hB⟩ := trE_bad (n := n) (bs := bs) (ps := ps) (r := r) (by rw [hE]; decide)
    rw [hE, hW, hB]
    focus (refine gc_exit ?_; refine gx_then_exit ?_; refine gx_then_exit ?_; refine gx_block_exit ?_; refine gx_next ?_; refine gc_seq ?_; refine gc_region ?_; apply gw_d; exact w_buildP [] (cells := #[.int .i64 0, .int .i64 0, .int .i64 0, .int .i64 0, .int .i64 0, .int .i64 0]) (by kernel_rfl) rfl rfl rfl; refine gM rfl rfl (by conv => (lhs; whnf)) ?_; refine w_store_all rfl rfl rfl rfl rfl .here rfl ?_; refine gM rfl rfl (by conv => (lhs; whnf)) ?_; refine gO ?_; refine gc_ret ?_)
    exact gx_ret3c (cs := #[.int .i64 0, .int .i64 0, .int .i64 0, .int .i64 0, .int .i64 0, .int .i64 0]) rfl rfl rfl rfl .here rfl (fun _ _ => rfl)

section
variable {w : World} {v0 v1 v2 v3 v4 v5 v6 vb vw vx : Value} {s : Sty} {bs : List Bun} {ws : List Wrk} {xs : List Scn}
theorem Trace_bad (r : Ret) (hs : StyV w w.heap.size (.agg #[v0, v1, v2, v3, v4, v5, v6]) s) (hb : Sl rBun w w.heap.size vb bs) (hw : Sl rWrk w w.heap.size vw ws) (hx : Sl rScn w w.heap.size vx xs) (he : ¬ judgeAllE (opCheckE s plE) bs ws xs.length = 0) :
    Ok Tryz.prog 28 [.agg #[v0, v1, v2, v3, v4, v5, v6], vb, vw, vx, .agg #[.int .i64 r.tick, .int .i64 r.ply, .int .i64 r.op]].toArray w fun x _ => x = .tuple #[.int .i64 0, .int .i64 (judgeAllE (opCheckE s plE) bs ws xs.length)] := by
  have hD : ∀ (L : List Res) (w' : World), St w L w' → Ok Tryz.prog 20 [.agg #[v0, v1, v2, v3, v4, v5, v6], vb, vw, vx].toArray w' fun x _ => x = .tuple #[.slice none 0 0, .int .i64 (judgeAllE (opCheckE s plE) bs ws xs.length)] := fun L w' s' => cPaid_bad (StyV.later s' hs) (hb.later s') (hw.later s') (hx.later s') he
  refine ok_enter Tryz.func28 rfl Tryz.ntmps28 rfl ?_
  focus (refine gc_seq ?_; refine gc_region ?_; refine gw_boxd (v := .agg _) rfl rfl (fun _ => ?_); refine gw_boxd (v := .agg _) rfl rfl (fun _ => ?_); refine gM rfl rfl (by conv => (lhs; whnf)) ?_; refine gM rfl rfl (by conv => (lhs; whnf)) ?_; refine gN ?_; apply gw_d; exact w_load_boxN rfl rfl rfl (.there .here) rfl; refine gM rfl rfl (by conv => (lhs; whnf)) ?_; refine gM rfl rfl (by conv => (lhs; whnf)) ?_; refine gM rfl rfl (by conv => (lhs; whnf)) ?_; apply gw_d; exact w_call rfl rfl (hD _) rfl; refine gM rfl rfl (by conv => (lhs; whnf)) ?_; apply gw_d; exact det_extract rfl rfl rfl (by conv => (lhs; whnf)); apply gw_d; exact det_extract rfl rfl rfl (by conv => (lhs; whnf)); refine gM rfl rfl (by conv => (lhs; whnf)) ?_; refine gM rfl rfl (by conv => (lhs; whnf)) ?_; refine gO ?_; refine gc_seq ?_; refine gc_seq ?_; refine gc_region ?_; refine gM rfl rfl (by conv => (lhs; whnf)) ?_; refine gC rfl rfl rfl rfl rfl ?_; refine gO ?_)
  refine gc_if_dec rfl (fun _ => ?_) (fun h => absurd he h)
  focus (refine gc_seq ?_; refine gc_region ?_; refine gM rfl rfl (by conv => (lhs; whnf)) ?_; refine gM rfl rfl (by conv => (lhs; whnf)) ?_; refine gM rfl rfl (by conv => (lhs; whnf)) ?_; refine gO ?_; refine gc_ret ?_; refine gx_then_ret ?_)
  refine gx_ret2 (u := .int _ _) (v := .int _ _) rfl rfl rfl (fun _ _ => ?_)
  rfl
theorem Trace_ok (r : Ret) (hs : StyV w w.heap.size (.agg #[v0, v1, v2, v3, v4, v5, v6]) s) (hb : Sl rBun w w.heap.size vb bs) (hw : Sl rWrk w w.heap.size vw ws) (hx : Sl rScn w w.heap.size vx xs) (he : judgeAllE (opCheckE s plE) bs ws xs.length = 0) :
    Ok Tryz.prog 28 [.agg #[v0, v1, v2, v3, v4, v5, v6], vb, vw, vx, .agg #[.int .i64 r.tick, .int .i64 r.ply, .int .i64 r.op]].toArray w fun x _ => x = .tuple #[.int .i64 (trW s.ops.length bs (paidL s.ops ws (ticks bs) xs) r), .int .i64 (trE s.ops.length bs (paidL s.ops ws (ticks bs) xs) r)] := by
  have h6 := sty_ops hs
  obtain ⟨Al, cl, rfl, hlc, hlm⟩ := len_small h6
  obtain ⟨Ab, cb, rfl, hbc, hbm⟩ := len_small hb
  have hD : ∀ (L : List Res) (w' : World), St w L w' → OkM Tryz.prog 20 [.agg #[v0, v1, v2, v3, v4, v5, .slice Al s.ops.length cl], .slice Ab bs.length cb, vw, vx].toArray w' (fun x : Option Addr × Nat => .tuple #[.slice x.1 (paidL s.ops ws (ticks bs) xs).length x.2, .int .i64 0]) (fun x => [Own x.1 (paidL s.ops ws (ticks bs) xs).length x.2 51 4 ((paidL s.ops ws (ticks bs) xs).flatMap encX)]) := fun L w' s' => cPaid_ok (StyV.later s' hs) (hb.later s') (hw.later s') (hx.later s') he
  have hT : ∀ (L : List Res) (w' : World) (A : Option Addr) (k : Nat), St w (Own A (paidL s.ops ws (ticks bs) xs).length k 51 4 ((paidL s.ops ws (ticks bs) xs).flatMap encX) :: L) w' → Ok Tryz.prog 47 [.agg #[.slice Al s.ops.length cl, .slice Ab bs.length cb, .slice A (paidL s.ops ws (ticks bs) xs).length k], .agg #[.int .i64 r.tick, .int .i64 r.ply, .int .i64 r.op]].toArray w' fun y _ => y = .tuple #[.int .i64 (trW s.ops.length bs (paidL s.ops ws (ticks bs) xs) r), .agg (bunC (trB s.ops.length bs (paidL s.ops ws (ticks bs) xs) r)), .int .i64 (trE s.ops.length bs (paidL s.ops ws (ticks bs) xs) r)] := fun L w' A k s' =>
    trace_ok w' Al s.ops.length cl _ _ bs (paidL s.ops ws (ticks bs) xs) r (hb.later s') (Sl.own (R := rScn) (enc := encX) s' .here rfl (fun q hq => paid_rep hx (paid_mem hq))) hlm
  generalize paidL s.ops ws (ticks bs) xs = ps at hD hT
  refine ok_enter Tryz.func28 rfl Tryz.ntmps28 rfl ?_
  focus (refine gc_seq ?_; refine gc_region ?_; refine gw_boxd (v := .agg _) rfl rfl (fun _ => ?_); refine gw_boxd (v := .agg _) rfl rfl (fun _ => ?_); refine gM rfl rfl (by conv => (lhs; whnf)) ?_; refine gM rfl rfl (by conv => (lhs; whnf)) ?_; refine gN ?_; apply gw_d; exact w_load_boxN rfl rfl rfl (.there .here) rfl; refine gM rfl rfl (by conv => (lhs; whnf)) ?_; refine gM rfl rfl (by conv => (lhs; whnf)) ?_; refine gM rfl rfl (by conv => (lhs; whnf)) ?_)
  refine gw_callm rfl (hD _) rfl (fun x => ?_)
  obtain ⟨A, ca⟩ := x
  focus (refine gM rfl rfl (by conv => (lhs; whnf)) ?_; apply gw_d; exact det_extract rfl rfl rfl (by conv => (lhs; whnf)); apply gw_d; exact det_extract rfl rfl rfl (by conv => (lhs; whnf)); refine gM rfl rfl (by conv => (lhs; whnf)) ?_; refine gM rfl rfl (by conv => (lhs; whnf)) ?_; refine gO ?_; refine gc_seq ?_; refine gc_seq ?_; refine gc_region ?_; refine gM rfl rfl (by conv => (lhs; whnf)) ?_; refine gC rfl rfl rfl rfl rfl ?_; refine gO ?_)
  refine gc_if_dec rfl (fun h => absurd rfl h) (fun _ => ?_)
  focus (refine gc_skip ?_; refine gx_next ?_; refine gc_seq ?_; refine gc_region ?_; refine gF rfl rfl rfl ?_; apply gw_d; exact w_load_box rfl rfl rfl (.there (.there .here)) rfl; refine gM rfl rfl (by conv => (lhs; whnf)) ?_; refine gM rfl rfl (by conv => (lhs; whnf)) ?_; apply gw_d; exact w_buildP [(0, .slice Al s.ops.length cl), (1, .slice Ab bs.length cb), (2, .slice A ps.length ca)] (cells := #[.slice Al s.ops.length cl, .slice Ab bs.length cb, .slice A ps.length ca]) (by kernel_rfl) rfl rfl rfl; apply gw_d; exact w_load_boxN rfl rfl rfl (.there .here) rfl; apply gw_d; exact w_call rfl rfl (fun w' s' => hT _ w' A ca s') rfl; refine gM rfl rfl (by conv => (lhs; whnf)) ?_; apply gw_d; exact det_extract rfl rfl rfl (by conv => (lhs; whnf)); apply gw_d; exact det_extract rfl rfl rfl (by conv => (lhs; whnf)); apply gw_d; exact det_extract rfl rfl rfl (by conv => (lhs; whnf)); refine w_alloc rfl (fun _ => ?_); refine gM rfl rfl (by conv => (lhs; whnf)) ?_; refine w_store_all rfl rfl rfl rfl rfl .here rfl ?_; refine gM rfl rfl (by conv => (lhs; whnf)) ?_; refine gN ?_; refine gM rfl rfl (by conv => (lhs; whnf)) ?_; refine gM rfl rfl (by conv => (lhs; whnf)) ?_; refine gM rfl rfl (by conv => (lhs; whnf)) ?_; refine gM rfl rfl (by conv => (lhs; whnf)) ?_; refine gO ?_; refine gc_ret ?_)
  refine gx_ret2 (u := .int _ _) (v := .int _ _) rfl rfl rfl (fun _ _ => ?_)
  rfl
end
end Go.Proofs.YtljibjlkjelpbaaGreatDoor

/- Contracts: returns.part, returns.Charges. -/
namespace Go.Proofs.YtljibjlkjelpbaaGreatDoor
open Go.RowKit
set_option maxRecDepth 100000
set_option maxHeartbeats 4000000

theorem part_ok (w : World) (hL : Lay w) (r le mach mins ply : Int) (nm : ByteArray) (Aa Au : Option Addr) (na ca nu cu : Nat) (b : Bun) (ht : tarE r le = 0) (hM : 0 ≤ mins ∧ mins ≤ 10000) (hb : 1 ≤ b.upto - b.fr ∧ b.upto - b.fr ≤ 40) (hp : b.fr ≤ ply ∧ ply < b.upto) :
    Ok Tryz.prog 50 [.agg #[.int .i64 r, .int .i64 le], .agg #[.string nm, .int .i64 mach, .int .i64 mins, .slice Aa na ca, .slice Au nu cu], .agg (bunC b), .int .i64 ply].toArray w fun y _ => y = .tuple #[.int .i64 ((shL (amtV r le mins (b.upto - b.fr)) (b.upto - b.fr).toNat).getD (ply - b.fr).toNat 0), .int .i64 0] := by
  obtain ⟨n, hn⟩ : ∃ n : Nat, b.upto - b.fr = (n : Int) := ⟨(b.upto - b.fr).toNat, by omega⟩
  obtain ⟨k, hk⟩ : ∃ k : Nat, ply - b.fr = (k : Int) := ⟨(ply - b.fr).toNat, by omega⟩
  have hkn : k < n := by omega
  have hamE : amtE r le mins (n : Int) = 0 := by
    unfold amtE
    rw [if_neg (by rw [ht]; decide), if_neg (by omega)]
  have har := amtV_range r le mins (n : Int)
  have hAm : ∀ (L : List Res) (w' : World), St w L w' → Ok Tryz.prog 30 [.agg #[.int .i64 r, .int .i64 le], .int .i64 mins, .int .i64 (b.upto - b.fr)].toArray w' fun y _ => y = .tuple #[.int .i64 (amtV r le mins (n : Int)), .int .i64 0] := fun L w' s => by
    have := wAmount_ok w' r le mins (n : Int) (hL.later s)
    rw [hamE, ← hn] at this
    rw [← hn]
    exact this
  have hsh : shE (amtV r le mins (n : Int)) n = 0 := by
    unfold shE
    rw [if_neg]
    rw [money_iff.2 (by omega)]
    simp
    omega
  have hS : ∀ (L : List Res) (w' : World), St w L w' → OkM Tryz.prog 36 [.int .i64 (amtV r le mins (n : Int)), .int .i64 (b.upto - b.fr)].toArray w' (fun b : Nat => .tuple #[.slice (some ⟨b, 0, none⟩) n n, .int .i64 0]) (fun b => [Box b 3 ((shL (amtV r le mins (n : Int)) n).map (Value.int .i64)).toArray]) := fun L w' s => by
    rw [hn]
    exact wShare_good w' _ n hsh
  have hlen := shL_len (amtV r le mins (n : Int)) n
  have hrow : ((shL (amtV r le mins (n : Int)) n).map (Value.int .i64)).toArray[k * 1]? = some (.int .i64 ((shL (amtV r le mins (n : Int)) n).getD k 0)) := row_get (Value.int .i64) 0 (by omega)
  have e1 : (b.upto - b.fr).toNat = n := by omega
  have e2 : (ply - b.fr).toNat = k := by omega
  rw [e1, e2, show amtV r le mins (b.upto - b.fr) = amtV r le mins (n : Int) from by rw [hn]]
  unfold bunC
  refine ok_enter Tryz.func50 rfl Tryz.ntmps50 rfl ?_
  focus (refine gc_seq ?_; refine gc_region ?_; refine gw_boxd (v := .agg _) rfl rfl (fun _ => ?_); refine gw_boxd (v := .agg _) rfl rfl (fun _ => ?_); refine gw_boxd (v := .agg _) rfl rfl (fun _ => ?_); refine gM rfl rfl (by conv => (lhs; whnf)) ?_; refine gM rfl rfl (by conv => (lhs; whnf)) ?_; refine gN ?_; refine gF rfl rfl rfl ?_; apply gw_d; exact w_load_box rfl rfl rfl .here rfl; refine gF rfl rfl rfl ?_; apply gw_d; exact w_load_box rfl rfl rfl .here rfl; apply gw_d; exact det_ar rfl rfl rfl rfl rfl (by omega); refine gM rfl rfl (by conv => (lhs; whnf)) ?_; refine gN ?_; apply gw_d; exact w_load_boxN rfl rfl rfl (.there (.there .here)) rfl; refine gF rfl rfl rfl ?_; apply gw_d; exact w_load_box rfl rfl rfl (.there .here) rfl; refine gM rfl rfl (by conv => (lhs; whnf)) ?_; apply gw_d; exact w_call rfl rfl (hAm _) rfl; refine gM rfl rfl (by conv => (lhs; whnf)) ?_; apply gw_d; exact det_extract rfl rfl rfl (by conv => (lhs; whnf)); apply gw_d; exact det_extract rfl rfl rfl (by conv => (lhs; whnf)); refine gM rfl rfl (by conv => (lhs; whnf)) ?_; refine gM rfl rfl (by conv => (lhs; whnf)) ?_; refine gO ?_; refine gc_seq ?_; refine gc_seq ?_; refine gc_region ?_; refine gM rfl rfl (by conv => (lhs; whnf)) ?_; refine gC rfl rfl rfl rfl rfl ?_; refine gO ?_)
  refine gc_if_dec rfl (fun h => absurd rfl h) (fun _ => ?_)
  focus (refine gc_skip ?_; refine gx_next ?_; refine gc_seq ?_; refine gc_region ?_; refine gM rfl rfl (by conv => (lhs; whnf)) ?_; refine gM rfl rfl (by conv => (lhs; whnf)) ?_)
  refine gw_callm rfl (hS _) rfl (fun g => ?_)
  focus (refine gM rfl rfl (by conv => (lhs; whnf)) ?_; apply gw_d; exact det_extract rfl rfl rfl (by conv => (lhs; whnf)); apply gw_d; exact det_extract rfl rfl rfl (by conv => (lhs; whnf)); refine gM rfl rfl (by conv => (lhs; whnf)) ?_; refine gM rfl rfl (by conv => (lhs; whnf)) ?_; refine gO ?_; refine gc_seq ?_; refine gc_seq ?_; refine gc_region ?_; refine gM rfl rfl (by conv => (lhs; whnf)) ?_; refine gC rfl rfl rfl rfl rfl ?_; refine gO ?_)
  refine gc_if_dec rfl (fun h => absurd rfl h) (fun _ => ?_)
  focus (refine gc_skip ?_; refine gx_next ?_; refine gc_seq ?_; refine gc_region ?_; refine gM rfl rfl (by conv => (lhs; whnf)) ?_; refine gM rfl rfl (by conv => (lhs; whnf)) ?_; refine gF rfl rfl rfl ?_; apply gw_d; exact w_load_box rfl rfl rfl (.there .here) rfl; apply gw_d; exact det_ar rfl rfl rfl rfl rfl (by omega); apply gw_d; exact w_index (m := k) rfl rfl rfl rfl hk hkn; apply gw_d; exact w_load_row rfl rfl rfl .here hrow; refine gM rfl rfl (by conv => (lhs; whnf)) ?_; refine gM rfl rfl (by conv => (lhs; whnf)) ?_; refine gO ?_; refine gc_ret ?_)
  refine gx_ret2 (u := .int _ _) (v := .int _ _) rfl rfl rfl (fun _ _ => ?_)
  rfl

def chgErr (r le e : Int) (bs : List Bun) (ws : List Wrk) (nx nl : Nat) : Int := if nl > 300 then 5 else if ¬ judgeAllE e bs ws nx = 0 then judgeAllE e bs ws nx else tarE r le
theorem chgErr_zero {r le e : Int} {bs : List Bun} {ws : List Wrk} {nx nl : Nat} (h : chgErr r le e bs ws nx nl = 0) : nl ≤ 300 ∧ judgeAllE e bs ws nx = 0 ∧ tarE r le = 0 := by
  unfold chgErr at h
  split at h
  · cases h
  · rename_i h1
    split at h
    · rename_i h2; exact absurd h h2
    · rename_i h2; exact ⟨by omega, Classical.not_not.1 h2, h⟩
theorem chgErr_mk {r le e : Int} {bs : List Bun} {ws : List Wrk} {nx nl : Nat} (h1 : nl ≤ 300) (h2 : judgeAllE e bs ws nx = 0) (h3 : tarE r le = 0) : chgErr r le e bs ws nx nl = 0 := by
  unfold chgErr
  rw [if_neg (by omega), if_neg (by rw [h2]; decide)]
  exact h3
section
variable {w : World} {v0 v1 v2 v3 v4 v5 v6 vb vw vx vl : Value} {r le : Int} {s : Sty} {bs : List Bun} {ws : List Wrk} {xs : List Scn} {l : List Ret}
theorem Charges_bad (hL : Lay w) (hs : StyV w w.heap.size (.agg #[v0, v1, v2, v3, v4, v5, v6]) s) (hb : Sl rBun w w.heap.size vb bs) (hw : Sl rWrk w w.heap.size vw ws) (hx : Sl rScn w w.heap.size vx xs) (hl : Sl rRet w w.heap.size vl l) (he : ¬ chgErr r le (opCheckE s plE) bs ws xs.length l.length = 0) :
    Ok Tryz.prog 46 [.agg #[v0, v1, v2, v3, v4, v5, v6], vb, vw, vx, .agg #[.int .i64 r, .int .i64 le], vl].toArray w fun x _ => x = .tuple #[.slice none 0 0, .slice none 0 0, .int .i64 (chgErr r le (opCheckE s plE) bs ws xs.length l.length)] := by
  obtain ⟨Al, cl, rfl, hlc, hlm, _⟩ := hl.ret
  by_cases h1 : l.length > 300
  · have hE : chgErr r le (opCheckE s plE) bs ws xs.length l.length = 5 := by unfold chgErr; rw [if_pos h1]
    rw [hE]
    refine ok_enter Tryz.func46 rfl Tryz.ntmps46 rfl ?_
    focus (refine gc_seq ?_; refine gc_region ?_; refine gw_boxd (v := .agg _) rfl rfl (fun _ => ?_); refine gw_boxd (v := .agg _) rfl rfl (fun _ => ?_); refine gM rfl rfl (by conv => (lhs; whnf)) ?_; refine gM rfl rfl (by conv => (lhs; whnf)) ?_; refine gM rfl rfl (by conv => (lhs; whnf)) ?_; refine gO ?_; refine gc_seq ?_; refine gc_seq ?_; refine gc_region ?_; refine gM rfl rfl (by conv => (lhs; whnf)) ?_; refine gL rfl rfl rfl ?_; refine gC rfl rfl rfl rfl rfl ?_; refine gO ?_)
    refine gc_if_dec rfl (fun _ => ?_) (fun h => by omega)
    focus (refine gc_seq ?_; refine gc_region ?_; refine gM rfl rfl (by conv => (lhs; whnf)) ?_; refine gM rfl rfl (by conv => (lhs; whnf)) ?_; refine gM rfl rfl (by conv => (lhs; whnf)) ?_; refine gO ?_; refine gc_ret ?_; refine gx_then_ret ?_)
    refine gx_ret3 (u := .slice _ _ _) (v := .slice _ _ _) (x := .int _ _) rfl rfl rfl rfl (fun _ _ => ?_)
    rfl
  by_cases h2 : judgeAllE (opCheckE s plE) bs ws xs.length = 0
  · have hE : chgErr r le (opCheckE s plE) bs ws xs.length l.length = tarE r le := by unfold chgErr; rw [if_neg h1, if_neg (by rw [h2]; decide)]
    rw [hE] at he ⊢
    have hC : ∀ (L : List Res) (w' : World), St w L w' → Ok Tryz.prog 33 [.agg #[.int .i64 r, .int .i64 le]].toArray w' fun x _ => x = .int .i64 (tarE r le) := fun L w' s => wCheck_ok w' r le (hL.later s)
    have hD : ∀ (L : List Res) (w' : World), St w L w' → OkM Tryz.prog 20 [.agg #[v0, v1, v2, v3, v4, v5, v6], vb, vw, vx].toArray w' (fun x : Option Addr × Nat => .tuple #[.slice x.1 (paidL s.ops ws (ticks bs) xs).length x.2, .int .i64 0]) (fun x => [Own x.1 (paidL s.ops ws (ticks bs) xs).length x.2 51 4 ((paidL s.ops ws (ticks bs) xs).flatMap encX)]) := fun L w' s' => cPaid_ok (StyV.later s' hs) (hb.later s') (hw.later s') (hx.later s') h2
    refine ok_enter Tryz.func46 rfl Tryz.ntmps46 rfl ?_
    focus (refine gc_seq ?_; refine gc_region ?_; refine gw_boxd (v := .agg _) rfl rfl (fun _ => ?_); refine gw_boxd (v := .agg _) rfl rfl (fun _ => ?_); refine gM rfl rfl (by conv => (lhs; whnf)) ?_; refine gM rfl rfl (by conv => (lhs; whnf)) ?_; refine gM rfl rfl (by conv => (lhs; whnf)) ?_; refine gO ?_; refine gc_seq ?_; refine gc_seq ?_; refine gc_region ?_; refine gM rfl rfl (by conv => (lhs; whnf)) ?_; refine gL rfl rfl rfl ?_; refine gC rfl rfl rfl rfl rfl ?_; refine gO ?_)
    refine gc_if_dec rfl (fun h => by omega) (fun _ => ?_)
    focus (refine gc_skip ?_; refine gx_next ?_; refine gc_seq ?_; refine gc_region ?_; apply gw_d; exact w_load_boxN rfl rfl rfl (.there .here) rfl; refine gM rfl rfl (by conv => (lhs; whnf)) ?_; refine gM rfl rfl (by conv => (lhs; whnf)) ?_; refine gM rfl rfl (by conv => (lhs; whnf)) ?_)
    refine gw_callm rfl (hD _) rfl (fun x => ?_)
    obtain ⟨A, ca⟩ := x
    focus (refine gM rfl rfl (by conv => (lhs; whnf)) ?_; apply gw_d; exact det_extract rfl rfl rfl (by conv => (lhs; whnf)); apply gw_d; exact det_extract rfl rfl rfl (by conv => (lhs; whnf)); refine gM rfl rfl (by conv => (lhs; whnf)) ?_; refine gM rfl rfl (by conv => (lhs; whnf)) ?_; refine gO ?_; refine gc_seq ?_; refine gc_seq ?_; refine gc_region ?_; refine gM rfl rfl (by conv => (lhs; whnf)) ?_; refine gC rfl rfl rfl rfl rfl ?_; refine gO ?_)
    refine gc_if_dec rfl (fun h => absurd rfl h) (fun _ => ?_)
    focus (refine gc_skip ?_; refine gx_next ?_; refine gc_seq ?_; refine gc_seq ?_; refine gc_region ?_; apply gw_d; exact w_load_boxN rfl rfl rfl (.there .here) rfl; apply gw_d; exact w_call rfl rfl (hC _) rfl; refine gM rfl rfl (by conv => (lhs; whnf)) ?_; refine gN ?_; refine gM rfl rfl (by conv => (lhs; whnf)) ?_; refine gC rfl rfl rfl rfl rfl ?_; refine gO ?_)
    refine gc_if_dec rfl (fun _ => ?_) (fun h => absurd he h)
    focus (refine gc_seq ?_; refine gc_region ?_; refine gM rfl rfl (by conv => (lhs; whnf)) ?_; refine gM rfl rfl (by conv => (lhs; whnf)) ?_; refine gM rfl rfl (by conv => (lhs; whnf)) ?_; refine gM rfl rfl (by conv => (lhs; whnf)) ?_; refine gO ?_; refine gc_ret ?_; refine gx_then_ret ?_)
    refine gx_ret3 (u := .slice _ _ _) (v := .slice _ _ _) (x := .int _ _) rfl rfl rfl rfl (fun _ _ => ?_)
    rfl
  · have hE : chgErr r le (opCheckE s plE) bs ws xs.length l.length = judgeAllE (opCheckE s plE) bs ws xs.length := by unfold chgErr; rw [if_neg h1, if_pos h2]
    rw [hE]
    have hD : ∀ (L : List Res) (w' : World), St w L w' → Ok Tryz.prog 20 [.agg #[v0, v1, v2, v3, v4, v5, v6], vb, vw, vx].toArray w' fun x _ => x = .tuple #[.slice none 0 0, .int .i64 (judgeAllE (opCheckE s plE) bs ws xs.length)] := fun L w' s' => cPaid_bad (StyV.later s' hs) (hb.later s') (hw.later s') (hx.later s') h2
    refine ok_enter Tryz.func46 rfl Tryz.ntmps46 rfl ?_
    focus (refine gc_seq ?_; refine gc_region ?_; refine gw_boxd (v := .agg _) rfl rfl (fun _ => ?_); refine gw_boxd (v := .agg _) rfl rfl (fun _ => ?_); refine gM rfl rfl (by conv => (lhs; whnf)) ?_; refine gM rfl rfl (by conv => (lhs; whnf)) ?_; refine gM rfl rfl (by conv => (lhs; whnf)) ?_; refine gO ?_; refine gc_seq ?_; refine gc_seq ?_; refine gc_region ?_; refine gM rfl rfl (by conv => (lhs; whnf)) ?_; refine gL rfl rfl rfl ?_; refine gC rfl rfl rfl rfl rfl ?_; refine gO ?_)
    refine gc_if_dec rfl (fun h => by omega) (fun _ => ?_)
    focus (refine gc_skip ?_; refine gx_next ?_; refine gc_seq ?_; refine gc_region ?_; apply gw_d; exact w_load_boxN rfl rfl rfl (.there .here) rfl; refine gM rfl rfl (by conv => (lhs; whnf)) ?_; refine gM rfl rfl (by conv => (lhs; whnf)) ?_; refine gM rfl rfl (by conv => (lhs; whnf)) ?_; apply gw_d; exact w_call rfl rfl (hD _) rfl; refine gM rfl rfl (by conv => (lhs; whnf)) ?_; apply gw_d; exact det_extract rfl rfl rfl (by conv => (lhs; whnf)); apply gw_d; exact det_extract rfl rfl rfl (by conv => (lhs; whnf)); refine gM rfl rfl (by conv => (lhs; whnf)) ?_; refine gM rfl rfl (by conv => (lhs; whnf)) ?_; refine gO ?_; refine gc_seq ?_; refine gc_seq ?_; refine gc_region ?_; refine gM rfl rfl (by conv => (lhs; whnf)) ?_; refine gC rfl rfl rfl rfl rfl ?_; refine gO ?_)
    refine gc_if_dec rfl (fun _ => ?_) (fun h => absurd h2 h)
    focus (refine gc_seq ?_; refine gc_region ?_; refine gM rfl rfl (by conv => (lhs; whnf)) ?_; refine gM rfl rfl (by conv => (lhs; whnf)) ?_; refine gM rfl rfl (by conv => (lhs; whnf)) ?_; refine gM rfl rfl (by conv => (lhs; whnf)) ?_; refine gO ?_; refine gc_ret ?_; refine gx_then_ret ?_)
    refine gx_ret3 (u := .slice _ _ _) (v := .slice _ _ _) (x := .int _ _) rfl rfl rfl rfl (fun _ _ => ?_)
    rfl

theorem Charges_ok (hL : Lay w) (hs : StyV w w.heap.size (.agg #[v0, v1, v2, v3, v4, v5, v6]) s) (hb : Sl rBun w w.heap.size vb bs) (hw : Sl rWrk w w.heap.size vw ws) (hx : Sl rScn w w.heap.size vx xs) (hl : Sl rRet w w.heap.size vl l) (he : chgErr r le (opCheckE s plE) bs ws xs.length l.length = 0) :
    OkM Tryz.prog 46 [.agg #[v0, v1, v2, v3, v4, v5, v6], vb, vw, vx, .agg #[.int .i64 r, .int .i64 le], vl].toArray w
      (fun x : (Option Addr × Nat) × Nat => .tuple #[.slice x.1.1 (chgL r le s.ops bs (paidL s.ops ws (ticks bs) xs) l).length x.1.2, .slice (some ⟨x.2, 0, none⟩) l.length l.length, .int .i64 0])
      (fun x => [Own x.1.1 (chgL r le s.ops bs (paidL s.ops ws (ticks bs) xs) l).length x.1.2 74 5 ((chgL r le s.ops bs (paidL s.ops ws (ticks bs) xs) l).flatMap encC), Box x.2 3 ((outsR (okR s.ops.length bs (paidL s.ops ws (ticks bs) xs)) [] l).map (Value.int .i64)).toArray]) := by
  obtain ⟨h300, h2, ht⟩ := chgErr_zero he
  obtain ⟨hOk, hx300⟩ := judge_zero h2
  obtain ⟨hSm, hMin⟩ := scan_ops hOk
  have hPl := hOk.bundles
  have h6 := sty_ops hs
  obtain ⟨Al, cl, rfl, hlc, hlm⟩ := len_small h6
  obtain ⟨Ab, cb, rfl, hbc, hbm⟩ := len_small hb
  obtain ⟨Ar, cr, rfl, hrc, hrm, hrcell⟩ := hl.ret
  have hC : ∀ (L : List Res) (w' : World), St w L w' → Ok Tryz.prog 33 [.agg #[.int .i64 r, .int .i64 le]].toArray w' fun x _ => x = .int .i64 0 := fun L w' s => by
    have := wCheck_ok w' r le (hL.later s)
    rw [ht] at this
    exact this
  have hD : ∀ (L : List Res) (w' : World), St w L w' → OkM Tryz.prog 20 [.agg #[v0, v1, v2, v3, v4, v5, .slice Al s.ops.length cl], .slice Ab bs.length cb, vw, vx].toArray w' (fun x : Option Addr × Nat => .tuple #[.slice x.1 (paidL s.ops ws (ticks bs) xs).length x.2, .int .i64 0]) (fun x => [Own x.1 (paidL s.ops ws (ticks bs) xs).length x.2 51 4 ((paidL s.ops ws (ticks bs) xs).flatMap encX)]) := fun L w' s' => cPaid_ok (StyV.later s' hs) (hb.later s') (hw.later s') (hx.later s') h2
  have hT : ∀ (L L' : List Res) (w' : World) (A : Option Addr) (k : Nat) (x : Ret), Pick L (Own A (paidL s.ops ws (ticks bs) xs).length k 51 4 ((paidL s.ops ws (ticks bs) xs).flatMap encX)) L' → St w L w' → Ok Tryz.prog 47 [.agg #[.slice Al s.ops.length cl, .slice Ab bs.length cb, .slice A (paidL s.ops ws (ticks bs) xs).length k], .agg #[.int .i64 x.tick, .int .i64 x.ply, .int .i64 x.op]].toArray w' fun y _ => y = .tuple #[.int .i64 (trW s.ops.length bs (paidL s.ops ws (ticks bs) xs) x), .agg (bunC (trB s.ops.length bs (paidL s.ops ws (ticks bs) xs) x)), .int .i64 (trE s.ops.length bs (paidL s.ops ws (ticks bs) xs) x)] := fun L L' w' A k x hp s' =>
    trace_ok w' Al s.ops.length cl _ _ bs (paidL s.ops ws (ticks bs) xs) x (hb.later s') (Sl.own (R := rScn) (enc := encX) s' hp rfl (fun q hq => paid_rep hx (paid_mem hq))) hlm
  generalize paidL s.ops ws (ticks bs) xs = ps at hD hT ⊢
  unfold OkM
  refine ok_enter Tryz.func46 rfl Tryz.ntmps46 rfl ?_
  focus (refine gc_seq ?_; refine gc_region ?_; refine gw_boxd (v := .agg _) rfl rfl (fun _ => ?_); refine gw_boxd (v := .agg _) rfl rfl (fun _ => ?_); refine gM rfl rfl (by conv => (lhs; whnf)) ?_; refine gM rfl rfl (by conv => (lhs; whnf)) ?_; refine gM rfl rfl (by conv => (lhs; whnf)) ?_; refine gO ?_; refine gc_seq ?_; refine gc_seq ?_; refine gc_region ?_; refine gM rfl rfl (by conv => (lhs; whnf)) ?_; refine gL rfl rfl rfl ?_; refine gC rfl rfl rfl rfl rfl ?_; refine gO ?_)
  rename_i bS bT
  refine gc_if_dec rfl (fun h => by omega) (fun _ => ?_)
  focus (refine gc_skip ?_; refine gx_next ?_; refine gc_seq ?_; refine gc_region ?_; apply gw_d; exact w_load_boxN rfl rfl rfl (.there .here) rfl; refine gM rfl rfl (by conv => (lhs; whnf)) ?_; refine gM rfl rfl (by conv => (lhs; whnf)) ?_; refine gM rfl rfl (by conv => (lhs; whnf)) ?_)
  refine gw_callm rfl (hD _) rfl (fun x => ?_)
  obtain ⟨A, ca⟩ := x
  focus (refine gM rfl rfl (by conv => (lhs; whnf)) ?_; apply gw_d; exact det_extract rfl rfl rfl (by conv => (lhs; whnf)); apply gw_d; exact det_extract rfl rfl rfl (by conv => (lhs; whnf)); refine gM rfl rfl (by conv => (lhs; whnf)) ?_; refine gM rfl rfl (by conv => (lhs; whnf)) ?_; refine gO ?_; refine gc_seq ?_; refine gc_seq ?_; refine gc_region ?_; refine gM rfl rfl (by conv => (lhs; whnf)) ?_; refine gC rfl rfl rfl rfl rfl ?_; refine gO ?_)
  refine gc_if_dec rfl (fun h => absurd rfl h) (fun _ => ?_)
  focus (refine gc_skip ?_; refine gx_next ?_; refine gc_seq ?_; refine gc_seq ?_; refine gc_region ?_; apply gw_d; exact w_load_boxN rfl rfl rfl (.there .here) rfl; apply gw_d; exact w_call rfl rfl (hC _) rfl; refine gM rfl rfl (by conv => (lhs; whnf)) ?_; refine gN ?_; refine gM rfl rfl (by conv => (lhs; whnf)) ?_; refine gC rfl rfl rfl rfl rfl ?_; refine gO ?_)
  refine gc_if_dec rfl (fun h => absurd rfl h) (fun _ => ?_)
  focus (refine gc_skip ?_; refine gx_next ?_; refine gc_seq ?_; refine gc_region ?_; refine gF rfl rfl rfl ?_; apply gw_d; exact w_load_box rfl rfl rfl (.there (.there .here)) rfl; refine gM rfl rfl (by conv => (lhs; whnf)) ?_; refine gM rfl rfl (by conv => (lhs; whnf)) ?_; apply gw_d; exact w_buildP [(0, .slice Al s.ops.length cl), (1, .slice Ab bs.length cb), (2, .slice A ps.length ca)] (cells := #[.slice Al s.ops.length cl, .slice Ab bs.length cb, .slice A ps.length ca]) (by kernel_rfl) rfl rfl rfl; refine w_alloc rfl (fun _ => ?_); refine w_store_all rfl rfl rfl rfl rfl .here rfl ?_; refine gN ?_)
  rename_i bH
  refine gw_makeMap (kInts retF) rfl (fun bm => ?_)
  focus (refine gM rfl rfl (by conv => (lhs; whnf)) ?_; refine gN ?_; refine gM rfl rfl (by conv => (lhs; whnf)) ?_; refine gN ?_; refine gM rfl rfl (by conv => (lhs; whnf)) ?_; refine gL rfl rfl rfl ?_)
  refine gw_make1 (n := l.length) rfl rfl rfl rfl rfl (by omega) (by omega) rfl (fun bo => ?_)
  rw [show Array.replicate l.length ((Value.int .i64 0).cells.getD 0 undef) = ((outRow (outsR (okR s.ops.length bs ps) [] (l.take 0)) l.length).map (Value.int .i64)).toArray from by rw [List.take_zero]; show _ = ((outRow [] l.length).map (Value.int .i64)).toArray; rw [outRow_nil]; exact row_make (Value.int .i64) l.length 0]
  focus (refine gM rfl rfl (by conv => (lhs; whnf)) ?_; refine gO ?_; refine gc_seq ?_; refine gc_seq ?_; refine gc_region ?_; refine gM rfl rfl (by conv => (lhs; whnf)) ?_; refine gL rfl rfl rfl ?_; refine gM rfl rfl (by conv => (lhs; whnf)) ?_; refine gO ?_; refine gc_block ?_)
  refine gc_own0 74 5 ?_
  refine gc_loop (σ := Nat × Option Addr × Nat) [59, 60, 61, 62, 23, 22, 64, 65, 66, 63, 67, 68, 69, 25, 24, 26, 70, 71, 72, 73, 74, 75, 76, 77, 78, 79, 80, 82, 83, 84, 85, 86, 87, 88, 89, 90, 91, 92, 81, 93, 94, 27, 95, 96, 97, 12, 13, 14, 98, 99, 100, 101, 102, 103, 104, 105, 106, 107, 108, 109, 110, 111, 112, 113, 114, 20, 115, 58] (fun q => [(58, .int .i64 q.1), (20, .slice q.2.1 (doneL (okR s.ops.length bs ps) (l.take q.1)).length q.2.2)])
    (fun q => [Own q.2.1 (doneL (okR s.ops.length bs ps) (l.take q.1)).length q.2.2 74 5 (((doneL (okR s.ops.length bs ps) (l.take q.1)).map (chgOf r le s.ops bs ps)).flatMap encC), Box bo 3 ((outRow (outsR (okR s.ops.length bs ps) [] (l.take q.1)) l.length).map (Value.int .i64)).toArray, MapR bm (kInts retF) (setM (doneL (okR s.ops.length bs ps) (l.take q.1))), Box bH 108 #[.slice Al s.ops.length cl, .slice Ab bs.length cb, .slice A ps.length ca], Own A ps.length ca 51 4 (ps.flatMap encX), Box bT 36 #[.int .i64 r, .int .i64 le], Box bS 29 #[v0, v1, v2, v3, v4, v5, .slice Al s.ops.length cl]])
    (fun q => q.1 ≤ l.length) (fun q => l.length - q.1) (0, none, 0) (Nat.zero_le _) ⟨rfl, rfl, trivial⟩ (.cons .here (.cons .here (.cons .here (.cons .here (.cons .here (.cons .here (.cons .here .nil))))))) ?_
  rintro ⟨k, A1, c1⟩ base hk
  dsimp only at hk ⊢
  focus (refine gc_seq ?_; refine gc_region ?_; refine gC rfl rfl rfl rfl rfl ?_; refine gO ?_; refine gc_seq ?_)
  refine gc_if_dec rfl (fun h => ?_) (fun h => ?_)
  · have hlt : k < l.length := by omega
    obtain ⟨ad, rfl, hbk, hce, _⟩ := hrcell k hlt
    have hts : l.take (k + 1) = l.take k ++ [l[k]] := List.take_succ_eq_append_getElem hlt
    have hds := doneL_snoc (ok := okR s.ops.length bs ps) (l.take k) l[k]
    have hos := outsR_snoc (ok := okR s.ops.length bs ps) l[k] (l.take k) []
    have hol := outsR_len (ok := okR s.ops.length bs ps) (l.take k) []
    have hdl := done_len (ok := okR s.ops.length bs ps) (l.take k)
    rw [List.length_take, Nat.min_eq_left hk] at hol hdl
    rw [← hts] at hds hos
    change outsR _ [] _ = _ ++ [outR _ (doneL _ _) _] at hos
    have hset := fun v => outRow_set (l := outsR (okR s.ops.length bs ps) [] (l.take k)) (n := l.length) (by omega) v
    have hrl := outRow_len (l := outsR (okR s.ops.length bs ps) [] (l.take k)) (n := l.length) (by omega)
    rw [hol] at hset
    generalize hx0 : l[k] = x at *
    generalize doneL (okR s.ops.length bs ps) (l.take k) = D at *
    generalize outsR (okR s.ops.length bs ps) [] (l.take k) = O at *
    focus (refine gc_skip ?_; refine gx_next ?_; refine gc_seq ?_; refine gc_block ?_; refine gc_seq ?_; refine gc_region ?_; refine gM rfl rfl (by conv => (lhs; whnf)) ?_; apply gw_d; exact w_index rfl rfl rfl rfl (by with_reducible exact rfl) (by omega); apply gw_d; exact w_load_elem rfl rfl rfl (by assumption) (by assumption) (by rfl); refine w_alloc rfl (fun _ => ?_); refine gM rfl rfl (by conv => (lhs; whnf)) ?_; refine w_store_all rfl rfl rfl rfl rfl .here rfl ?_; refine gN ?_; apply gw_d; exact w_load_boxN rfl rfl rfl (.there (.there (.there (.there .here)))) rfl; apply gw_d; exact w_load_boxN rfl rfl rfl .here rfl; apply gw_d; exact w_call rfl rfl (fun w' s' => hT _ _ w' A ca x (.there (.there (.there (.there (.there .here))))) s') rfl; refine gM rfl rfl (by conv => (lhs; whnf)) ?_; apply gw_d; exact det_extract rfl rfl rfl (by conv => (lhs; whnf)); apply gw_d; exact det_extract rfl rfl rfl (by conv => (lhs; whnf)); apply gw_d; exact det_extract rfl rfl rfl (by conv => (lhs; whnf)); refine w_alloc rfl (fun _ => ?_); refine gM rfl rfl (by conv => (lhs; whnf)) ?_; refine w_store_all rfl rfl rfl rfl rfl .here rfl ?_; refine gM rfl rfl (by conv => (lhs; whnf)) ?_; refine gO ?_; refine gc_seq ?_; refine gc_seq ?_; refine gc_region ?_; refine gM rfl rfl (by conv => (lhs; whnf)) ?_; refine gC rfl rfl rfl rfl rfl ?_; refine gO ?_)
    by_cases hE : trE s.ops.length bs ps x = 0
    · have hok : okR s.ops.length bs ps x = true := decide_eq_true hE
      obtain ⟨b, y, hTr⟩ := trE_zero hE
      refine gc_if_dec rfl (fun h => absurd hE h) (fun _ => ?_)
      by_cases hD2 : x ∈ D
      · have hhas : hasB D x = true := hasB_iff.2 hD2
        have hn : nextD (okR s.ops.length bs ps) D x = D := by unfold nextD; rw [if_neg (fun hc => hc.2 hD2)]
        have ho : outR (okR s.ops.length bs ps) D x = 2 := by unfold outR; rw [if_neg (by rw [hok]; decide), if_pos hD2]
        rw [hn] at hds
        rw [ho] at hos
        focus (refine gc_skip ?_; refine gx_next ?_; refine gc_seq ?_; refine gc_seq ?_; refine gc_region ?_; refine gM rfl rfl (by conv => (lhs; whnf)) ?_; apply gw_d; exact w_load_boxN rfl rfl rfl (.there .here) rfl; apply gw_d; exact det_eq (c' := .bool true) (w_lookup (k := x) (structLaw (n := 3) (f := retF) (fun _ => rfl) retF_inj) rfl rfl rfl rfl (.there (.there (.there (.there .here))))) (by rw [setM_has, hhas]); refine gO ?_)
        refine gc_if_true rfl ?_
        focus (refine gc_seq ?_; refine gc_region ?_; refine gM rfl rfl (by conv => (lhs; whnf)) ?_; refine gM rfl rfl (by conv => (lhs; whnf)) ?_; apply gw_d; exact w_index (m := k) rfl rfl rfl rfl rfl hlt)
        refine w_store_row (n := 1) (v := .int .i64 2) rfl rfl rfl rfl rfl (.there (.there (.there .here))) (by simp; omega) (row_set (Value.int .i64) (by omega) 2) ?_
        focus (refine gO ?_; refine gc_exit ?_; refine gx_then_exit ?_; refine gx_block_exit ?_; refine gx_next ?_; refine gc_region ?_; apply gw_d; exact det_ar rfl rfl rfl rfl rfl (by omega); refine gM rfl rfl (by conv => (lhs; whnf)) ?_; refine gw_nil ?_)
        refine gx_round (k + 1, A1, c1) hlt (by dsimp only; omega) (by repeat (first | exact Keeps.refl | refine Keeps.upd rfl ?_ | refine Keeps.sets rfl ?_ | refine Keeps.havoc rfl ?_)) ⟨rfl, by dsimp only; rw [hds]; rfl, trivial⟩ ?_
        dsimp only
        rw [hds, hos, hset]
        exact .cons (.there (.there (.there .here))) (.cons .here (.cons (.there (.there .here)) (.cons (.there (.there .here)) (.cons (.there (.there .here)) (.cons (.there (.there .here)) (.cons (.there (.there .here)) .nil))))))
      · have hhas : hasB D x = false := by
          cases hb : hasB D x with
          | false => rfl
          | true => exact absurd (hasB_iff.1 hb) hD2
        have hn : nextD (okR s.ops.length bs ps) D x = D ++ [x] := by unfold nextD; rw [if_pos ⟨hok, hD2⟩]
        have ho : outR (okR s.ops.length bs ps) D x = 1 := by unfold outR; rw [if_neg (by rw [hok]; decide), if_neg hD2]
        rw [hn] at hds
        rw [ho] at hos
        obtain ⟨o, hop⟩ : ∃ o : Nat, x.op = (o : Int) := ⟨x.op.toNat, by have := hTr.op; omega⟩
        have hol2 : o < s.ops.length := by have := hTr.op; omega
        obtain ⟨ad3, _, hv, _, _, hb3, hocell⟩ := h6.at' 5 rfl (by omega)
        injection hv with e1 e2 e3
        subst e1 e3
        obtain ⟨cs, hco, Aa, ca', Au, cu, rfl, hnm, q1, q2⟩ := hocell o hol2
        have hmin : minAt s.ops x.op = s.ops[o].minutes := by
          unfold minAt
          rw [hop, Int.toNat_natCast, List.getElem?_eq_getElem hol2]
          rfl
        have hsh : (shL (amtV r le s.ops[o].minutes (b.upto - b.fr)) (b.upto - b.fr).toNat).getD (x.ply - b.fr).toNat 0 = shareOf r le s.ops bs x := by
          unfold shareOf amtF frAt
          rw [cnt_bun hTr.bun, hTr.bun, hmin]
          rfl
        have hbb := hTr.b
        have hww := hTr.w
        rw [hbb]
        have hP : ∀ (L : List Res) (w' : World), St w L w' → Ok Tryz.prog 50 [.agg #[.int .i64 r, .int .i64 le], .agg #[.string s.ops[o].name, .int .i64 s.ops[o].machine, .int .i64 s.ops[o].minutes, .slice Aa s.ops[o].after.length ca', .slice Au s.ops[o].uses.length cu], .agg (bunC b), .int .i64 x.ply].toArray w' fun y _ => y = .tuple #[.int .i64 (shareOf r le s.ops bs x), .int .i64 0] := fun L w' s' => by
          have := part_ok w' (hL.later s') r le s.ops[o].machine s.ops[o].minutes x.ply s.ops[o].name Aa Au s.ops[o].after.length ca' s.ops[o].uses.length cu b ht (hMin o hol2) (hPl.h b (bunAt_mem hTr.bun).1) hTr.ply
          rw [hsh] at this
          exact this
        focus (refine gc_skip ?_; refine gx_next ?_; refine gc_seq ?_; refine gc_seq ?_; refine gc_region ?_; refine gM rfl rfl (by conv => (lhs; whnf)) ?_; apply gw_d; exact w_load_boxN rfl rfl rfl (.there .here) rfl; apply gw_d; exact det_eq (c' := .bool false) (w_lookup (k := x) (structLaw (n := 3) (f := retF) (fun _ => rfl) retF_inj) rfl rfl rfl rfl (.there (.there (.there (.there .here))))) (by rw [setM_has, hhas]); refine gO ?_)
        refine gc_if_false rfl ?_
        focus (refine gc_skip ?_; refine gx_next ?_; refine gc_seq ?_)
        refine gc_draw 15 (by kernel_rfl) (by kernel_rfl) ?_
        focus (apply gd_d; exact w_load_boxN rfl rfl rfl (.there (.there (.there (.there (.there (.there (.there .here))))))) rfl; apply gd_d; exact w_field rfl rfl rfl; apply gd_d; exact w_load_box rfl rfl rfl (.there (.there (.there (.there (.there (.there (.there (.there .here)))))))) rfl; apply gd_d; exact w_field rfl rfl rfl; apply gd_d; exact w_load_box rfl rfl rfl (.there .here) rfl; apply gd_d; exact w_index (m := o) rfl rfl rfl rfl hop hol2; apply gd_d; exact w_load_elem rfl rfl rfl (by assumption) (by assumption) (by rfl); apply gd_d; exact w_load_boxN rfl rfl rfl .here rfl; apply gd_d; exact w_field rfl rfl rfl; apply gd_d; exact w_load_box rfl rfl rfl (.there .here) rfl; apply gd_d; exact w_call rfl rfl (hP _) rfl; apply gd_d; exact det_m rfl rfl (by conv => (lhs; whnf)); apply gd_d; exact det_extract rfl rfl rfl (by conv => (lhs; whnf)); apply gd_d; exact det_extract rfl rfl rfl (by conv => (lhs; whnf)); apply gd_d; exact det_m rfl rfl (by conv => (lhs; whnf)); refine gd_nil ?_; refine gM rfl rfl (by conv => (lhs; whnf)) ?_; refine gO ?_; refine gc_seq ?_; refine gc_seq ?_; refine gc_region ?_; refine gM rfl rfl (by conv => (lhs; whnf)) ?_; refine gC rfl rfl rfl rfl rfl ?_; refine gO ?_)
        refine gc_if_dec rfl (fun h => absurd rfl h) (fun _ => ?_)
        focus (refine gc_skip ?_; refine gx_next ?_; refine gc_seq ?_; refine gc_region ?_; refine gM rfl rfl (by conv => (lhs; whnf)) ?_; refine gM rfl rfl (by conv => (lhs; whnf)) ?_; apply gw_d; exact w_index (m := k) rfl rfl rfl rfl rfl hlt)
        refine w_store_row (n := 1) (v := .int .i64 1) rfl rfl rfl rfl rfl (.there (.there (.there .here))) (by simp; omega) (row_set (Value.int .i64) (by omega) 1) ?_
        focus (refine gN ?_; refine gM rfl rfl (by conv => (lhs; whnf)) ?_; apply gw_d; exact w_load_boxN rfl rfl rfl (.there (.there .here)) rfl)
        refine gw_mapSet (k := x) (v := .bool true) (structLaw (n := 3) (f := retF) (fun _ => rfl) retF_inj) rfl rfl rfl rfl (.there (.there (.there (.there .here)))) ?_
        rw [← setM_snoc]
        focus (refine gO ?_; refine gc_region ?_; refine gM rfl rfl (by conv => (lhs; whnf)) ?_; refine gM rfl rfl (by conv => (lhs; whnf)) ?_; refine gF rfl rfl rfl ?_; apply gw_d; exact w_load_box rfl rfl rfl (.there (.there (.there .here))) rfl; refine gF rfl rfl rfl ?_; apply gw_d; exact w_load_box rfl rfl rfl (.there (.there (.there .here))) rfl; refine gF rfl rfl rfl ?_; apply gw_d; exact w_load_box rfl rfl rfl (.there (.there (.there .here))) rfl; refine gM rfl rfl (by conv => (lhs; whnf)) ?_; apply gw_d; exact w_buildP [(0, .int .i64 (trW s.ops.length bs ps x)), (1, .int .i64 x.tick), (2, .int .i64 x.ply), (3, .int .i64 x.op), (4, .int .i64 (shareOf r le s.ops bs x))] (cells := #[.int .i64 (trW s.ops.length bs ps x), .int .i64 x.tick, .int .i64 x.ply, .int .i64 x.op, .int .i64 (shareOf r le s.ops bs x)]) (by kernel_rfl) rfl rfl rfl)
        refine gw_bslice1 (v := .agg #[.int .i64 (trW s.ops.length bs ps x), .int .i64 x.tick, .int .i64 x.ply, .int .i64 x.op, .int .i64 (shareOf r le s.ops bs x)]) rfl rfl rfl rfl rfl (fun bb => ?_)
        refine gw_append (news := encC (chgOf r le s.ops bs ps x)) rfl rfl rfl (.there (.there (.there (.there (.there .here))))) rfl (fun w' s _ => ?_) (fun u hu => ?_) (by unfold maxLen; omega) (by omega) (by decide) rfl (fun A3 c3 => ?_)
        · refine ⟨⟨bb, 0, none⟩, rfl, fun i u hu => ?_⟩
          rw [add_zero]
          refine (Box.cell s.head i).trans ?_
          change (#[Value.int .i64 (trW _ bs ps x), .int .i64 x.tick, .int .i64 x.ply, .int .i64 x.op, .int .i64 (shareOf r le _ bs x)] : Array Value)[i]? = some u
          rw [List.getElem?_toArray]
          exact hu
        · unfold encC at hu
          simp only [List.mem_cons, List.not_mem_nil, or_false] at hu
          rcases hu with rfl | rfl | rfl | rfl | rfl <;> rfl
        · focus (refine gM rfl rfl (by conv => (lhs; whnf)) ?_; refine gw_nil ?_; refine gx_block ?_; refine gx_next ?_; refine gc_region ?_; apply gw_d; exact det_ar rfl rfl rfl rfl rfl (by omega); refine gM rfl rfl (by conv => (lhs; whnf)) ?_; refine gw_nil ?_)
          refine gx_round (k + 1, A3, c3) hlt (by dsimp only; omega) (by repeat (first | exact Keeps.refl | refine Keeps.upd rfl ?_ | refine Keeps.sets rfl ?_ | refine Keeps.havoc rfl ?_)) ⟨rfl, by dsimp only; rw [hds, List.length_append]; rfl, trivial⟩ ?_
          dsimp only
          rw [hds, hos, hset, List.length_append, List.map_append, List.flatMap_append]
          have e5 : (([x].map (chgOf r le s.ops bs ps)).flatMap encC) = encC (chgOf r le s.ops bs ps x) := by simp
          rw [e5]
          exact .cons .here (.cons (.there (.there .here)) (.cons (.there .here) (.cons (.there (.there (.there .here))) (.cons (.there (.there (.there .here))) (.cons (.there (.there (.there .here))) (.cons (.there (.there (.there .here))) .nil))))))
    · have hok : okR s.ops.length bs ps x = false := decide_eq_false hE
      have hn : nextD (okR s.ops.length bs ps) D x = D := by unfold nextD; rw [if_neg (fun hc => by rw [hok] at hc; cases hc.1)]
      have ho : outR (okR s.ops.length bs ps) D x = 3 := by unfold outR; rw [if_pos hok]
      rw [hn] at hds
      rw [ho] at hos
      refine gc_if_dec rfl (fun _ => ?_) (fun h => absurd hE h)
      focus (refine gc_seq ?_; refine gc_region ?_; refine gM rfl rfl (by conv => (lhs; whnf)) ?_; refine gM rfl rfl (by conv => (lhs; whnf)) ?_; apply gw_d; exact w_index (m := k) rfl rfl rfl rfl rfl hlt)
      refine w_store_row (n := 1) (v := .int .i64 3) rfl rfl rfl rfl rfl (.there (.there (.there .here))) (by simp; omega) (row_set (Value.int .i64) (by omega) 3) ?_
      focus (refine gO ?_; refine gc_exit ?_; refine gx_then_exit ?_; refine gx_block_exit ?_; refine gx_next ?_; refine gc_region ?_; apply gw_d; exact det_ar rfl rfl rfl rfl rfl (by omega); refine gM rfl rfl (by conv => (lhs; whnf)) ?_; refine gw_nil ?_)
      refine gx_round (k + 1, A1, c1) hlt (by dsimp only; omega) (by repeat (first | exact Keeps.refl | refine Keeps.upd rfl ?_ | refine Keeps.sets rfl ?_ | refine Keeps.havoc rfl ?_)) ⟨rfl, by dsimp only; rw [hds]; rfl, trivial⟩ ?_
      dsimp only
      rw [hds, hos, hset]
      exact .cons (.there (.there (.there .here))) (.cons .here (.cons (.there (.there .here)) (.cons (.there (.there .here)) (.cons (.there (.there .here)) (.cons (.there (.there .here)) (.cons (.there (.there .here)) .nil))))))
  · obtain rfl : k = l.length := by omega
    have hfull : outRow (outsR (okR s.ops.length bs ps) [] l) l.length = outsR (okR s.ops.length bs ps) [] l := by
      have := outsR_len (ok := okR s.ops.length bs ps) l []
      rw [← this]
      exact outRow_full
    rw [List.take_length, hfull]
    have hcl : (chgL r le s.ops bs ps l).length = (doneL (okR s.ops.length bs ps) l).length := by unfold chgL; rw [List.length_map]
    focus (refine gc_exit ?_; refine gx_then_exit ?_; refine gx_then_exit ?_; refine gx_block_exit ?_; refine gx_next ?_; refine gc_seq ?_; refine gc_region ?_; refine gM rfl rfl (by conv => (lhs; whnf)) ?_; refine gM rfl rfl (by conv => (lhs; whnf)) ?_; refine gM rfl rfl (by conv => (lhs; whnf)) ?_; refine gM rfl rfl (by conv => (lhs; whnf)) ?_; refine gM rfl rfl (by conv => (lhs; whnf)) ?_; refine gO ?_; refine gc_ret ?_)
    exact gx_ret3 (u := .slice _ _ _) (v := .slice _ _ _) (x := .int _ _) rfl rfl rfl rfl (fun w' s' => ⟨((A1, c1), bo), by dsimp only; rw [hcl], by
      dsimp only
      rw [hcl]
      exact (St.sub (K := [Own A1 (doneL (okR s.ops.length bs ps) l).length c1 74 5 ((chgL r le s.ops bs ps l).flatMap encC), Box bo 3 ((outsR (okR s.ops.length bs ps) [] l).map (Value.int .i64)).toArray]) (.cons .here (.cons .here .nil)) s').sep⟩)
end
end Go.Proofs.YtljibjlkjelpbaaGreatDoor

/- Contracts: returns.Net, and the chapter's. -/
namespace Go.Proofs.YtljibjlkjelpbaaGreatDoor
open Go.RowKit
set_option maxRecDepth 100000
set_option maxHeartbeats 4000000

theorem inRange58_ok (w : World) (n : Int) : Ok Tryz.prog 42 [.int .i64 n].toArray w fun x _ => x = .bool (moneyB n) := by
  refine ok_enter Tryz.func42 rfl Tryz.ntmps42 rfl ?_
  focus (refine gc_seq ?_; refine gc_region ?_; refine gM rfl rfl (by conv => (lhs; whnf)) ?_; refine gN ?_; refine gM rfl rfl (by conv => (lhs; whnf)) ?_; refine gC rfl rfl rfl rfl rfl ?_; refine gM rfl rfl (by conv => (lhs; whnf)) ?_; refine gw_guard_dec rfl rfl (fun _ => ?_) (fun _ => ?_); refine gM rfl rfl (by conv => (lhs; whnf)) ?_; refine gC rfl rfl rfl rfl rfl ?_; apply gw_d; exact det_pick_t (v := .bool _) rfl rfl rfl rfl; refine gM rfl rfl (by conv => (lhs; whnf)) ?_; refine gO ?_; refine gc_ret ?_; rotate_left; refine gU rfl ?_; refine gU rfl ?_; apply gw_d; exact det_pick_f (v := .bool _) rfl rfl rfl rfl; refine gM rfl rfl (by conv => (lhs; whnf)) ?_; refine gO ?_; refine gc_ret ?_; rotate_left)
  all_goals (refine gx_ret1 (v := .bool _) rfl rfl (fun _ _ => ?_); unfold moneyB; congr 1; simp; try omega)
theorem satF_take {cs : List Chg} {i : Nat} (hi : i < cs.length) (k : Int) : satF (cs.take (i + 1)) k = if cs[i].who = k then satI (satF (cs.take i) k) cs[i].amt else satF (cs.take i) k := by
  rw [List.take_succ_eq_append_getElem hi, satF_snoc]
theorem all_no {cs : List Chg} {i : Nat} (hi : i < cs.length) (h : moneyB cs[i].amt = false) : cs.all chgE = false := by
  cases ha : cs.all chgE with
  | false => rfl
  | true =>
    have := List.all_eq_true.1 ha cs[i] (List.getElem_mem hi)
    unfold chgE at this
    rw [h] at this
    cases this
theorem all_snoc {cs : List Chg} {i : Nat} (hi : i < cs.length) (h : (cs.take i).all chgE = true) (hm : moneyB cs[i].amt = true) : (cs.take (i + 1)).all chgE = true := by
  rw [List.take_succ_eq_append_getElem hi, List.all_append, h]
  unfold chgE
  simp [hm]
theorem seen_has (ps : List Pay) (i : Nat) (k : Int) : ((ps.take i).any fun q => decide (q.who = k)) = hasB ((ps.take i).map (·.who)) k := by
  unfold hasB
  rw [List.any_map]
  rfl
def netRes (cs : List Chg) (ps : List Pay) (b : Nat) : Value := if netE cs ps = 0 then .tuple #[.slice (some ⟨b, 0, none⟩) ps.length ps.length, .int .i64 0] else .tuple #[.slice none 0 0, .int .i64 (netE cs ps)]
def netOwn (cs : List Chg) (ps : List Pay) (b : Nat) : List Res := if netE cs ps = 0 then [Box b 3 ((netL cs ps).map (Value.int .i64)).toArray] else []

theorem Net_all (w : World) (vp vc : Value) (ps : List Pay) (cs : List Chg) (hp : Sl rPay w w.heap.size vp ps) (hc : Sl rChg w w.heap.size vc cs) (h60 : ps.length ≤ 1000) : OkM Tryz.prog 23 [vp, vc].toArray w (netRes cs ps) (netOwn cs ps) := by
  obtain ⟨Ap, cp, rfl, hpc, hpm, hpcell⟩ := hp.pay
  obtain ⟨Ac, cc, rfl, hcc, hcm, hccell⟩ := hc.chg
  have hR : ∀ (L : List Res) (w' : World) (n : Int), St w L w' → Ok Tryz.prog 42 [.int .i64 n].toArray w' fun x _ => x = .bool (moneyB n) := fun L w' n _ => inRange58_ok w' n
  unfold OkM
  refine ok_enter Tryz.func23 rfl Tryz.ntmps23 rfl ?_
  focus (refine gc_seq ?_; refine gc_region ?_; refine gM rfl rfl (by conv => (lhs; whnf)) ?_; refine gM rfl rfl (by conv => (lhs; whnf)) ?_; refine gN ?_)
  refine gw_makeMap kInt rfl (fun bm => ?_)
  focus (refine gM rfl rfl (by conv => (lhs; whnf)) ?_; refine gO ?_; refine gc_seq ?_; refine gc_seq ?_; refine gc_region ?_; refine gM rfl rfl (by conv => (lhs; whnf)) ?_; refine gL rfl rfl rfl ?_; refine gM rfl rfl (by conv => (lhs; whnf)) ?_; refine gO ?_; refine gc_block ?_)
  refine gc_loop1 (σ := Nat × List (Int × Value)) [17, 18, 19, 8, 20, 21, 22, 23, 4, 5, 24, 25, 26, 27, 28, 29, 30, 31, 32, 33, 34, 35, 36, 16] (fun s => [(16, .int .i64 s.1)]) (fun s => MapR bm kInt s.2) (fun s => s.1 ≤ cs.length ∧ (cs.take s.1).all chgE = true ∧ ∀ k, (aget s.2 k).getD (.int .i64 0) = .int .i64 (satF (cs.take s.1) k)) (fun s => cs.length - s.1) (0, []) ⟨Nat.zero_le _, rfl, fun k => rfl⟩ ⟨rfl, trivial⟩ rfl ?_
  rintro ⟨i, m⟩ base ⟨hi, hall, hm⟩
  dsimp only at hi hall hm ⊢
  focus (refine gc_seq ?_; refine gc_region ?_; refine gC rfl rfl rfl rfl rfl ?_; refine gO ?_; refine gc_seq ?_)
  refine gc_if_dec rfl (fun h => ?_) (fun h => ?_)
  · have hil : i < cs.length := by omega
    obtain ⟨ad, rfl, hbk, hce, _⟩ := hccell i hil
    have c1 := fun L w' => hR L w' cs[i].amt
    have c2 := fun L w' => hR L w' (satF (cs.take i) cs[i].who)
    have hst := satF_take hil
    have hsr := sat_range hall cs[i].who
    by_cases hm1 : moneyB cs[i].amt = true
    · rw [hm1] at c1
      have hm1' := money_iff.1 hm1
      have hall' := all_snoc hil hall hm1
      by_cases hm2 : moneyB (satF (cs.take i) cs[i].who) = true
      · rw [hm2] at c2
        have hm2' := money_iff.1 hm2
        focus (refine gc_skip ?_; refine gx_next ?_; refine gc_seq ?_; refine gc_block ?_; refine gc_seq ?_; refine gc_region ?_; apply gw_d; exact w_index rfl rfl rfl rfl (by with_reducible exact rfl) (by omega); apply gw_d; exact w_load_elem rfl rfl rfl (by assumption) (by assumption) (by rfl); refine w_alloc rfl (fun _ => ?_); refine w_store_all rfl rfl rfl rfl rfl .here rfl ?_; refine gO ?_; refine gc_seq ?_; refine gc_seq ?_; refine gc_region ?_; refine gF rfl rfl rfl ?_; apply gw_d; exact w_load_box rfl rfl rfl .here rfl; apply gw_d; exact w_call rfl rfl (c1 _) rfl; apply gw_d; exact det_not_ rfl rfl rfl; refine gO ?_)
        refine gc_if_false rfl ?_
        focus (refine gc_skip ?_; refine gx_next ?_; refine gc_seq ?_; refine gc_region ?_; refine gM rfl rfl (by conv => (lhs; whnf)) ?_; refine gF rfl rfl rfl ?_; apply gw_d; exact w_load_box rfl rfl rfl .here rfl; apply gw_d; exact det_eq (c' := .int .i64 (satF (cs.take i) cs[i].who)) (w_lookup (k := cs[i].who) intLawC rfl rfl rfl rfl (.there .here)) (hm _); apply gw_d; exact w_call rfl rfl (c2 _) rfl; refine gO ?_)
        refine gc_if_true rfl ?_
        focus (refine gc_region ?_; refine gM rfl rfl (by conv => (lhs; whnf)) ?_; refine gF rfl rfl rfl ?_; apply gw_d; exact w_load_box rfl rfl rfl .here rfl; apply gw_d; exact det_eq (c' := .int .i64 (satF (cs.take i) cs[i].who)) (w_lookup (k := cs[i].who) intLawC rfl rfl rfl rfl (.there .here)) (hm _); refine gF rfl rfl rfl ?_; apply gw_d; exact w_load_box rfl rfl rfl .here rfl; apply gw_d; exact det_ar rfl rfl rfl rfl rfl (by omega))
        refine gw_mapSet (k := cs[i].who) (v := .int .i64 (satF (cs.take i) cs[i].who + cs[i].amt)) intLawC rfl rfl rfl rfl (.there .here) ?_
        focus (refine gw_nil ?_; refine gx_block ?_; refine gx_next ?_; refine gc_region ?_; apply gw_d; exact det_ar rfl rfl rfl rfl rfl (by omega); refine gM rfl rfl (by conv => (lhs; whnf)) ?_; refine gw_nil ?_)
        refine gx_round (i + 1, aset m cs[i].who (.int .i64 (satF (cs.take i) cs[i].who + cs[i].amt))) ⟨by dsimp only; omega, hall', fun k => ?_⟩ (by dsimp only; omega) (by repeat (first | exact Keeps.refl | refine Keeps.upd rfl ?_ | refine Keeps.sets rfl ?_ | refine Keeps.havoc rfl ?_)) ⟨rfl, trivial⟩ (.cons .here Sub.tail)
        dsimp only
        rw [aget_aset, hst k]
        by_cases hk : cs[i].who = k
        · subst hk
          rw [if_pos rfl, if_pos rfl]
          unfold satI
          rw [if_pos hm2]
          rfl
        · rw [if_neg hk, if_neg hk]
          exact hm k
      · have hm2f : moneyB (satF (cs.take i) cs[i].who) = false := by simpa using hm2
        rw [hm2f] at c2
        focus (refine gc_skip ?_; refine gx_next ?_; refine gc_seq ?_; refine gc_block ?_; refine gc_seq ?_; refine gc_region ?_; apply gw_d; exact w_index rfl rfl rfl rfl (by with_reducible exact rfl) (by omega); apply gw_d; exact w_load_elem rfl rfl rfl (by assumption) (by assumption) (by rfl); refine w_alloc rfl (fun _ => ?_); refine w_store_all rfl rfl rfl rfl rfl .here rfl ?_; refine gO ?_; refine gc_seq ?_; refine gc_seq ?_; refine gc_region ?_; refine gF rfl rfl rfl ?_; apply gw_d; exact w_load_box rfl rfl rfl .here rfl; apply gw_d; exact w_call rfl rfl (c1 _) rfl; apply gw_d; exact det_not_ rfl rfl rfl; refine gO ?_)
        refine gc_if_false rfl ?_
        focus (refine gc_skip ?_; refine gx_next ?_; refine gc_seq ?_; refine gc_region ?_; refine gM rfl rfl (by conv => (lhs; whnf)) ?_; refine gF rfl rfl rfl ?_; apply gw_d; exact w_load_box rfl rfl rfl .here rfl; apply gw_d; exact det_eq (c' := .int .i64 (satF (cs.take i) cs[i].who)) (w_lookup (k := cs[i].who) intLawC rfl rfl rfl rfl (.there .here)) (hm _); apply gw_d; exact w_call rfl rfl (c2 _) rfl; refine gO ?_)
        refine gc_if_false rfl ?_
        focus (refine gc_skip ?_; refine gx_block ?_; refine gx_next ?_; refine gc_region ?_; apply gw_d; exact det_ar rfl rfl rfl rfl rfl (by omega); refine gM rfl rfl (by conv => (lhs; whnf)) ?_; refine gw_nil ?_)
        refine gx_round (i + 1, m) ⟨by dsimp only; omega, hall', fun k => ?_⟩ (by dsimp only; omega) (by repeat (first | exact Keeps.refl | refine Keeps.upd rfl ?_ | refine Keeps.sets rfl ?_ | refine Keeps.havoc rfl ?_)) ⟨rfl, trivial⟩ Sub.tail
        dsimp only
        rw [hst k, hm k]
        by_cases hk : cs[i].who = k
        · subst hk
          rw [if_pos rfl]
          unfold satI
          rw [if_neg hm2]
        · rw [if_neg hk]
    · have hm1f : moneyB cs[i].amt = false := by simpa using hm1
      rw [hm1f] at c1
      have hE : netE cs ps = 3 := by unfold netE; rw [if_pos (all_no hil hm1f)]
      focus (refine gc_skip ?_; refine gx_next ?_; refine gc_seq ?_; refine gc_block ?_; refine gc_seq ?_; refine gc_region ?_; apply gw_d; exact w_index rfl rfl rfl rfl (by with_reducible exact rfl) (by omega); apply gw_d; exact w_load_elem rfl rfl rfl (by assumption) (by assumption) (by rfl); refine w_alloc rfl (fun _ => ?_); refine w_store_all rfl rfl rfl rfl rfl .here rfl ?_; refine gO ?_; refine gc_seq ?_; refine gc_seq ?_; refine gc_region ?_; refine gF rfl rfl rfl ?_; apply gw_d; exact w_load_box rfl rfl rfl .here rfl; apply gw_d; exact w_call rfl rfl (c1 _) rfl; apply gw_d; exact det_not_ rfl rfl rfl; refine gO ?_)
      refine gc_if_true rfl ?_
      focus (refine gc_seq ?_; refine gc_region ?_; refine gM rfl rfl (by conv => (lhs; whnf)) ?_; refine gM rfl rfl (by conv => (lhs; whnf)) ?_; refine gO ?_; refine gc_ret ?_; refine gx_then_ret ?_; refine gx_block_ret ?_; refine gx_then_ret ?_; refine gx_then_ret ?_; refine gx_block_ret ?_; refine gx_then_ret ?_)
      exact gx_ret2 (u := .slice _ _ _) (v := .int _ _) rfl rfl rfl (fun w' s' => ⟨0, by unfold netRes; rw [if_neg (by rw [hE]; decide), hE], by unfold netOwn; rw [if_neg (by rw [hE]; decide)]; trivial⟩)
  obtain rfl : i = cs.length := by omega
  rw [List.take_length] at hall hm
  have hE0 : netE cs ps = firstE (netPE cs ps) ps.length := by unfold netE; rw [if_neg (by rw [hall]; decide)]
  focus (refine gc_exit ?_; refine gx_then_exit ?_; refine gx_then_exit ?_; refine gx_block_exit ?_; refine gx_next ?_; refine gc_seq ?_; refine gc_region ?_)
  refine gw_makeMap kInt rfl (fun bs2 => ?_)
  focus (refine gM rfl rfl (by conv => (lhs; whnf)) ?_; refine gN ?_; refine gM rfl rfl (by conv => (lhs; whnf)) ?_; refine gL rfl rfl rfl ?_)
  refine gw_make1 (n := ps.length) rfl rfl rfl rfl rfl (by omega) (by omega) rfl (fun bn => ?_)
  rw [show Array.replicate ps.length ((Value.int .i64 0).cells.getD 0 undef) = ((outRow ((ps.take 0).map (netV cs)) ps.length).map (Value.int .i64)).toArray from by rw [List.take_zero, List.map_nil, outRow_nil]; exact row_make (Value.int .i64) ps.length 0]
  focus (refine gM rfl rfl (by conv => (lhs; whnf)) ?_; refine gO ?_; refine gc_seq ?_; refine gc_seq ?_; refine gc_region ?_; refine gM rfl rfl (by conv => (lhs; whnf)) ?_; refine gL rfl rfl rfl ?_; refine gM rfl rfl (by conv => (lhs; whnf)) ?_; refine gO ?_; refine gc_block ?_)
  refine gc_loop (σ := Nat) [44, 45, 46, 47, 12, 11, 48, 49, 50, 51, 4, 5, 52, 53, 54, 55, 56, 57, 58, 59, 60, 61, 62, 63, 64, 65, 66, 67, 68, 69, 70, 71, 72, 73, 74, 75, 76, 77, 78, 79, 80, 81, 82, 83, 84, 85, 86, 87, 88, 89, 90, 91, 92, 93, 94, 95, 96, 43] (fun k => [(43, .int .i64 k)]) (fun k => [Box bn 3 ((outRow ((ps.take k).map (netV cs)) ps.length).map (Value.int .i64)).toArray, MapR bs2 kInt (setM ((ps.take k).map (·.who))), MapR bm kInt m]) (fun k => k ≤ ps.length ∧ firstE (netPE cs ps) k = 0) (fun k => ps.length - k) 0 ⟨Nat.zero_le _, rfl⟩ ⟨rfl, trivial⟩ (.cons .here (.cons .here (.cons .here .nil))) ?_
  rintro k base2 ⟨hk, hI⟩
  focus (refine gc_seq ?_; refine gc_region ?_; refine gC rfl rfl rfl rfl rfl ?_; refine gO ?_; refine gc_seq ?_)
  refine gc_if_dec rfl (fun h => ?_) (fun h => ?_)
  · have hkl : k < ps.length := by omega
    obtain ⟨ad, rfl, hbk, hce, hpi⟩ := hpcell k hkl
    have hts : ps.take (k + 1) = ps.take k ++ [ps[k]] := List.take_succ_eq_append_getElem hkl
    have hpe : netPE cs ps k = if hasB ((ps.take k).map (·.who)) ps[k].who = true then 7 else if moneyB ps[k].work = false ∨ moneyB ps[k].top = false ∨ moneyB (ps[k].work + ps[k].top) = false ∨ moneyB (satF cs ps[k].who) = false then 3 else 0 := by
      unfold netPE
      rw [List.getElem?_eq_getElem hkl]
      dsimp only
      rw [seen_has]
    have hstop : ∀ x : Int, netPE cs ps k = x → ¬ x = 0 → netE cs ps = x := fun x hx hx0 => by
      rw [hE0, firstE_stop hI (by rw [hx]; exact hx0) hkl, hx]
    have hbad : ∀ x : Int, netPE cs ps k = x → ¬ x = 0 → netRes cs ps 0 = .tuple #[.slice none 0 0, .int .i64 x] ∧ netOwn cs ps 0 = [] := fun x hx hx0 => by
      have := hstop x hx hx0
      unfold netRes netOwn
      rw [if_neg (by rw [this]; exact hx0), if_neg (by rw [this]; exact hx0), this]
      exact ⟨rfl, rfl⟩
    have hol : ((ps.take k).map (netV cs)).length = k := by rw [List.length_map, List.length_take, Nat.min_eq_left hk]
    have hset := outRow_set (l := (ps.take k).map (netV cs)) (n := ps.length) (by omega) (netV cs ps[k])
    have hrl := outRow_len (l := (ps.take k).map (netV cs)) (n := ps.length) (by omega)
    rw [hol] at hset
    have hset2 : (outRow ((ps.take k).map (netV cs)) ps.length).set k (netV cs ps[k]) = outRow ((ps.take (k + 1)).map (netV cs)) ps.length := by rw [hset, hts, List.map_append]; rfl
    have hmap : setM ((ps.take (k + 1)).map (·.who)) = aset (setM ((ps.take k).map (·.who))) ps[k].who (.bool true) := by rw [hts, List.map_append]; exact setM_snoc _ _
    have hsn := firstE_snoc (f := netPE cs ps) (k := k) hI
    have hsr := sat_range hall ps[k].who
    have hmw := hm ps[k].who
    have hsh := setM_has ((ps.take k).map (·.who)) ps[k].who
    have c1 := fun L w' => hR L w' ps[k].work
    have c2 := fun L w' => hR L w' ps[k].top
    have c3 := fun L w' => hR L w' (ps[k].work + ps[k].top)
    have c4 := fun L w' => hR L w' (satF cs ps[k].who)
    have hnv : netV cs ps[k] = max (ps[k].work - satF cs ps[k].who) 0 + ps[k].top := rfl
    generalize satF cs ps[k].who = sa at hpe hsr hmw c4 hnv
    generalize outRow ((ps.take k).map (netV cs)) ps.length = row at hset2 hrl ⊢
    generalize hD : setM ((ps.take k).map (·.who)) = D at hsh hmap ⊢
    generalize (ps.take k).map (·.who) = sl at hsh hpe
    generalize ps[k] = p at *
    by_cases h7 : hasB sl p.who = true
    · rw [if_pos h7] at hpe
      rw [h7] at hsh
      obtain ⟨r1, r2⟩ := hbad 7 hpe (by decide)
      focus (refine gc_skip ?_; refine gx_next ?_; refine gc_seq ?_; refine gc_block ?_; refine gc_seq ?_; refine gc_region ?_; refine gM rfl rfl (by conv => (lhs; whnf)) ?_; apply gw_d; exact w_index rfl rfl rfl rfl (by with_reducible exact rfl) (by omega); apply gw_d; exact w_load_elem rfl rfl rfl (by assumption) (by assumption) (by rfl); refine w_alloc rfl (fun _ => ?_); refine gM rfl rfl (by conv => (lhs; whnf)) ?_; refine w_store_all rfl rfl rfl rfl rfl .here rfl ?_; refine gO ?_; refine gc_seq ?_; refine gc_seq ?_; refine gc_region ?_; refine gM rfl rfl (by conv => (lhs; whnf)) ?_; refine gF rfl rfl rfl ?_; apply gw_d; exact w_load_box rfl rfl rfl .here rfl; apply gw_d; exact det_eq (c' := .bool true) (w_lookup (k := p.who) intLawC rfl rfl rfl rfl (.there (.there .here))) hsh; refine gO ?_)
      refine gc_if_true rfl ?_
      focus (refine gc_seq ?_; refine gc_region ?_; refine gM rfl rfl (by conv => (lhs; whnf)) ?_; refine gM rfl rfl (by conv => (lhs; whnf)) ?_; refine gO ?_; refine gc_ret ?_; refine gx_then_ret ?_; refine gx_block_ret ?_; refine gx_then_ret ?_; refine gx_then_ret ?_; refine gx_block_ret ?_; refine gx_then_ret ?_)
      exact gx_ret2 (u := .slice _ _ _) (v := .int _ _) rfl rfl rfl (fun w' s' => ⟨0, r1.symm, by rw [r2]; trivial⟩)
    have h7f : hasB sl p.who = false := by simpa using h7
    rw [if_neg h7] at hpe
    rw [h7f] at hsh
    focus (refine gc_skip ?_; refine gx_next ?_; refine gc_seq ?_; refine gc_block ?_; refine gc_seq ?_; refine gc_region ?_; refine gM rfl rfl (by conv => (lhs; whnf)) ?_; apply gw_d; exact w_index rfl rfl rfl rfl (by with_reducible exact rfl) (by omega); apply gw_d; exact w_load_elem rfl rfl rfl (by assumption) (by assumption) (by rfl); refine w_alloc rfl (fun _ => ?_); refine gM rfl rfl (by conv => (lhs; whnf)) ?_; refine w_store_all rfl rfl rfl rfl rfl .here rfl ?_; refine gO ?_; refine gc_seq ?_; refine gc_seq ?_; refine gc_region ?_; refine gM rfl rfl (by conv => (lhs; whnf)) ?_; refine gF rfl rfl rfl ?_; apply gw_d; exact w_load_box rfl rfl rfl .here rfl; apply gw_d; exact det_eq (c' := .bool false) (w_lookup (k := p.who) intLawC rfl rfl rfl rfl (.there (.there .here))) hsh; refine gO ?_)
    refine gc_if_false rfl ?_
    focus (refine gc_skip ?_; refine gx_next ?_; refine gc_seq ?_; refine gc_region ?_; refine gM rfl rfl (by conv => (lhs; whnf)) ?_; refine gF rfl rfl rfl ?_; apply gw_d; exact w_load_box rfl rfl rfl .here rfl)
    refine gw_mapSet (k := p.who) (v := .bool true) intLawC rfl rfl rfl rfl (.there (.there .here)) ?_
    rw [← hmap]
    by_cases h3 : moneyB p.work = false ∨ moneyB p.top = false ∨ moneyB (p.work + p.top) = false ∨ moneyB sa = false
    · rw [if_pos h3] at hpe
      obtain ⟨r1, r2⟩ := hbad 3 hpe (by decide)
      cases m1 : moneyB p.work with
      | false =>
        rw [m1] at c1
        focus (refine gO ?_; refine gc_seq ?_; refine gc_seq ?_; refine gc_region ?_; refine gF rfl rfl rfl ?_; apply gw_d; exact w_load_box rfl rfl rfl (.there .here) rfl; apply gw_d; exact w_call rfl rfl (c1 _) rfl; apply gw_d; exact det_not_ rfl rfl rfl; refine gM rfl rfl (by conv => (lhs; whnf)) ?_; refine gU rfl ?_; refine gU rfl ?_; refine gU rfl ?_; refine gU rfl ?_; apply gw_d; exact det_pick_t (v := .bool _) rfl rfl rfl rfl; refine gM rfl rfl (by conv => (lhs; whnf)) ?_; refine gU rfl ?_; refine gU rfl ?_; refine gU rfl ?_; refine gU rfl ?_; refine gU rfl ?_; refine gU rfl ?_; refine gU rfl ?_; apply gw_d; exact det_pick_t (v := .bool _) rfl rfl rfl rfl; refine gM rfl rfl (by conv => (lhs; whnf)) ?_; refine gU rfl ?_; refine gU rfl ?_; refine gU rfl ?_; refine gU rfl ?_; refine gU rfl ?_; refine gU rfl ?_; apply gw_d; exact det_pick_t (v := .bool _) rfl rfl rfl rfl; refine gO ?_)
        refine gc_if_true rfl ?_
        focus (refine gc_seq ?_; refine gc_region ?_; refine gM rfl rfl (by conv => (lhs; whnf)) ?_; refine gM rfl rfl (by conv => (lhs; whnf)) ?_; refine gO ?_; refine gc_ret ?_; refine gx_then_ret ?_; refine gx_block_ret ?_; refine gx_then_ret ?_; refine gx_then_ret ?_; refine gx_block_ret ?_; refine gx_then_ret ?_)
        exact gx_ret2 (u := .slice _ _ _) (v := .int _ _) rfl rfl rfl (fun w' s' => ⟨0, r1.symm, by rw [r2]; trivial⟩)
      | true =>
        rw [m1] at c1
        have m1' := money_iff.1 m1
        cases m2 : moneyB p.top with
        | false =>
          rw [m2] at c2
          focus (refine gO ?_; refine gc_seq ?_; refine gc_seq ?_; refine gc_region ?_; refine gF rfl rfl rfl ?_; apply gw_d; exact w_load_box rfl rfl rfl (.there .here) rfl; apply gw_d; exact w_call rfl rfl (c1 _) rfl; apply gw_d; exact det_not_ rfl rfl rfl; refine gM rfl rfl (by conv => (lhs; whnf)) ?_; refine gF rfl rfl rfl ?_; apply gw_d; exact w_load_box rfl rfl rfl (.there .here) rfl; apply gw_d; exact w_call rfl rfl (c2 _) rfl; apply gw_d; exact det_not_ rfl rfl rfl; apply gw_d; exact det_pick_f (v := .bool _) rfl rfl rfl rfl; refine gM rfl rfl (by conv => (lhs; whnf)) ?_; refine gU rfl ?_; refine gU rfl ?_; refine gU rfl ?_; refine gU rfl ?_; refine gU rfl ?_; refine gU rfl ?_; refine gU rfl ?_; apply gw_d; exact det_pick_t (v := .bool _) rfl rfl rfl rfl; refine gM rfl rfl (by conv => (lhs; whnf)) ?_; refine gU rfl ?_; refine gU rfl ?_; refine gU rfl ?_; refine gU rfl ?_; refine gU rfl ?_; refine gU rfl ?_; apply gw_d; exact det_pick_t (v := .bool _) rfl rfl rfl rfl; refine gO ?_)
          refine gc_if_true rfl ?_
          focus (refine gc_seq ?_; refine gc_region ?_; refine gM rfl rfl (by conv => (lhs; whnf)) ?_; refine gM rfl rfl (by conv => (lhs; whnf)) ?_; refine gO ?_; refine gc_ret ?_; refine gx_then_ret ?_; refine gx_block_ret ?_; refine gx_then_ret ?_; refine gx_then_ret ?_; refine gx_block_ret ?_; refine gx_then_ret ?_)
          exact gx_ret2 (u := .slice _ _ _) (v := .int _ _) rfl rfl rfl (fun w' s' => ⟨0, r1.symm, by rw [r2]; trivial⟩)
        | true =>
          rw [m2] at c2
          have m2' := money_iff.1 m2
          cases m3 : moneyB (p.work + p.top) with
          | false =>
            rw [m3] at c3
            focus (refine gO ?_; refine gc_seq ?_; refine gc_seq ?_; refine gc_region ?_; refine gF rfl rfl rfl ?_; apply gw_d; exact w_load_box rfl rfl rfl (.there .here) rfl; apply gw_d; exact w_call rfl rfl (c1 _) rfl; apply gw_d; exact det_not_ rfl rfl rfl; refine gM rfl rfl (by conv => (lhs; whnf)) ?_; refine gF rfl rfl rfl ?_; apply gw_d; exact w_load_box rfl rfl rfl (.there .here) rfl; apply gw_d; exact w_call rfl rfl (c2 _) rfl; apply gw_d; exact det_not_ rfl rfl rfl; apply gw_d; exact det_pick_f (v := .bool _) rfl rfl rfl rfl; refine gM rfl rfl (by conv => (lhs; whnf)) ?_; refine gF rfl rfl rfl ?_; apply gw_d; exact w_load_box rfl rfl rfl (.there .here) rfl; refine gF rfl rfl rfl ?_; apply gw_d; exact w_load_box rfl rfl rfl (.there .here) rfl; apply gw_d; exact det_ar rfl rfl rfl rfl rfl (by omega); apply gw_d; exact w_call rfl rfl (c3 _) rfl; apply gw_d; exact det_not_ rfl rfl rfl; apply gw_d; exact det_pick_f (v := .bool _) rfl rfl rfl rfl; refine gM rfl rfl (by conv => (lhs; whnf)) ?_; refine gU rfl ?_; refine gU rfl ?_; refine gU rfl ?_; refine gU rfl ?_; refine gU rfl ?_; refine gU rfl ?_; apply gw_d; exact det_pick_t (v := .bool _) rfl rfl rfl rfl; refine gO ?_)
            refine gc_if_true rfl ?_
            focus (refine gc_seq ?_; refine gc_region ?_; refine gM rfl rfl (by conv => (lhs; whnf)) ?_; refine gM rfl rfl (by conv => (lhs; whnf)) ?_; refine gO ?_; refine gc_ret ?_; refine gx_then_ret ?_; refine gx_block_ret ?_; refine gx_then_ret ?_; refine gx_then_ret ?_; refine gx_block_ret ?_; refine gx_then_ret ?_)
            exact gx_ret2 (u := .slice _ _ _) (v := .int _ _) rfl rfl rfl (fun w' s' => ⟨0, r1.symm, by rw [r2]; trivial⟩)
          | true =>
            rw [m3] at c3
            have m4 : moneyB sa = false := by
              rcases h3 with h3 | h3 | h3 | h3
              · rw [m1] at h3; cases h3
              · rw [m2] at h3; cases h3
              · rw [m3] at h3; cases h3
              · exact h3
            rw [m4] at c4
            focus (refine gO ?_; refine gc_seq ?_; refine gc_seq ?_; refine gc_region ?_; refine gF rfl rfl rfl ?_; apply gw_d; exact w_load_box rfl rfl rfl (.there .here) rfl; apply gw_d; exact w_call rfl rfl (c1 _) rfl; apply gw_d; exact det_not_ rfl rfl rfl; refine gM rfl rfl (by conv => (lhs; whnf)) ?_; refine gF rfl rfl rfl ?_; apply gw_d; exact w_load_box rfl rfl rfl (.there .here) rfl; apply gw_d; exact w_call rfl rfl (c2 _) rfl; apply gw_d; exact det_not_ rfl rfl rfl; apply gw_d; exact det_pick_f (v := .bool _) rfl rfl rfl rfl; refine gM rfl rfl (by conv => (lhs; whnf)) ?_; refine gF rfl rfl rfl ?_; apply gw_d; exact w_load_box rfl rfl rfl (.there .here) rfl; refine gF rfl rfl rfl ?_; apply gw_d; exact w_load_box rfl rfl rfl (.there .here) rfl; apply gw_d; exact det_ar rfl rfl rfl rfl rfl (by omega); apply gw_d; exact w_call rfl rfl (c3 _) rfl; apply gw_d; exact det_not_ rfl rfl rfl; apply gw_d; exact det_pick_f (v := .bool _) rfl rfl rfl rfl; refine gM rfl rfl (by conv => (lhs; whnf)) ?_; refine gM rfl rfl (by conv => (lhs; whnf)) ?_; refine gF rfl rfl rfl ?_; apply gw_d; exact w_load_box rfl rfl rfl (.there .here) rfl; apply gw_d; exact det_eq (c' := .int .i64 sa) (w_lookup (k := p.who) intLawC rfl rfl rfl rfl (.there (.there (.there .here)))) hmw; apply gw_d; exact w_call rfl rfl (c4 _) rfl; apply gw_d; exact det_not_ rfl rfl rfl; apply gw_d; exact det_pick_f (v := .bool _) rfl rfl rfl rfl; refine gO ?_)
            refine gc_if_true rfl ?_
            focus (refine gc_seq ?_; refine gc_region ?_; refine gM rfl rfl (by conv => (lhs; whnf)) ?_; refine gM rfl rfl (by conv => (lhs; whnf)) ?_; refine gO ?_; refine gc_ret ?_; refine gx_then_ret ?_; refine gx_block_ret ?_; refine gx_then_ret ?_; refine gx_then_ret ?_; refine gx_block_ret ?_; refine gx_then_ret ?_)
            exact gx_ret2 (u := .slice _ _ _) (v := .int _ _) rfl rfl rfl (fun w' s' => ⟨0, r1.symm, by rw [r2]; trivial⟩)
    · rw [if_neg h3] at hpe
      have m1 : moneyB p.work = true := by
        cases hx : moneyB p.work with
        | true => rfl
        | false => exact absurd (.inl hx) h3
      have m2 : moneyB p.top = true := by
        cases hx : moneyB p.top with
        | true => rfl
        | false => exact absurd (.inr (.inl hx)) h3
      have m3 : moneyB (p.work + p.top) = true := by
        cases hx : moneyB (p.work + p.top) with
        | true => rfl
        | false => exact absurd (.inr (.inr (.inl hx))) h3
      have m4 : moneyB sa = true := by
        cases hx : moneyB sa with
        | true => rfl
        | false => exact absurd (.inr (.inr (.inr hx))) h3
      have m1' := money_iff.1 m1
      have m2' := money_iff.1 m2
      rw [m1] at c1
      rw [m2] at c2
      rw [m3] at c3
      rw [m4] at c4
      focus (refine gO ?_; refine gc_seq ?_; refine gc_seq ?_; refine gc_region ?_; refine gF rfl rfl rfl ?_; apply gw_d; exact w_load_box rfl rfl rfl (.there .here) rfl; apply gw_d; exact w_call rfl rfl (c1 _) rfl; apply gw_d; exact det_not_ rfl rfl rfl; refine gM rfl rfl (by conv => (lhs; whnf)) ?_; refine gF rfl rfl rfl ?_; apply gw_d; exact w_load_box rfl rfl rfl (.there .here) rfl; apply gw_d; exact w_call rfl rfl (c2 _) rfl; apply gw_d; exact det_not_ rfl rfl rfl; apply gw_d; exact det_pick_f (v := .bool _) rfl rfl rfl rfl; refine gM rfl rfl (by conv => (lhs; whnf)) ?_; refine gF rfl rfl rfl ?_; apply gw_d; exact w_load_box rfl rfl rfl (.there .here) rfl; refine gF rfl rfl rfl ?_; apply gw_d; exact w_load_box rfl rfl rfl (.there .here) rfl; apply gw_d; exact det_ar rfl rfl rfl rfl rfl (by omega); apply gw_d; exact w_call rfl rfl (c3 _) rfl; apply gw_d; exact det_not_ rfl rfl rfl; apply gw_d; exact det_pick_f (v := .bool _) rfl rfl rfl rfl; refine gM rfl rfl (by conv => (lhs; whnf)) ?_; refine gM rfl rfl (by conv => (lhs; whnf)) ?_; refine gF rfl rfl rfl ?_; apply gw_d; exact w_load_box rfl rfl rfl (.there .here) rfl; apply gw_d; exact det_eq (c' := .int .i64 sa) (w_lookup (k := p.who) intLawC rfl rfl rfl rfl (.there (.there (.there .here)))) hmw; apply gw_d; exact w_call rfl rfl (c4 _) rfl; apply gw_d; exact det_not_ rfl rfl rfl; apply gw_d; exact det_pick_f (v := .bool _) rfl rfl rfl rfl; refine gO ?_)
      refine gc_if_false rfl ?_
      focus (refine gc_skip ?_; refine gx_next ?_; refine gc_region ?_; refine gM rfl rfl (by conv => (lhs; whnf)) ?_; refine gM rfl rfl (by conv => (lhs; whnf)) ?_; refine gF rfl rfl rfl ?_; apply gw_d; exact w_load_box rfl rfl rfl (.there .here) rfl; refine gM rfl rfl (by conv => (lhs; whnf)) ?_; refine gF rfl rfl rfl ?_; apply gw_d; exact w_load_box rfl rfl rfl (.there .here) rfl; apply gw_d; exact det_eq (c' := .int .i64 sa) (w_lookup (k := p.who) intLawC rfl rfl rfl rfl (.there (.there (.there .here)))) hmw; apply gw_d; exact det_ar rfl rfl rfl rfl rfl (by omega); apply gw_d; exact w_max rfl rfl rfl rfl; refine gF rfl rfl rfl ?_; apply gw_d; exact w_load_box rfl rfl rfl (.there .here) rfl; apply gw_d; exact det_ar rfl rfl rfl rfl rfl (by omega); apply gw_d; exact w_index (m := k) rfl rfl rfl rfl rfl hkl)
      refine w_store_row (n := 1) (v := .int .i64 (max (p.work - sa) 0 + p.top)) rfl rfl rfl rfl rfl (.there (.there .here)) (by simp; omega) (row_set (Value.int .i64) (by omega) _) ?_
      rw [← hnv, hset2]
      focus (refine gw_nil ?_; refine gx_block ?_; refine gx_next ?_; refine gc_region ?_; apply gw_d; exact det_ar rfl rfl rfl rfl rfl (by omega); refine gM rfl rfl (by conv => (lhs; whnf)) ?_; refine gw_nil ?_)
      exact gx_round (k + 1) ⟨hkl, hsn hpe⟩ (by omega) (by repeat (first | exact Keeps.refl | refine Keeps.upd rfl ?_ | refine Keeps.sets rfl ?_ | refine Keeps.havoc rfl ?_)) ⟨rfl, trivial⟩ (.cons .here (.cons .here (.cons (.there .here) .nil)))
  · obtain rfl : k = ps.length := by omega
    rw [hI] at hE0
    rw [List.take_length]
    have hfull : outRow (ps.map (netV cs)) ps.length = netL cs ps := by
      have : ps.length = (ps.map (netV cs)).length := by rw [List.length_map]
      rw [this]
      exact outRow_full
    rw [hfull]
    focus (refine gc_exit ?_; refine gx_then_exit ?_; refine gx_then_exit ?_; refine gx_block_exit ?_; refine gx_next ?_; refine gc_seq ?_; refine gc_region ?_; refine gM rfl rfl (by conv => (lhs; whnf)) ?_; refine gM rfl rfl (by conv => (lhs; whnf)) ?_; refine gM rfl rfl (by conv => (lhs; whnf)) ?_; refine gO ?_; refine gc_ret ?_)
    exact gx_ret2 (u := .slice _ _ _) (v := .int _ _) rfl rfl rfl (fun w' s' => ⟨bn, by unfold netRes; rw [if_pos hE0], by
      unfold netOwn
      rw [if_pos hE0]
      exact (St.sub (K := [Box bn 3 ((netL cs ps).map (Value.int .i64)).toArray]) (.cons .here .nil) s').sep⟩)
end Go.Proofs.YtljibjlkjelpbaaGreatDoor

/- Contracts: lists of numbers and of charges held against each other. -/
namespace Go.Proofs.YtljibjlkjelpbaaGreatDoor
open Go.RowKit
set_option maxRecDepth 100000
set_option maxHeartbeats 4000000

theorem sameInts_ok (w : World) (va vb : Value) (a b : List Int) (ha : Sl rInt w w.heap.size va a) (hb : Sl rInt w w.heap.size vb b) : Ok Tryz.prog 25 [va, vb].toArray w fun r _ => r = .bool (decide (a = b)) := by
  obtain ⟨A, c, rfl, hac, ham, hacell⟩ := ha.int
  obtain ⟨B, d, rfl, hbc, hbm, hbcell⟩ := hb.int
  refine ok_enter Tryz.func25 rfl Tryz.ntmps25 rfl ?_
  focus (refine gc_seq ?_; refine gc_region ?_; refine gM rfl rfl (by conv => (lhs; whnf)) ?_; refine gO ?_; refine gc_seq ?_; refine gc_seq ?_; refine gc_region ?_; refine gM rfl rfl (by conv => (lhs; whnf)) ?_; refine gL rfl rfl rfl ?_; refine gM rfl rfl (by conv => (lhs; whnf)) ?_; refine gL rfl rfl rfl ?_; refine gC rfl rfl rfl rfl rfl ?_; refine gO ?_)
  refine gc_if_dec rfl (fun h => ?_) (fun h => ?_)
  · focus (refine gc_seq ?_; refine gc_region ?_; refine gM rfl rfl (by conv => (lhs; whnf)) ?_; refine gO ?_; refine gc_ret ?_; refine gx_then_ret ?_)
    refine gx_ret1 (v := .bool _) rfl rfl (fun _ _ => ?_)
    have : ¬ a = b := fun hc => h (by rw [hc])
    simp [this]
  have hlen : a.length = b.length := by omega
  focus (refine gc_skip ?_; refine gx_next ?_; refine gc_seq ?_; refine gc_seq ?_; refine gc_region ?_; refine gM rfl rfl (by conv => (lhs; whnf)) ?_; refine gO ?_; refine gc_block ?_)
  refine gc_loop (σ := Nat) [11, 12, 13, 14, 17, 18, 19, 20, 21, 22, 23, 24, 25, 4, 15, 16, 5] (fun k => [(5, .int .i64 k)]) (fun _ => []) (fun k => k ≤ a.length ∧ a.take k = b.take k) (fun k => a.length - k) 0 ⟨Nat.zero_le _, rfl⟩ ⟨rfl, trivial⟩ .nil ?_
  rintro k base ⟨hk, hI⟩
  focus (refine gc_seq ?_; refine gc_seq ?_; refine gc_region ?_; refine gM rfl rfl (by conv => (lhs; whnf)) ?_; refine gM rfl rfl (by conv => (lhs; whnf)) ?_; refine gL rfl rfl rfl ?_; refine gC rfl rfl rfl rfl rfl ?_; refine gO ?_)
  refine gc_if_dec rfl (fun h => ?_) (fun h => ?_)
  · have hka : k < a.length := by omega
    have hkb : k < b.length := by omega
    obtain ⟨ad1, rfl, hb1, hce1, _⟩ := hacell k hka
    obtain ⟨ad2, rfl, hb2, hce2, _⟩ := hbcell k hkb
    focus (refine gc_skip ?_; refine gx_next ?_; refine gc_seq ?_; refine gc_block ?_; refine gc_seq ?_)
    refine gc_draw 9 (by kernel_rfl) (by kernel_rfl) ?_
    focus (apply gd_d; exact det_m rfl rfl (by conv => (lhs; whnf)); apply gd_d; exact det_m rfl rfl (by conv => (lhs; whnf)); apply gd_d; exact w_index rfl rfl rfl rfl (by with_reducible exact rfl) (by omega); apply gd_d; exact w_load_at rfl rfl rfl (by assumption) (by assumption); apply gd_d; exact det_m rfl rfl (by conv => (lhs; whnf)); apply gd_d; exact det_m rfl rfl (by conv => (lhs; whnf)); apply gd_d; exact w_index rfl rfl rfl rfl (by with_reducible exact rfl) (by omega); apply gd_d; exact w_load_at rfl rfl rfl (by assumption) (by assumption); apply gd_d; exact det_cmp rfl rfl rfl rfl rfl; refine gd_nil ?_; refine gO ?_)
    refine gc_if_dec rfl (fun h3 => ?_) (fun h3 => ?_)
    · focus (refine gc_seq ?_; refine gc_region ?_; refine gM rfl rfl (by conv => (lhs; whnf)) ?_; refine gO ?_; refine gc_ret ?_; refine gx_block_ret ?_; refine gx_then_ret ?_; refine gx_then_ret ?_; refine gx_block_ret ?_; refine gx_then_ret ?_)
      refine gx_ret1 (v := .bool _) rfl rfl (fun _ _ => ?_)
      have : ¬ a = b := fun hc => h3 (by subst hc; rfl)
      simp [this]
    · focus (refine gc_skip ?_; refine gx_block ?_; refine gx_next ?_; refine gc_region ?_; refine gM rfl rfl (by conv => (lhs; whnf)) ?_; apply gw_d; exact det_ar rfl rfl rfl rfl rfl (by omega); refine gM rfl rfl (by conv => (lhs; whnf)) ?_; refine gw_nil ?_)
      refine gx_round (k + 1) ⟨hka, ?_⟩ (by omega) (by repeat (first | exact Keeps.refl | refine Keeps.upd rfl ?_ | refine Keeps.sets rfl ?_ | refine Keeps.havoc rfl ?_)) ⟨rfl, trivial⟩ .nil
      have h4 := Classical.not_not.1 h3
      rw [List.take_succ_eq_append_getElem hka, List.take_succ_eq_append_getElem hkb, hI, h4]
  · obtain rfl : k = a.length := by omega
    rw [List.take_length, List.take_of_length_le (by omega)] at hI
    focus (refine gc_exit ?_; refine gx_then_exit ?_; refine gx_then_exit ?_; refine gx_block_exit ?_; refine gx_next ?_; refine gc_seq ?_; refine gc_region ?_; refine gM rfl rfl (by conv => (lhs; whnf)) ?_; refine gO ?_; refine gc_ret ?_)
    refine gx_ret1 (v := .bool _) rfl rfl (fun _ _ => ?_)
    simp [hI]
theorem same58_ok (w : World) (va vb : Value) (a b : List Chg) (ha : Sl rChg w w.heap.size va a) (hb : Sl rChg w w.heap.size vb b) : Ok Tryz.prog 31 [va, vb].toArray w fun r _ => r = .bool (decide (a = b)) := by
  obtain ⟨A, c, rfl, hac, ham, hacell⟩ := ha.chg
  obtain ⟨B, d, rfl, hbc, hbm, hbcell⟩ := hb.chg
  refine ok_enter Tryz.func31 rfl Tryz.ntmps31 rfl ?_
  focus (refine gc_seq ?_; refine gc_region ?_; refine gM rfl rfl (by conv => (lhs; whnf)) ?_; refine gO ?_; refine gc_seq ?_; refine gc_seq ?_; refine gc_region ?_; refine gM rfl rfl (by conv => (lhs; whnf)) ?_; refine gL rfl rfl rfl ?_; refine gM rfl rfl (by conv => (lhs; whnf)) ?_; refine gL rfl rfl rfl ?_; refine gC rfl rfl rfl rfl rfl ?_; refine gO ?_)
  refine gc_if_dec rfl (fun h => ?_) (fun h => ?_)
  · focus (refine gc_seq ?_; refine gc_region ?_; refine gM rfl rfl (by conv => (lhs; whnf)) ?_; refine gO ?_; refine gc_ret ?_; refine gx_then_ret ?_)
    refine gx_ret1 (v := .bool _) rfl rfl (fun _ _ => ?_)
    have : ¬ a = b := fun hc => h (by rw [hc])
    simp [this]
  have hlen : a.length = b.length := by omega
  focus (refine gc_skip ?_; refine gx_next ?_; refine gc_seq ?_; refine gc_seq ?_; refine gc_region ?_; refine gM rfl rfl (by conv => (lhs; whnf)) ?_; refine gO ?_; refine gc_block ?_)
  refine gc_loop (σ := Nat) [11, 12, 13, 14, 17, 18, 19, 20, 21, 22, 23, 24, 25, 4, 15, 16, 5] (fun k => [(5, .int .i64 k)]) (fun _ => []) (fun k => k ≤ a.length ∧ a.take k = b.take k) (fun k => a.length - k) 0 ⟨Nat.zero_le _, rfl⟩ ⟨rfl, trivial⟩ .nil ?_
  rintro k base ⟨hk, hI⟩
  focus (refine gc_seq ?_; refine gc_seq ?_; refine gc_region ?_; refine gM rfl rfl (by conv => (lhs; whnf)) ?_; refine gM rfl rfl (by conv => (lhs; whnf)) ?_; refine gL rfl rfl rfl ?_; refine gC rfl rfl rfl rfl rfl ?_; refine gO ?_)
  refine gc_if_dec rfl (fun h => ?_) (fun h => ?_)
  · have hka : k < a.length := by omega
    have hkb : k < b.length := by omega
    obtain ⟨ad1, rfl, hb1, hce1, _⟩ := hacell k hka
    obtain ⟨ad2, rfl, hb2, hce2, _⟩ := hbcell k hkb
    focus (refine gc_skip ?_; refine gx_next ?_; refine gc_seq ?_; refine gc_block ?_; refine gc_seq ?_)
    refine gc_draw 9 (by kernel_rfl) (by kernel_rfl) ?_
    focus (apply gd_d; exact det_m rfl rfl (by conv => (lhs; whnf)); apply gd_d; exact det_m rfl rfl (by conv => (lhs; whnf)); apply gd_d; exact w_index rfl rfl rfl rfl (by with_reducible exact rfl) (by omega); apply gd_d; exact w_load_elem rfl rfl rfl (by assumption) (by assumption) (by rfl); apply gd_d; exact det_m rfl rfl (by conv => (lhs; whnf)); apply gd_d; exact det_m rfl rfl (by conv => (lhs; whnf)); apply gd_d; exact w_index rfl rfl rfl rfl (by with_reducible exact rfl) (by omega); apply gd_d; exact w_load_elem rfl rfl rfl (by assumption) (by assumption) (by rfl); apply gd_d; exact w_nes (xs := [a[k].who, a[k].tick, a[k].ply, a[k].op, a[k].amt]) (ys := [b[k].who, b[k].tick, b[k].ply, b[k].op, b[k].amt]) rfl rfl rfl rfl rfl rfl; refine gd_nil ?_; refine gO ?_)
    refine gc_if_dec rfl (fun h3 => ?_) (fun h3 => ?_)
    · focus (refine gc_seq ?_; refine gc_region ?_; refine gM rfl rfl (by conv => (lhs; whnf)) ?_; refine gO ?_; refine gc_ret ?_; refine gx_block_ret ?_; refine gx_then_ret ?_; refine gx_then_ret ?_; refine gx_block_ret ?_; refine gx_then_ret ?_)
      refine gx_ret1 (v := .bool _) rfl rfl (fun _ _ => ?_)
      have : ¬ a = b := fun hc => h3 (by subst hc; rfl)
      simp [this]
    · focus (refine gc_skip ?_; refine gx_block ?_; refine gx_next ?_; refine gc_region ?_; refine gM rfl rfl (by conv => (lhs; whnf)) ?_; apply gw_d; exact det_ar rfl rfl rfl rfl rfl (by omega); refine gM rfl rfl (by conv => (lhs; whnf)) ?_; refine gw_nil ?_)
      refine gx_round (k + 1) ⟨hka, ?_⟩ (by omega) (by repeat (first | exact Keeps.refl | refine Keeps.upd rfl ?_ | refine Keeps.sets rfl ?_ | refine Keeps.havoc rfl ?_)) ⟨rfl, trivial⟩ .nil
      have h4 := Classical.not_not.1 h3
      have h5 : a[k] = b[k] := by
        simp only [List.cons.injEq, and_true] at h4
        cases ha5 : a[k]; cases hb5 : b[k]
        rw [ha5, hb5] at h4
        simp only at h4
        obtain ⟨q1, q2, q3, q4, q5⟩ := h4
        rw [q1, q2, q3, q4, q5]
      rw [List.take_succ_eq_append_getElem hka, List.take_succ_eq_append_getElem hkb, hI, h5]
  · obtain rfl : k = a.length := by omega
    rw [List.take_length, List.take_of_length_le (by omega)] at hI
    focus (refine gc_exit ?_; refine gx_then_exit ?_; refine gx_then_exit ?_; refine gx_block_exit ?_; refine gx_next ?_; refine gc_seq ?_; refine gc_region ?_; refine gM rfl rfl (by conv => (lhs; whnf)) ?_; refine gO ?_; refine gc_ret ?_)
    refine gx_ret1 (v := .bool _) rfl rfl (fun _ _ => ?_)
    simp [hI]
end Go.Proofs.YtljibjlkjelpbaaGreatDoor
