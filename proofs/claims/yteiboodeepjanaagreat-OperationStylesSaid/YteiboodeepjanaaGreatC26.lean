/- The examples of the chapter: what they answer. -/
import Derived.Test.YteiboodeepjanaaGreatC25
namespace Go.Proofs.YteiboodeepjanaaGreat
open Go.RowKit
set_option maxRecDepth 100000
set_option maxHeartbeats 2000000

/-! ### Same -/
theorem same_ok (w : World) (va vb : Value) (a b : List Int) (ha : Sl rInt w w.heap.size va a) (hb : Sl rInt w w.heap.size vb b) : Ok Tryz.prog 21 [va, vb].toArray w fun r _ => r = .bool (decide (a = b)) := by
  obtain ⟨A, c, rfl, hac, ham, hacell⟩ := ha.int
  obtain ⟨B, d, rfl, hbc, hbm, hbcell⟩ := hb.int
  refine ok_enter Tryz.func21 rfl Tryz.ntmps21 rfl ?_
  focus (refine gc_seq ?_; refine gc_region ?_; apply gw_d; exact det_m rfl rfl (by conv => (lhs; whnf)); refine gw_nil ?_; refine gx_next ?_; refine gc_seq ?_; refine gc_seq ?_; refine gc_region ?_; apply gw_d; exact det_m rfl rfl (by conv => (lhs; whnf)); apply gw_d; exact w_len rfl rfl rfl; apply gw_d; exact det_m rfl rfl (by conv => (lhs; whnf)); apply gw_d; exact w_len rfl rfl rfl; apply gw_d; exact det_cmp rfl rfl rfl rfl rfl; refine gw_nil ?_; refine gx_next ?_)
  refine gc_if_dec rfl (fun h => ?_) (fun h => ?_)
  · focus (refine gc_seq ?_; refine gc_region ?_; apply gw_d; exact det_m rfl rfl (by conv => (lhs; whnf)); refine gw_nil ?_; refine gx_next ?_; refine gc_ret ?_; refine gx_then_ret ?_)
    refine gx_ret1 (v := .bool _) rfl rfl (fun _ _ => ?_)
    have : ¬ a = b := fun hc => h (by rw [hc])
    simp [this]
  have hlen : a.length = b.length := by omega
  focus (refine gc_skip ?_; refine gx_next ?_; refine gc_seq ?_; refine gc_seq ?_; refine gc_region ?_; apply gw_d; exact det_m rfl rfl (by conv => (lhs; whnf)); refine gw_nil ?_; refine gx_next ?_; refine gc_block ?_)
  refine gc_loop (σ := Nat) [11, 12, 13, 14, 17, 18, 19, 20, 21, 22, 23, 24, 25, 4, 15, 16, 5] (fun k => [(5, .int .i64 k)]) (fun _ => []) (fun k => k ≤ a.length ∧ a.take k = b.take k) (fun k => a.length - k) 0 ⟨Nat.zero_le _, rfl⟩ ⟨rfl, trivial⟩ .nil ?_
  rintro k base ⟨hk, hI⟩
  focus (refine gc_seq ?_; refine gc_seq ?_; refine gc_region ?_; apply gw_d; exact det_m rfl rfl (by conv => (lhs; whnf)); apply gw_d; exact det_m rfl rfl (by conv => (lhs; whnf)); apply gw_d; exact w_len rfl rfl rfl; apply gw_d; exact det_cmp rfl rfl rfl rfl rfl; refine gw_nil ?_; refine gx_next ?_)
  refine gc_if_dec rfl (fun h => ?_) (fun h => ?_)
  · have hka : k < a.length := by omega
    have hkb : k < b.length := by omega
    obtain ⟨ad1, rfl, hb1, hce1, _⟩ := hacell k hka
    obtain ⟨ad2, rfl, hb2, hce2, _⟩ := hbcell k hkb
    focus (refine gc_skip ?_; refine gx_next ?_; refine gc_seq ?_; refine gc_block ?_; refine gc_seq ?_)
    refine gc_draw 9 (by kernel_rfl) (by kernel_rfl) ?_
    focus (apply gd_d; exact det_m rfl rfl (by conv => (lhs; whnf)); apply gd_d; exact det_m rfl rfl (by conv => (lhs; whnf)); apply gd_d; exact w_index rfl rfl rfl rfl (by with_reducible exact rfl) (by omega); apply gd_d; exact w_load_at rfl rfl rfl (by assumption) (by assumption); apply gd_d; exact det_m rfl rfl (by conv => (lhs; whnf)); apply gd_d; exact det_m rfl rfl (by conv => (lhs; whnf)); apply gd_d; exact w_index rfl rfl rfl rfl (by with_reducible exact rfl) (by omega); apply gd_d; exact w_load_at rfl rfl rfl (by assumption) (by assumption); apply gd_d; exact det_cmp rfl rfl rfl rfl rfl; refine gd_nil ?_; refine gw_nil ?_; refine gx_next ?_)
    refine gc_if_dec rfl (fun h3 => ?_) (fun h3 => ?_)
    · focus (refine gc_seq ?_; refine gc_region ?_; apply gw_d; exact det_m rfl rfl (by conv => (lhs; whnf)); refine gw_nil ?_; refine gx_next ?_; refine gc_ret ?_; refine gx_block_ret ?_; refine gx_then_ret ?_; refine gx_then_ret ?_; refine gx_block_ret ?_; refine gx_then_ret ?_)
      refine gx_ret1 (v := .bool _) rfl rfl (fun _ _ => ?_)
      have : ¬ a = b := fun hc => h3 (by subst hc; rfl)
      simp [this]
    · focus (refine gc_skip ?_; refine gx_block ?_; refine gx_next ?_; refine gc_region ?_; apply gw_d; exact det_m rfl rfl (by conv => (lhs; whnf)); apply gw_d; exact det_ar rfl rfl rfl rfl rfl (by omega); apply gw_d; exact det_m rfl rfl (by conv => (lhs; whnf)); refine gw_nil ?_)
      exact gx_round (k + 1) ⟨hka, by rw [List.take_succ_eq_append_getElem hka, List.take_succ_eq_append_getElem hkb, hI, Classical.not_not.1 h3]⟩ (by omega) (by repeat (first | exact Keeps.refl | refine Keeps.upd rfl ?_ | refine Keeps.sets rfl ?_ | refine Keeps.havoc rfl ?_)) ⟨rfl, trivial⟩ .nil
  · obtain rfl : k = a.length := by omega
    rw [List.take_length, List.take_of_length_le (by omega)] at hI
    focus (refine gc_exit ?_; refine gx_then_exit ?_; refine gx_then_exit ?_; refine gx_block_exit ?_; refine gx_next ?_; refine gc_seq ?_; refine gc_region ?_; apply gw_d; exact det_m rfl rfl (by conv => (lhs; whnf)); refine gw_nil ?_; refine gx_next ?_; refine gc_ret ?_)
    refine gx_ret1 (v := .bool _) rfl rfl (fun _ _ => ?_)
    simp [hI]

/-! ### The shirt as it reads -/
def shirtS (us : List Int) : Sty := ⟨sShirt, [sM], [0], [⟨sFront, [(sLow, [(0, 0), (9, 0), (9, 9)]), (sHigh, [(9, 9), (0, 9), (0, 0)])], 1, [], [(0, 0), (0, 0)], [0, 0], false⟩], [(0, 1, false)], [], [⟨sHem, 0, 100, [], us⟩]⟩
theorem shirt_sty {w0 w : World} {L : List Res} {x : Nat → Nat} {Au : Option Addr} {cu : Nat} {us : List Int} (s : St w0 (Box (x 11) 46 (opV (.slice Au us.length cu)) :: ((shirtR x).drop 1 ++ L)) w) (hu : Sl rInt w w.heap.size (.slice Au us.length cu) us) : StyV w w.heap.size (shirtV x) (shirtS us) := by
  have h11 : w.heap[x 11]? = some (.cells (opV (.slice Au us.length cu)) 46 (0, 0)) := s.head
  have h0 : w.heap[x 0]? = some (.cells #[.string sM] 9 (0, 0)) := s.drop.head
  have h1 : w.heap[x 1]? = some (.cells #[.int .i64 0] 3 (0, 0)) := s.drop.drop.head
  have h3 : w.heap[x 3]? = some (.cells #[.int .i64 0, .int .i64 0, .int .i64 0, .int .i64 0] 69 (0, 0)) := s.drop.drop.drop.head
  have h4 : w.heap[x 4]? = some (.cells #[.int .i64 0, .int .i64 0] 3 (0, 0)) := s.drop.drop.drop.drop.head
  have h6 : w.heap[x 6]? = some (.cells (pieceV x) 60 (0, 0)) := s.drop.drop.drop.drop.drop.head
  have h8 : w.heap[x 8]? = some (.cells #[.int .i64 0, .int .i64 1, .bool false] 63 (0, 0)) := s.drop.drop.drop.drop.drop.drop.head
  have h22 : w.heap[x 22]? = some (.cells #[.string sLow, .slice (some ⟨x 20, 0, none⟩) 3 3, .string sHigh, .slice (some ⟨x 21, 0, none⟩) 3 3] 71 (0, 0)) := s.drop.drop.drop.drop.drop.drop.drop.drop.head
  have h21 : w.heap[x 21]? = some (.cells (i6 9 9 0 9 0 0) 69 (0, 0)) := s.drop.drop.drop.drop.drop.drop.drop.drop.drop.head
  have h20 : w.heap[x 20]? = some (.cells (i6 0 0 9 0 9 9) 69 (0, 0)) := s.drop.drop.drop.drop.drop.drop.drop.drop.drop.drop.head
  have a20 : Sl rSpot w w.heap.size (.slice (some ⟨x 20, 0, none⟩) 3 3) [(0, 0), (9, 0), (9, 9)] := Sl.ofCells h20 rfl (by decide) (by decide) ⟨⟨rfl, inI rfl, inI rfl⟩, ⟨rfl, inI rfl, inI rfl⟩, ⟨rfl, inI rfl, inI rfl⟩, trivial⟩
  have a21 : Sl rSpot w w.heap.size (.slice (some ⟨x 21, 0, none⟩) 3 3) [(9, 9), (0, 9), (0, 0)] := Sl.ofCells h21 rfl (by decide) (by decide) ⟨⟨rfl, inI rfl, inI rfl⟩, ⟨rfl, inI rfl, inI rfl⟩, ⟨rfl, inI rfl, inI rfl⟩, trivial⟩
  have a22 : Sl rEdge w w.heap.size (.slice (some ⟨x 22, 0, none⟩) 2 2) [(sLow, [(0, 0), (9, 0), (9, 9)]), (sHigh, [(9, 9), (0, 9), (0, 0)])] := Sl.ofCells h22 rfl (by decide) (by decide) ⟨⟨_, rfl, by decide, a20⟩, ⟨_, rfl, by decide, a21⟩, trivial⟩
  have a3 : Sl rSpot w w.heap.size (.slice (some ⟨x 3, 0, none⟩) 2 2) [(0, 0), (0, 0)] := Sl.ofCells h3 rfl (by decide) (by decide) ⟨⟨rfl, inI rfl, inI rfl⟩, ⟨rfl, inI rfl, inI rfl⟩, trivial⟩
  have a4 : Sl rInt w w.heap.size (.slice (some ⟨x 4, 0, none⟩) 2 2) [0, 0] := Sl.ofCells h4 rfl (by decide) (by decide) ⟨⟨rfl, inI rfl⟩, ⟨rfl, inI rfl⟩, trivial⟩
  refine ⟨_, _, _, _, _, _, _, _, _, _, _, _, rfl, (show sShirt.size ≤ maxLen by decide), Sl.ofCells h0 rfl (Nat.le_refl 1) (by decide) ⟨⟨rfl, by decide⟩, trivial⟩, Sl.ofCells h1 rfl (Nat.le_refl 1) (by decide) ⟨⟨rfl, inI rfl⟩, trivial⟩, Sl.ofCells h6 rfl (Nat.le_refl 1) (by decide) ⟨⟨_, _, _, _, _, _, _, _, rfl, ⟨(show sFront.size ≤ maxLen by decide), inI rfl⟩, a22, Sl.nil _ _, a3, a4⟩, trivial⟩,
    Sl.ofCells h8 rfl (Nat.le_refl 1) (by decide) ⟨⟨rfl, inI rfl, inI rfl⟩, trivial⟩, Sl.nil _ _, Sl.ofCells h11 rfl (Nat.le_refl 1) (by decide) ⟨⟨_, _, _, _, rfl, ⟨(show sHem.size ≤ maxLen by decide), inI rfl, inI rfl⟩, Sl.nil _ _, hu⟩, trivial⟩⟩
def noSty : Sty := ⟨⟨#[]⟩, [], [], [], [], [], []⟩
def noV : Value := .agg #[.string ⟨#[]⟩, .slice none 0 0, .slice none 0 0, .slice none 0 0, .slice none 0 0, .slice none 0 0, .slice none 0 0]
theorem no_sty (w : World) : StyV w w.heap.size noV noSty := ⟨_, _, _, _, _, _, _, _, _, _, _, _, rfl, by decide, Sl.nil _ _, Sl.nil _ _, Sl.nil _ _, Sl.nil _ _, Sl.nil _ _, Sl.nil _ _⟩

theorem e1 : opCheckE (shirtS [0]) pl0 = 0 := by kernel_rfl
theorem e2 : opCheckE (shirtS []) pl0 = 20 := by kernel_rfl
theorem e3 : opCheckE noSty pl0 = 1 := by kernel_rfl
theorem e4 : listE fourL (-1) = 0 := by kernel_rfl
theorem e5 : sortedL fourL = [2, 0, 1, 3] := by kernel_rfl
theorem e6 : (critS fourL (sortedL fourL)).2 = 600 := by kernel_rfl
theorem e7 : beforeV fourL 2 1 = true ∧ beforeE fourL 2 1 = 0 := by exact ⟨by kernel_rfl, by kernel_rfl⟩
theorem e8 : beforeV fourL 0 0 = false ∧ beforeE fourL 0 0 = 0 := by exact ⟨by kernel_rfl, by kernel_rfl⟩
theorem e9 : follE fourL 2 = 0 ∧ follL fourL 2 = [0, 1] := by exact ⟨by kernel_rfl, by kernel_rfl⟩
theorem e10 : follE fourL 4 = 3 := by kernel_rfl
def aroundL : List Opn := [⟨sJoin, 0, 300, [2], []⟩, ⟨sHem, 0, 100, [0], []⟩, ⟨sCuff, 0, 200, [1], []⟩, ⟨sLabel, 0, 50, [], []⟩]
theorem e11 : listE aroundL (-1) = 9 := by kernel_rfl
end Go.Proofs.YteiboodeepjanaaGreat
