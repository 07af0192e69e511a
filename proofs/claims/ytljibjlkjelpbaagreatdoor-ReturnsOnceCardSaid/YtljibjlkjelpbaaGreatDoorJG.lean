/- Texts in one file: Q10 W12 Case Open Open57 Open2 Open3. -/
import Derived.Test.YtljibjlkjelpbaaGreatDoorJE
import Derived.Test.YtljibjlkjelpbaaGreatDoorJF
import Derived.Test.YtljibjlkjelpbaaGreatDoorJB
import Derived.Lib.LaidTab
import Derived.LaidByTextLater
/- Plain facts of the law OperationStyles: a style without the uses of its operations. -/
namespace Go.Proofs.YtljibjlkjelpbaaGreatDoor
open Go.RowKit

theorem op_parts {l : List Opn} {n : Int} {i : Nat} {o : Opn} (ho : l[i]? = some o) (h : opE l n i = 0) : ¬ (¬ nameB o.name = true) ∧ ¬ ((l.take i).any fun x => eqS x.name o.name) = true ∧ ¬ (o.machine < 0 ∨ o.machine ≥ 8 ∨ o.minutes < 1 ∨ o.minutes > 10000) ∧
    ¬ (areIx o.after l.length = false ∨ (0 ≤ n ∧ areIx o.uses n = false)) ∧ ¬ (dupL o.after o.after.length = true ∨ (0 ≤ n ∧ dupL o.uses o.uses.length = true)) := by
  unfold opE at h
  rw [ho] at h
  dsimp only at h
  split at h
  · cases h
  rename_i c1
  split at h
  · cases h
  rename_i c2
  split at h
  · cases h
  rename_i c3
  split at h
  · cases h
  rename_i c4
  split at h
  · cases h
  rename_i c5
  exact ⟨c1, c2, c3, c4, c5⟩
theorem list_parts {l : List Opn} {n : Int} (h : listE l n = 0) : ¬ 16 < l.length ∧ firstE (opE l n) l.length = 0 ∧ fullB l = true := by
  unfold listE at h
  split at h
  · cases h
  rename_i c1
  split at h
  · rename_i c2; exact absurd h c2
  rename_i c2
  split at h
  · rename_i c3; exact ⟨c1, Classical.not_not.1 c2, c3⟩
  · cases h
theorem check_parts {s : Sty} {pl : Pc → Int} (h : opCheckE s pl = 0) : styleE s pl = 0 ∧ listE s.ops s.uses.length = 0 ∧ (marks s.uses.length s.ops).all id = true := by
  unfold opCheckE at h
  split at h
  · rename_i c; exact absurd h c
  rename_i c1
  split at h
  · rename_i c; exact absurd h c
  rename_i c2
  split at h
  · rename_i c3; exact ⟨Classical.not_not.1 c1, Classical.not_not.1 c2, c3⟩
  · cases h
/-! ### The cells, as they are cleared one by one -/
end Go.Proofs.YtljibjlkjelpbaaGreatDoor

/- Contracts: scan.Paid, given what operation.Check answers. -/
namespace Go.Proofs.YtljibjlkjelpbaaGreatDoor
open Go.RowKit
set_option maxRecDepth 100000
set_option maxHeartbeats 4000000

def encX (x : Scn) : List Value := [.int .i64 x.tick, .int .i64 x.op, .int .i64 x.who, .int .i64 x.time]
section
variable {w : World} {v0 v1 v2 v3 v4 v5 v6 vb vw vx : Value} {e : Int} {l : List Opn} {bs : List Bun} {ws : List Wrk} {xs : List Scn} (hO : ∀ (L : List Res) (w' : World), St w L w' → Ok Tryz.prog 53 [.agg #[v0, v1, v2, v3, v4, v5, v6]].toArray w' fun x _ => x = .int .i64 e)
include hO
theorem Paid_bad (hb : Sl rBun w w.heap.size vb bs) (hw : Sl rWrk w w.heap.size vw ws) (hx : Sl rScn w w.heap.size vx xs) (he : ¬ judgeAllE e bs ws xs.length = 0) : Ok Tryz.prog 20 [.agg #[v0, v1, v2, v3, v4, v5, v6], vb, vw, vx].toArray w fun x _ => x = .tuple #[.slice none 0 0, .int .i64 (judgeAllE e bs ws xs.length)] := by
  have hJ : ∀ (L : List Res) (w' : World), St w L w' → Ok Tryz.prog 37 [.agg #[v0, v1, v2, v3, v4, v5, v6], vb, vw, vx].toArray w' fun x _ => x = .tuple #[.slice none 0 0, .int .i64 (judgeAllE e bs ws xs.length)] := fun L w' s => Judge_bad (hO_later hO s) (hb.later s) (hw.later s) (hx.later s) he
  refine ok_enter Tryz.func20 rfl Tryz.ntmps20 rfl ?_
  focus (refine gc_seq ?_; refine gc_region ?_; refine gw_boxd (v := .agg _) rfl rfl (fun _ => ?_); refine gM rfl rfl (by conv => (lhs; whnf)) ?_; refine gM rfl rfl (by conv => (lhs; whnf)) ?_; refine gN ?_; apply gw_d; exact w_load_boxN rfl rfl rfl .here rfl; refine gM rfl rfl (by conv => (lhs; whnf)) ?_; refine gM rfl rfl (by conv => (lhs; whnf)) ?_; refine gM rfl rfl (by conv => (lhs; whnf)) ?_; apply gw_d; exact w_call rfl rfl (hJ _) rfl; refine gM rfl rfl (by conv => (lhs; whnf)) ?_; apply gw_d; exact det_extract rfl rfl rfl (by conv => (lhs; whnf)); apply gw_d; exact det_extract rfl rfl rfl (by conv => (lhs; whnf)); refine gM rfl rfl (by conv => (lhs; whnf)) ?_; refine gM rfl rfl (by conv => (lhs; whnf)) ?_; refine gO ?_; refine gc_seq ?_; refine gc_seq ?_; refine gc_region ?_; refine gM rfl rfl (by conv => (lhs; whnf)) ?_; refine gC rfl rfl rfl rfl rfl ?_; refine gO ?_)
  refine gc_if_dec rfl (fun _ => ?_) (fun h => absurd he h)
  focus (refine gc_seq ?_; refine gc_region ?_; refine gM rfl rfl (by conv => (lhs; whnf)) ?_; refine gM rfl rfl (by conv => (lhs; whnf)) ?_; refine gM rfl rfl (by conv => (lhs; whnf)) ?_; refine gO ?_; refine gc_ret ?_; refine gx_then_ret ?_)
  refine gx_ret2 (u := .slice _ _ _) (v := .int _ _) rfl rfl rfl (fun _ _ => ?_)
  rfl
theorem Paid_ok (hl : Sl rOp w w.heap.size v6 l) (hb : Sl rBun w w.heap.size vb bs) (hw : Sl rWrk w w.heap.size vw ws) (hx : Sl rScn w w.heap.size vx xs) (hS : Small l) (he : judgeAllE e bs ws xs.length = 0) :
    OkM Tryz.prog 20 [.agg #[v0, v1, v2, v3, v4, v5, v6], vb, vw, vx].toArray w (fun x : Option Addr × Nat => .tuple #[.slice x.1 (paidL l ws (ticks bs) xs).length x.2, .int .i64 0]) (fun x => [Own x.1 (paidL l ws (ticks bs) xs).length x.2 51 4 ((paidL l ws (ticks bs) xs).flatMap encX)]) := by
  have hJ : ∀ (L : List Res) (w' : World), St w L w' → OkM Tryz.prog 37 [.agg #[v0, v1, v2, v3, v4, v5, v6], vb, vw, vx].toArray w' (fun x : Nat => .tuple #[.slice (some ⟨x, 0, none⟩) xs.length xs.length, .int .i64 0]) (fun x => [Box x 3 ((outs l ws (ticks bs) [] xs).map (Value.int .i64)).toArray]) := fun L w' s => Judge_ok (hO_later hO s) (hl.later s) (hb.later s) (hw.later s) (hx.later s) hS he
  have h300 : xs.length ≤ 300 := by
    unfold judgeAllE at he
    split at he
    · rename_i h; exact absurd he h
    · split at he
      · cases he
      · omega
  have hol := outs_len l ws (ticks bs) xs []
  have hoa : ∀ k (hk : k < xs.length), (outs l ws (ticks bs) [] xs).getD k 0 = outE l ws (ticks bs) (paidL l ws (ticks bs) (xs.take k)) xs[k] := fun k hk => outs_at hk
  obtain ⟨A0, c0, rfl, hxc, hxm, hxcell⟩ := hx.scn
  generalize hos : outs l ws (ticks bs) [] xs = os at hJ hol hoa
  unfold OkM
  refine ok_enter Tryz.func20 rfl Tryz.ntmps20 rfl ?_
  focus (refine gc_seq ?_; refine gc_region ?_; refine gw_boxd (v := .agg _) rfl rfl (fun _ => ?_); refine gM rfl rfl (by conv => (lhs; whnf)) ?_; refine gM rfl rfl (by conv => (lhs; whnf)) ?_; refine gN ?_; apply gw_d; exact w_load_boxN rfl rfl rfl .here rfl; refine gM rfl rfl (by conv => (lhs; whnf)) ?_; refine gM rfl rfl (by conv => (lhs; whnf)) ?_; refine gM rfl rfl (by conv => (lhs; whnf)) ?_)
  refine gw_callm rfl (hJ _) rfl (fun g => ?_)
  focus (refine gM rfl rfl (by conv => (lhs; whnf)) ?_; apply gw_d; exact det_extract rfl rfl rfl (by conv => (lhs; whnf)); apply gw_d; exact det_extract rfl rfl rfl (by conv => (lhs; whnf)); refine gM rfl rfl (by conv => (lhs; whnf)) ?_; refine gM rfl rfl (by conv => (lhs; whnf)) ?_; refine gO ?_; refine gc_seq ?_; refine gc_seq ?_; refine gc_region ?_; refine gM rfl rfl (by conv => (lhs; whnf)) ?_; refine gC rfl rfl rfl rfl rfl ?_; refine gO ?_)
  refine gc_if_dec rfl (fun h => absurd rfl h) (fun _ => ?_)
  focus (refine gc_skip ?_; refine gx_next ?_; refine gc_seq ?_; refine gc_region ?_; refine gM rfl rfl (by conv => (lhs; whnf)) ?_; refine gO ?_; refine gc_seq ?_; refine gc_seq ?_; refine gc_region ?_; refine gM rfl rfl (by conv => (lhs; whnf)) ?_; refine gL rfl rfl rfl ?_; refine gM rfl rfl (by conv => (lhs; whnf)) ?_; refine gO ?_; refine gc_block ?_)
  refine gc_own0 51 4 ?_
  refine gc_loop (σ := Nat × Option Addr × Nat) [29, 30, 31, 32, 14, 13, 33, 34, 35, 36, 37, 38, 39, 40, 41, 12, 42, 28] (fun s => [(28, .int .i64 s.1), (12, .slice s.2.1 (paidL l ws (ticks bs) (xs.take s.1)).length s.2.2)]) (fun s => [Own s.2.1 (paidL l ws (ticks bs) (xs.take s.1)).length s.2.2 51 4 ((paidL l ws (ticks bs) (xs.take s.1)).flatMap encX), Box g 3 (os.map (Value.int .i64)).toArray]) (fun s => s.1 ≤ xs.length) (fun s => xs.length - s.1) (0, none, 0) (Nat.zero_le _) ⟨rfl, rfl, trivial⟩ (.cons .here (.cons .here .nil)) ?_
  rintro ⟨k, A, c⟩ base hk
  dsimp only at hk ⊢
  focus (refine gc_seq ?_; refine gc_region ?_; refine gC rfl rfl rfl rfl rfl ?_; refine gO ?_; refine gc_seq ?_)
  refine gc_if_dec rfl (fun h => ?_) (fun h => ?_)
  · have hlt : k < xs.length := by omega
    obtain ⟨ad, rfl, hb1, hce, _⟩ := hxcell k hlt
    have hpc : (os.map (Value.int .i64)).toArray[k * 1]? = some (.int .i64 (os.getD k 0)) := row_get (Value.int .i64) 0 (by omega)
    have hsn : paidL l ws (ticks bs) (xs.take (k + 1)) = nextP l ws (ticks bs) (paidL l ws (ticks bs) (xs.take k)) xs[k] := by rw [List.take_succ_eq_append_getElem hlt, paidL_snoc]
    have hpl := paidL_len l ws (ticks bs) (xs.take k)
    rw [List.length_take] at hpl
    rw [hoa k hlt] at hpc
    unfold nextP at hsn
    generalize paidL l ws (ticks bs) (xs.take k) = ps at hpc hsn hpl ⊢
    focus (refine gc_skip ?_; refine gx_next ?_; refine gc_seq ?_; refine gc_block ?_; refine gc_seq ?_; refine gc_region ?_; refine gM rfl rfl (by conv => (lhs; whnf)) ?_; apply gw_d; exact w_index rfl rfl rfl rfl (by with_reducible exact rfl) (by omega); apply gw_d; exact w_load_elem rfl rfl rfl (by assumption) (by assumption) (by rfl); refine w_alloc rfl (fun _ => ?_); refine gM rfl rfl (by conv => (lhs; whnf)) ?_; refine w_store_all rfl rfl rfl rfl rfl .here rfl ?_; refine gN ?_; refine gM rfl rfl (by conv => (lhs; whnf)) ?_; refine gM rfl rfl (by conv => (lhs; whnf)) ?_; apply gw_d; exact w_index rfl rfl rfl rfl (by with_reducible exact rfl) (by omega); apply gw_d; exact w_load_row rfl rfl rfl (.there (.there .here)) hpc; refine gC rfl rfl rfl rfl rfl ?_; refine gO ?_)
    refine gc_if_dec rfl (fun h2 => ?_) (fun h2 => ?_)
    · rw [if_pos h2] at hsn
      focus (refine gc_region ?_; refine gM rfl rfl (by conv => (lhs; whnf)) ?_; apply gw_d; exact w_load_boxN rfl rfl rfl .here rfl)
      refine gw_bslice1 (v := .agg #[.int .i64 xs[k].tick, .int .i64 xs[k].op, .int .i64 xs[k].who, .int .i64 xs[k].time]) rfl rfl rfl rfl rfl (fun bb => ?_)
      refine gw_append (news := encX xs[k]) rfl rfl rfl (.there (.there .here)) rfl (fun w' s _ => ?_) (fun u hu => ?_) (by unfold maxLen; omega) (by omega) (by decide) rfl (fun A3 c3 => ?_)
      · refine ⟨⟨bb, 0, none⟩, rfl, fun i u hu => ?_⟩
        rw [add_zero]
        refine (Box.cell s.head i).trans ?_
        change (#[Value.int .i64 xs[k].tick, .int .i64 xs[k].op, .int .i64 xs[k].who, .int .i64 xs[k].time] : Array Value)[i]? = some u
        rw [List.getElem?_toArray]
        exact hu
      · unfold encX at hu
        simp only [List.mem_cons, List.not_mem_nil, or_false] at hu
        rcases hu with rfl | rfl | rfl | rfl <;> rfl
      · focus (refine gM rfl rfl (by conv => (lhs; whnf)) ?_; refine gw_nil ?_; refine gx_block ?_; refine gx_next ?_; refine gc_region ?_; apply gw_d; exact det_ar rfl rfl rfl rfl rfl (by omega); refine gM rfl rfl (by conv => (lhs; whnf)) ?_; refine gw_nil ?_)
        refine gx_round (k + 1, A3, c3) hlt (by dsimp only; omega) (by repeat (first | exact Keeps.refl | refine Keeps.upd rfl ?_ | refine Keeps.sets rfl ?_ | refine Keeps.havoc rfl ?_)) ⟨rfl, by rw [hsn, List.length_append]; rfl, trivial⟩ ?_
        dsimp only
        rw [hsn, List.length_append, List.flatMap_append]
        exact .cons .here (.cons (.there (.there .here)) .nil)
    · rw [if_neg h2] at hsn
      focus (refine gc_skip ?_; refine gx_block ?_; refine gx_next ?_; refine gc_region ?_; apply gw_d; exact det_ar rfl rfl rfl rfl rfl (by omega); refine gM rfl rfl (by conv => (lhs; whnf)) ?_; refine gw_nil ?_)
      refine gx_round (k + 1, A, c) hlt (by dsimp only; omega) (by repeat (first | exact Keeps.refl | refine Keeps.upd rfl ?_ | refine Keeps.sets rfl ?_ | refine Keeps.havoc rfl ?_)) ⟨rfl, by rw [hsn]; rfl, trivial⟩ ?_
      dsimp only
      rw [hsn]
      exact .cons (.there .here) (.cons (.there .here) .nil)
  · obtain rfl : k = xs.length := by omega
    rw [List.take_length]
    focus (refine gc_exit ?_; refine gx_then_exit ?_; refine gx_then_exit ?_; refine gx_block_exit ?_; refine gx_next ?_; refine gc_seq ?_; refine gc_region ?_; refine gM rfl rfl (by conv => (lhs; whnf)) ?_; refine gM rfl rfl (by conv => (lhs; whnf)) ?_; refine gM rfl rfl (by conv => (lhs; whnf)) ?_; refine gO ?_; refine gc_ret ?_)
    exact gx_ret2 (u := .slice _ _ _) (v := .int _ _) rfl rfl rfl (fun w' s => ⟨(A, c), rfl, (St.sub (K := [Own A (paidL l ws (ticks bs) xs).length c 51 4 ((paidL l ws (ticks bs) xs).flatMap encX)]) (.cons .here .nil) s).sep⟩)
end
end Go.Proofs.YtljibjlkjelpbaaGreatDoor

/- Cases: how they lie; what a good case is. -/
namespace Go.Proofs.YtljibjlkjelpbaaGreatDoor
open Go.RowKit
set_option maxRecDepth 100000
set_option maxHeartbeats 4000000

structure Cse where
  (sty : Sty) (bs : List Bun) (ws : List Wrk) (xs : List Scn)
def CaseV (w : World) (v : Value) (c : Cse) : Prop :=
  ∃ v0 v1 v2 v3 v4 v5 v6 vb vw vx, v = .agg #[v0, v1, v2, v3, v4, v5, v6, vb, vw, vx] ∧ StyV w w.heap.size (.agg #[v0, v1, v2, v3, v4, v5, v6]) c.sty ∧ Sl rBun w w.heap.size vb c.bs ∧ Sl rWrk w w.heap.size vw c.ws ∧ Sl rScn w w.heap.size vx c.xs
theorem CaseV.later {w0 w : World} {L : List Res} {v : Value} {c : Cse} (s : St w0 L w) (h : CaseV w0 v c) : CaseV w v c := by
  obtain ⟨v0, v1, v2, v3, v4, v5, v6, vb, vw, vx, rfl, h1, h2, h3, h4⟩ := h
  exact ⟨v0, v1, v2, v3, v4, v5, v6, vb, vw, vx, rfl, StyV.later s h1, h2.later s, h3.later s, h4.later s⟩

def rU8 : Rp Int where
  size := 1
  rep _ _ i cs := cs = [.int .u8 i] ∧ (0 ≤ i ∧ i ≤ 255)
  len h := by rw [h.1]; rfl
  mono _ h := h
  grow _ h := h
theorem Sl.u8 {w : World} {B : Nat} {v : Value} {l : List Int} (h : Sl rU8 w B v l) : ∃ A c, v = .slice A l.length c ∧ l.length ≤ c ∧ l.length ≤ 9223372036854775807 ∧
    ∀ k (hk : k < l.length), ∃ ad, A = some ad ∧ ad.block < B ∧ w.cell? (ad.add (k * 1)) = some (.int .u8 l[k]) ∧ (0 ≤ l[k] ∧ l[k] ≤ 255) := by
  obtain ⟨A, c, hv, h1, h2, h3⟩ := h
  refine ⟨A, c, hv, h1, by unfold maxLen at h2; omega, fun k hk => ?_⟩
  obtain ⟨ad, cs, ha, hlt, hc, rfl, hr⟩ := h3 k hk
  exact ⟨ad, ha, hlt, hc 0 _ rfl, hr⟩

theorem paid_rep {w0 w : World} {B : Nat} {v : Value} {xs : List Scn} {S : Nat → Prop} (hx : Sl rScn w0 B v xs) {q : Scn} (hq : q ∈ xs) : rScn.rep w S q (encX q) := by
  obtain ⟨k, hk, rfl⟩ := List.getElem_of_mem hq
  obtain ⟨A, c, _, _, _, hcell⟩ := hx.scn
  obtain ⟨_, _, _, _, h⟩ := hcell k hk
  exact ⟨rfl, h⟩
/-! ### What no error means -/
theorem list_small {l : List Opn} {n : Int} (h : listE l n = 0) : Small l ∧ ∀ k (hk : k < l.length), 0 ≤ l[k].minutes ∧ l[k].minutes ≤ 10000 := by
  obtain ⟨h1, h2, _⟩ := list_parts h
  have hp : ∀ k (hk : k < l.length), _ := fun k hk => op_parts (l := l) (n := n) (List.getElem?_eq_getElem hk) (firstE_at h2 k hk)
  refine ⟨⟨by omega, fun k hk a ha => ?_⟩, fun k hk => ?_⟩
  · obtain ⟨_, _, _, c4, _⟩ := hp k hk
    have h3 : areIx l[k].after l.length = true := by
      cases hx : areIx l[k].after l.length with
      | true => rfl
      | false => exact absurd (.inl hx) c4
    exact areIx_at h3 a ha
  · obtain ⟨_, _, c3, _⟩ := hp k hk
    omega
theorem judge_zero {e : Int} {bs : List Bun} {ws : List Wrk} {n : Nat} (h : judgeAllE e bs ws n = 0) : ScanOk e bs ws ∧ n ≤ 300 := by
  unfold judgeAllE at h
  split at h
  · rename_i h1; exact absurd h h1
  · rename_i h1
    split at h
    · cases h
    · exact ⟨scan_good (Classical.not_not.1 h1), by omega⟩
theorem judge_fewer {e : Int} {bs : List Bun} {ws : List Wrk} {n m : Nat} (h : judgeAllE e bs ws n = 0) (hm : m ≤ 300) : judgeAllE e bs ws m = 0 := by
  unfold judgeAllE at h ⊢
  split at h
  · rename_i h1; exact absurd h h1
  · rename_i h1
    rw [if_neg h1, if_neg (by omega)]
theorem scan_ops {s : Sty} {bs : List Bun} {ws : List Wrk} (h : ScanOk (opCheckE s plE) bs ws) : Small s.ops ∧ ∀ k (hk : k < s.ops.length), 0 ≤ s.ops[k].minutes ∧ s.ops[k].minutes ≤ 10000 := list_small (check_parts h.op).2.1
theorem sty_ops {w : World} {v0 v1 v2 v3 v4 v5 v6 : Value} {s : Sty} (h : StyV w w.heap.size (.agg #[v0, v1, v2, v3, v4, v5, v6]) s) : Sl rOp w w.heap.size v6 s.ops := by
  obtain ⟨As, cs, Am, cm, Ap, cp, Au, cu, Ae, ce, Ao, co, he, _, _, _, _, _, _, h6⟩ := h
  injection he with he
  have : (#[v0, v1, v2, v3, v4, v5, v6] : Array Value)[6]? = some v6 := rfl
  rw [he] at this
  injection this with this
  rw [← this]
  exact h6
theorem case_check {w : World} {v : Value} {s : Sty} (h : StyV w w.heap.size v s) : ∀ (L : List Res) (w' : World), St w L w' → Ok Tryz.prog 53 [v].toArray w' fun x _ => x = .int .i64 (opCheckE s plE) := fun _ w' s' => opCheck_ok w' v s (StyV.later s' h)

section
variable {w : World} {v0 v1 v2 v3 v4 v5 v6 vb vw vx : Value} {r le : Int} {s : Sty} {bs : List Bun} {ws : List Wrk} {xs : List Scn}
theorem cPaid_bad (hs : StyV w w.heap.size (.agg #[v0, v1, v2, v3, v4, v5, v6]) s) (hb : Sl rBun w w.heap.size vb bs) (hw : Sl rWrk w w.heap.size vw ws) (hx : Sl rScn w w.heap.size vx xs) (he : ¬ judgeAllE (opCheckE s plE) bs ws xs.length = 0) :
    Ok Tryz.prog 20 [.agg #[v0, v1, v2, v3, v4, v5, v6], vb, vw, vx].toArray w fun x _ => x = .tuple #[.slice none 0 0, .int .i64 (judgeAllE (opCheckE s plE) bs ws xs.length)] := Paid_bad (case_check hs) hb hw hx he
theorem cPaid_ok (hs : StyV w w.heap.size (.agg #[v0, v1, v2, v3, v4, v5, v6]) s) (hb : Sl rBun w w.heap.size vb bs) (hw : Sl rWrk w w.heap.size vw ws) (hx : Sl rScn w w.heap.size vx xs) (he : judgeAllE (opCheckE s plE) bs ws xs.length = 0) :
    OkM Tryz.prog 20 [.agg #[v0, v1, v2, v3, v4, v5, v6], vb, vw, vx].toArray w (fun x : Option Addr × Nat => .tuple #[.slice x.1 (paidL s.ops ws (ticks bs) xs).length x.2, .int .i64 0]) (fun x => [Own x.1 (paidL s.ops ws (ticks bs) xs).length x.2 51 4 ((paidL s.ops ws (ticks bs) xs).flatMap encX)]) :=
  Paid_ok (case_check hs) (sty_ops hs) hb hw hx (scan_ops (judge_zero he).1).1 he
end
end Go.Proofs.YtljibjlkjelpbaaGreatDoor

/- Arguments of the laws: operations, as they came in. -/
namespace Go.Proofs.YtljibjlkjelpbaaGreatDoor
open Go.ChangeShapes Go.WideShapes Go.ChangeAt Go.RowKit
section
variable {H : Type} {enc : TypeId × Value → H} {w : World} {base : Nat} {spare : Nat → Bool} {held : Bool}
theorem ints23 {n : Nat} {c : Value} {x : DataW H × List MemPlace} (h : DataW.trod enc Tryz.prog w base spare held n 23 [c] = some x) : ∃ l, Sl rInt w w.heap.size c l :=
  ints_trod (e := 3) (by kernel_rfl) (by kernel_rfl) (by kernel_rfl) h
theorem op_trod {n : Nat} {cs : List Value} {x : DataW H × List MemPlace} (hl : cs.length = 5) (h : DataW.trod enc Tryz.prog w base spare held n 89 cs = some x) : ∃ o, rOp.rep w (fun b => b < w.heap.size) o cs := by
  match cs, hl with
  | [c0, c1, c2, c3, c4], _ =>
    obtain ⟨_, _, h0⟩ := field_trod (i := 0) (ft := 9) h (by kernel_rfl) rfl
    obtain ⟨_, _, h1⟩ := field_trod (i := 1) (ft := 3) h (by kernel_rfl) rfl
    obtain ⟨_, _, h2⟩ := field_trod (i := 2) (ft := 3) h (by kernel_rfl) rfl
    obtain ⟨_, _, h3⟩ := field_trod (i := 3) (ft := 23) h (by kernel_rfl) rfl
    obtain ⟨_, _, h4⟩ := field_trod (i := 4) (ft := 23) h (by kernel_rfl) rfl
    obtain ⟨s, rfl, hs⟩ := str_trod (by kernel_rfl) h0
    obtain ⟨i1, rfl, hi1⟩ := int_trod (by kernel_rfl) h1
    obtain ⟨i2, rfl, hi2⟩ := int_trod (by kernel_rfl) h2
    obtain ⟨la, ha⟩ := ints23 h3
    obtain ⟨lu, hu⟩ := ints23 h4
    obtain ⟨Aa, ca, rfl, _⟩ := len_small ha
    obtain ⟨Au, cu, rfl, _⟩ := len_small hu
    exact ⟨⟨s, i1, i2, la, lu⟩, Aa, ca, Au, cu, rfl, ⟨hs, hi1, hi2⟩, ha, hu⟩
theorem ops_trod {n : Nat} {c : Value} {x : DataW H × List MemPlace} (h : DataW.trod enc Tryz.prog w base spare held n 27 [c] = some x) : ∃ l, Sl rOp w w.heap.size c l :=
  sl_of_trod (R := rOp) (e := 89) (by kernel_rfl) (by kernel_rfl) (by decide) (fun _ _ _ hl hy => op_trod hl hy) h
theorem ops_Trod {v : Value} {d : DataW H} {p : List MemPlace} {A : Option Addr} {n c : Nat} (hv : v = .slice A n c) (h : DataW.Trod enc Tryz.prog w base spare held 27 v d p) : ∃ l, Sl rOp w w.heap.size v l := by
  subst hv
  obtain ⟨fuel, hf⟩ := h
  exact ops_trod hf
end
end Go.Proofs.YtljibjlkjelpbaaGreatDoor

/- Arguments of the laws of chapter 57: tariffs, pays, as they came in; what the package-level variable holds. -/
namespace Go.Proofs.YtljibjlkjelpbaaGreatDoor
open Go.ChangeShapes Go.WideShapes Go.ChangeAt Go.RowKit
section
variable {H : Type} {enc : TypeId × Value → H} {w : World} {base : Nat} {spare : Nat → Bool} {held : Bool}
theorem tariff_trod {n : Nat} {cs : List Value} {x : DataW H × List MemPlace} (hl : cs.length = 2) (h : DataW.trod enc Tryz.prog w base spare held n 36 cs = some x) : ∃ r l, cs = [.int .i64 r, .int .i64 l] ∧ inI64 r ∧ inI64 l := by
  match cs, hl with
  | [c0, c1], _ =>
    obtain ⟨_, _, h0⟩ := field_trod (i := 0) (ft := 3) h (by kernel_rfl) rfl
    obtain ⟨_, _, h1⟩ := field_trod (i := 1) (ft := 3) h (by kernel_rfl) rfl
    obtain ⟨i0, rfl, hi0⟩ := int_trod (by kernel_rfl) h0
    obtain ⟨i1, rfl, hi1⟩ := int_trod (by kernel_rfl) h1
    exact ⟨i0, i1, rfl, hi0, hi1⟩
theorem pay_trod {n : Nat} {cs : List Value} {x : DataW H × List MemPlace} (hl : cs.length = 3) (h : DataW.trod enc Tryz.prog w base spare held n 44 cs = some x) : ∃ o, rPay.rep w (fun b => b < w.heap.size) o cs := by
  match cs, hl with
  | [c0, c1, c2], _ =>
    obtain ⟨_, _, h0⟩ := field_trod (i := 0) (ft := 3) h (by kernel_rfl) rfl
    obtain ⟨_, _, h1⟩ := field_trod (i := 1) (ft := 3) h (by kernel_rfl) rfl
    obtain ⟨_, _, h2⟩ := field_trod (i := 2) (ft := 3) h (by kernel_rfl) rfl
    obtain ⟨i0, rfl, hi0⟩ := int_trod (by kernel_rfl) h0
    obtain ⟨i1, rfl, hi1⟩ := int_trod (by kernel_rfl) h1
    obtain ⟨i2, rfl, hi2⟩ := int_trod (by kernel_rfl) h2
    exact ⟨⟨i0, i1, i2⟩, rfl, hi0, hi1, hi2⟩
theorem pays_Trod {v : Value} {d : DataW H} {p : List MemPlace} {A : Option Addr} {n c : Nat} (hv : v = .slice A n c) (h : DataW.Trod enc Tryz.prog w base spare held 39 v d p) : ∃ l, Sl rPay w w.heap.size v l := by
  subst hv
  obtain ⟨fuel, hf⟩ := h
  exact sl_of_trod (R := rPay) (e := 44) (by kernel_rfl) (by kernel_rfl) (by decide) (fun _ _ _ hl hy => pay_trod hl hy) hf
end
theorem gTab : Tryz.prog.globalNamed "garment/wage.bounds" = some 0 := by kernel_rfl
theorem gTabType : (Tryz.prog.globals[0]?).map (·.type) = some 110 := by kernel_rfl
theorem cellsTab : Tryz.prog.cellsOf 110 = 2 := by kernel_rfl
theorem cellsInt : Tryz.prog.cellsOf 3 = 1 := by kernel_rfl
/-- What the row's list gives. -/
theorem lay_of {W : World} (h : laidMetH Tryz.prog [("garment/wage.bounds", .agg [.lit (.int .i64 100000), .lit (.int .i64 1073741824)])] W) : Lay W := by
  have ht : Lib.TabIs Tryz.prog W "garment/wage.bounds" .i64 [100000, 1073741824] := Lib.tabIs_of_head (rest := []) gTab gTabType (by kernel_rfl) (by kernel_rfl) cellsInt cellsTab h
  have c0 : W.cell? ⟨0, 0, none⟩ = some (.int .i64 100000) := ht.cell gTab 0 (by decide)
  have c1 : W.cell? ⟨0, 1, none⟩ = some (.int .i64 1073741824) := ht.cell gTab 1 (by decide)
  exact ⟨cell_lt c0, c0, c1⟩
end Go.Proofs.YtljibjlkjelpbaaGreatDoor

/- Arguments of the laws: styles, as they came in. -/
namespace Go.Proofs.YtljibjlkjelpbaaGreatDoor
open Go.ChangeShapes Go.WideShapes Go.ChangeAt Go.RowKit
section
variable {H : Type} {enc : TypeId × Value → H} {P : Program} {w : World} {base : Nat} {spare : Nat → Bool} {held : Bool}
/-- The type of a field of k cells, at its place. -/
def fieldK (P : Program) (e : TypeId) (i o k : Nat) : Option TypeId := match P.underlying e with
  | some (.struct fs) => match fs[i]? with
    | some f => bif Nat.beq f.offset o && Nat.beq (P.cellsOf f.type) k then some f.type else none
    | none => none
  | _ => none
theorem fieldK_trod {e ft : TypeId} {i o k n : Nat} {cs ds : List Value} {x : DataW H × List MemPlace} (h : DataW.trod enc P w base spare held n e cs = some x) (hf : fieldK P e i o k = some ft) (hc : (cs.drop o).take k = ds) :
    ∃ m y, DataW.trod enc P w base spare held m ft ds = some y := by
  unfold fieldK at hf
  split at hf
  · rename_i fs hu
    split at hf
    · rename_i f hfi
      cases hb : (Nat.beq f.offset o && Nat.beq (P.cellsOf f.type) k) with
      | false => rw [hb] at hf; cases hf
      | true =>
        rw [hb] at hf
        simp only [cond_true, Option.some.injEq] at hf
        subst hf
        rw [Bool.and_eq_true] at hb
        have h1 : f.offset = o := Nat.eq_of_beq_eq_true hb.1
        have h2 : P.cellsOf f.type = k := Nat.eq_of_beq_eq_true hb.2
        obtain ⟨xs, m, _, _, _, hlen, hg⟩ := DataW.trod_struct hu h
        have h3 := hg i f hfi
        have hi : i < fs.size := (Array.getElem?_eq_some_iff.1 hfi).1
        rw [h1, h2, List.getElem?_eq_getElem (by omega), hc] at h3
        exact ⟨m, _, h3⟩
    · cases hf
  · cases hf
end
section
variable {H : Type} {enc : TypeId × Value → H} {w : World} {base : Nat} {spare : Nat → Bool} {held : Bool}
theorem strs_trod {n : Nat} {c : Value} {x : DataW H × List MemPlace} (h : DataW.trod enc Tryz.prog w base spare held n 22 [c] = some x) : ∃ l, Sl rStr w w.heap.size c l :=
  sl_of_trod (R := rStr) (e := 9) (by kernel_rfl) (by kernel_rfl) (by decide) (fun _ cs _ hl hy => by
    match cs, hl with
    | [c0], _ =>
      obtain ⟨s, rfl, hs⟩ := str_trod (by kernel_rfl) hy
      exact ⟨s, rfl, hs⟩) h
theorem spots_trod {n : Nat} {c : Value} {x : DataW H × List MemPlace} (h : DataW.trod enc Tryz.prog w base spare held n 113 [c] = some x) : ∃ l, Sl rSpot w w.heap.size c l :=
  sl_of_trod (R := rSpot) (e := 121) (by kernel_rfl) (by kernel_rfl) (by decide) (fun _ cs _ hl hy => by
    match cs, hl with
    | [c0, c1], _ =>
      obtain ⟨_, _, h0⟩ := field_trod (i := 0) (ft := 3) hy (by kernel_rfl) rfl
      obtain ⟨_, _, h1⟩ := field_trod (i := 1) (ft := 3) hy (by kernel_rfl) rfl
      obtain ⟨i0, rfl, hi0⟩ := int_trod (by kernel_rfl) h0
      obtain ⟨i1, rfl, hi1⟩ := int_trod (by kernel_rfl) h1
      exact ⟨(i0, i1), rfl, hi0, hi1⟩) h
theorem notches_trod {n : Nat} {c : Value} {x : DataW H × List MemPlace} (h : DataW.trod enc Tryz.prog w base spare held n 112 [c] = some x) : ∃ l, Sl rSpot w w.heap.size c l :=
  sl_of_trod (R := rSpot) (e := 196) (by kernel_rfl) (by kernel_rfl) (by decide) (fun _ cs _ hl hy => by
    match cs, hl with
    | [c0, c1], _ =>
      obtain ⟨_, _, h0⟩ := field_trod (i := 0) (ft := 3) hy (by kernel_rfl) rfl
      obtain ⟨_, _, h1⟩ := field_trod (i := 1) (ft := 3) hy (by kernel_rfl) rfl
      obtain ⟨i0, rfl, hi0⟩ := int_trod (by kernel_rfl) h0
      obtain ⟨i1, rfl, hi1⟩ := int_trod (by kernel_rfl) h1
      exact ⟨(i0, i1), rfl, hi0, hi1⟩) h
theorem edges_trod {n : Nat} {c : Value} {x : DataW H × List MemPlace} (h : DataW.trod enc Tryz.prog w base spare held n 111 [c] = some x) : ∃ l, Sl rEdge w w.heap.size c l :=
  sl_of_trod (R := rEdge) (e := 117) (by kernel_rfl) (by kernel_rfl) (by decide) (fun _ cs _ hl hy => by
    match cs, hl with
    | [c0, c1], _ =>
      obtain ⟨_, _, h0⟩ := field_trod (i := 0) (ft := 9) hy (by kernel_rfl) rfl
      obtain ⟨_, _, h1⟩ := field_trod (i := 1) (ft := 113) hy (by kernel_rfl) rfl
      obtain ⟨s, rfl, hs⟩ := str_trod (by kernel_rfl) h0
      obtain ⟨l, hl⟩ := spots_trod h1
      exact ⟨(s, l), c1, rfl, hs, hl⟩) h
theorem piece_trod {n : Nat} {cs : List Value} {x : DataW H × List MemPlace} (hl : cs.length = 7) (h : DataW.trod enc Tryz.prog w base spare held n 115 cs = some x) : ∃ o, rPiece.rep w (fun b => b < w.heap.size) o cs := by
  match cs, hl with
  | [c0, c1, c2, c3, c4, c5, c6], _ =>
    obtain ⟨_, _, h0⟩ := field_trod (i := 0) (ft := 9) h (by kernel_rfl) rfl
    obtain ⟨_, _, h1⟩ := field_trod (i := 1) (ft := 111) h (by kernel_rfl) rfl
    obtain ⟨_, _, h2⟩ := field_trod (i := 2) (ft := 3) h (by kernel_rfl) rfl
    obtain ⟨_, _, h3⟩ := field_trod (i := 3) (ft := 112) h (by kernel_rfl) rfl
    obtain ⟨_, _, h4⟩ := field_trod (i := 4) (ft := 113) h (by kernel_rfl) rfl
    obtain ⟨_, _, h5⟩ := field_trod (i := 5) (ft := 23) h (by kernel_rfl) rfl
    obtain ⟨_, _, h6⟩ := field_trod (i := 6) (ft := 4) h (by kernel_rfl) rfl
    obtain ⟨s, rfl, hs⟩ := str_trod (by kernel_rfl) h0
    obtain ⟨le, he⟩ := edges_trod h1
    obtain ⟨i2, rfl, hi2⟩ := int_trod (by kernel_rfl) h2
    obtain ⟨ln, hn⟩ := notches_trod h3
    obtain ⟨lc, hc⟩ := spots_trod h4
    obtain ⟨lw, hw⟩ := ints23 h5
    obtain ⟨b6, rfl⟩ := bool_trod (by kernel_rfl) h6
    obtain ⟨Ae, ce, rfl, _⟩ := len_small he
    obtain ⟨An, cn, rfl, _⟩ := len_small hn
    obtain ⟨Ac, cc, rfl, _⟩ := len_small hc
    obtain ⟨Aw, cw, rfl, _⟩ := len_small hw
    exact ⟨⟨s, le, i2, ln, lc, lw, b6⟩, Ae, ce, An, cn, Ac, cc, Aw, cw, rfl, ⟨hs, hi2⟩, he, hn, hc, hw⟩
theorem use_trod {n : Nat} {cs : List Value} {x : DataW H × List MemPlace} (hl : cs.length = 3) (h : DataW.trod enc Tryz.prog w base spare held n 119 cs = some x) : ∃ o, rUse.rep w (fun b => b < w.heap.size) o cs := by
  match cs, hl with
  | [c0, c1, c2], _ =>
    obtain ⟨_, _, h0⟩ := field_trod (i := 0) (ft := 3) h (by kernel_rfl) rfl
    obtain ⟨_, _, h1⟩ := field_trod (i := 1) (ft := 3) h (by kernel_rfl) rfl
    obtain ⟨_, _, h2⟩ := field_trod (i := 2) (ft := 4) h (by kernel_rfl) rfl
    obtain ⟨i0, rfl, hi0⟩ := int_trod (by kernel_rfl) h0
    obtain ⟨i1, rfl, hi1⟩ := int_trod (by kernel_rfl) h1
    obtain ⟨b2, rfl⟩ := bool_trod (by kernel_rfl) h2
    exact ⟨(i0, i1, b2), rfl, hi0, hi1⟩
theorem seam_trod {n : Nat} {cs : List Value} {x : DataW H × List MemPlace} (hl : cs.length = 6) (h : DataW.trod enc Tryz.prog w base spare held n 154 cs = some x) : ∃ o, rSeam.rep w (fun b => b < w.heap.size) o cs := by
  match cs, hl with
  | [c0, c1, c2, c3, c4, c5], _ =>
    obtain ⟨_, _, h0⟩ := field_trod (i := 0) (ft := 3) h (by kernel_rfl) rfl
    obtain ⟨_, _, h1⟩ := field_trod (i := 1) (ft := 3) h (by kernel_rfl) rfl
    obtain ⟨_, _, h2⟩ := field_trod (i := 2) (ft := 3) h (by kernel_rfl) rfl
    obtain ⟨_, _, h3⟩ := field_trod (i := 3) (ft := 3) h (by kernel_rfl) rfl
    obtain ⟨_, _, h4⟩ := field_trod (i := 4) (ft := 4) h (by kernel_rfl) rfl
    obtain ⟨_, _, h5⟩ := field_trod (i := 5) (ft := 3) h (by kernel_rfl) rfl
    obtain ⟨i0, rfl, hi0⟩ := int_trod (by kernel_rfl) h0
    obtain ⟨i1, rfl, hi1⟩ := int_trod (by kernel_rfl) h1
    obtain ⟨i2, rfl, hi2⟩ := int_trod (by kernel_rfl) h2
    obtain ⟨i3, rfl, hi3⟩ := int_trod (by kernel_rfl) h3
    obtain ⟨b4, rfl⟩ := bool_trod (by kernel_rfl) h4
    obtain ⟨i5, rfl, hi5⟩ := int_trod (by kernel_rfl) h5
    exact ⟨(i0, i1, i2, i3, b4, i5), rfl⟩
theorem sty_trod {n : Nat} {cs : List Value} {x : DataW H × List MemPlace} (hl : cs.length = 7) (h : DataW.trod enc Tryz.prog w base spare held n 29 cs = some x) : ∃ s, StyV w w.heap.size (.agg cs.toArray) s := by
  match cs, hl with
  | [c0, c1, c2, c3, c4, c5, c6], _ =>
    obtain ⟨_, _, h0⟩ := field_trod (i := 0) (ft := 9) h (by kernel_rfl) rfl
    obtain ⟨_, _, h1⟩ := field_trod (i := 1) (ft := 22) h (by kernel_rfl) rfl
    obtain ⟨_, _, h2⟩ := field_trod (i := 2) (ft := 23) h (by kernel_rfl) rfl
    obtain ⟨_, _, h3⟩ := field_trod (i := 3) (ft := 24) h (by kernel_rfl) rfl
    obtain ⟨_, _, h4⟩ := field_trod (i := 4) (ft := 25) h (by kernel_rfl) rfl
    obtain ⟨_, _, h5⟩ := field_trod (i := 5) (ft := 26) h (by kernel_rfl) rfl
    obtain ⟨_, _, h6⟩ := field_trod (i := 6) (ft := 27) h (by kernel_rfl) rfl
    obtain ⟨s, rfl, hs⟩ := str_trod (by kernel_rfl) h0
    obtain ⟨l1, k1⟩ := strs_trod h1
    obtain ⟨l2, k2⟩ := ints23 h2
    obtain ⟨l3, k3⟩ := sl_of_trod (R := rPiece) (e := 115) (by kernel_rfl) (by kernel_rfl) (by decide) (fun _ _ _ hl hy => piece_trod hl hy) h3
    obtain ⟨l4, k4⟩ := sl_of_trod (R := rUse) (e := 119) (by kernel_rfl) (by kernel_rfl) (by decide) (fun _ _ _ hl hy => use_trod hl hy) h4
    obtain ⟨l5, k5⟩ := sl_of_trod (R := rSeam) (e := 154) (by kernel_rfl) (by kernel_rfl) (by decide) (fun _ _ _ hl hy => seam_trod hl hy) h5
    obtain ⟨l6, k6⟩ := ops_trod h6
    obtain ⟨A1, d1, rfl, _⟩ := len_small k1
    obtain ⟨A2, d2, rfl, _⟩ := len_small k2
    obtain ⟨A3, d3, rfl, _⟩ := len_small k3
    obtain ⟨A4, d4, rfl, _⟩ := len_small k4
    obtain ⟨A5, d5, rfl, _⟩ := len_small k5
    obtain ⟨A6, d6, rfl, _⟩ := len_small k6
    exact ⟨⟨s, l1, l2, l3, l4, l5, l6⟩, A1, d1, A2, d2, A3, d3, A4, d4, A5, d5, A6, d6, rfl, hs, k1, k2, k3, k4, k5, k6⟩
theorem sty_Trod {v : Value} {d : DataW H} {p : List MemPlace} {cs : Array Value} (hv : v = .agg cs) (hn : cs.size = 7) (h : DataW.Trod enc Tryz.prog w base spare held 29 v d p) : ∃ s, StyV w w.heap.size v s := by
  subst hv
  obtain ⟨fuel, hf⟩ := h
  exact sty_trod (cs := cs.toList) (by simpa using hn) hf
end
end Go.Proofs.YtljibjlkjelpbaaGreatDoor

/- Arguments of the laws of chapter 57: cases, lists of bytes, as they came in. -/
namespace Go.Proofs.YtljibjlkjelpbaaGreatDoor
open Go.ChangeShapes Go.WideShapes Go.ChangeAt Go.RowKit
section
variable {H : Type} {enc : TypeId × Value → H} {w : World} {base : Nat} {spare : Nat → Bool} {held : Bool}
theorem bun_trod {n : Nat} {cs : List Value} {x : DataW H × List MemPlace} (hl : cs.length = 6) (h : DataW.trod enc Tryz.prog w base spare held n 49 cs = some x) : ∃ o, rBun.rep w (fun b => b < w.heap.size) o cs := by
  match cs, hl with
  | [c0, c1, c2, c3, c4, c5], _ =>
    obtain ⟨_, _, h0⟩ := field_trod (i := 0) (ft := 3) h (by kernel_rfl) rfl
    obtain ⟨_, _, h1⟩ := field_trod (i := 1) (ft := 3) h (by kernel_rfl) rfl
    obtain ⟨_, _, h2⟩ := field_trod (i := 2) (ft := 3) h (by kernel_rfl) rfl
    obtain ⟨_, _, h3⟩ := field_trod (i := 3) (ft := 3) h (by kernel_rfl) rfl
    obtain ⟨_, _, h4⟩ := field_trod (i := 4) (ft := 3) h (by kernel_rfl) rfl
    obtain ⟨_, _, h5⟩ := field_trod (i := 5) (ft := 3) h (by kernel_rfl) rfl
    obtain ⟨i0, rfl, hi0⟩ := int_trod (by kernel_rfl) h0
    obtain ⟨i1, rfl, hi1⟩ := int_trod (by kernel_rfl) h1
    obtain ⟨i2, rfl, hi2⟩ := int_trod (by kernel_rfl) h2
    obtain ⟨i3, rfl, hi3⟩ := int_trod (by kernel_rfl) h3
    obtain ⟨i4, rfl, hi4⟩ := int_trod (by kernel_rfl) h4
    obtain ⟨i5, rfl, hi5⟩ := int_trod (by kernel_rfl) h5
    exact ⟨⟨i0, i1, i2, i3, i4, i5⟩, rfl, hi0, hi4, hi5⟩
theorem wrk_trod {n : Nat} {cs : List Value} {x : DataW H × List MemPlace} (hl : cs.length = 2) (h : DataW.trod enc Tryz.prog w base spare held n 87 cs = some x) : ∃ o, rWrk.rep w (fun b => b < w.heap.size) o cs := by
  match cs, hl with
  | [c0, c1], _ =>
    obtain ⟨_, _, h0⟩ := field_trod (i := 0) (ft := 9) h (by kernel_rfl) rfl
    obtain ⟨_, _, h1⟩ := field_trod (i := 1) (ft := 23) h (by kernel_rfl) rfl
    obtain ⟨s, rfl, hs⟩ := str_trod (by kernel_rfl) h0
    obtain ⟨l1, k1⟩ := ints23 h1
    obtain ⟨A1, d1, rfl, _⟩ := len_small k1
    exact ⟨⟨s, l1⟩, A1, d1, rfl, hs, k1⟩
theorem scn_trod {n : Nat} {cs : List Value} {x : DataW H × List MemPlace} (hl : cs.length = 4) (h : DataW.trod enc Tryz.prog w base spare held n 51 cs = some x) : ∃ o, rScn.rep w (fun b => b < w.heap.size) o cs := by
  match cs, hl with
  | [c0, c1, c2, c3], _ =>
    obtain ⟨_, _, h0⟩ := field_trod (i := 0) (ft := 3) h (by kernel_rfl) rfl
    obtain ⟨_, _, h1⟩ := field_trod (i := 1) (ft := 3) h (by kernel_rfl) rfl
    obtain ⟨_, _, h2⟩ := field_trod (i := 2) (ft := 3) h (by kernel_rfl) rfl
    obtain ⟨_, _, h3⟩ := field_trod (i := 3) (ft := 3) h (by kernel_rfl) rfl
    obtain ⟨i0, rfl, hi0⟩ := int_trod (by kernel_rfl) h0
    obtain ⟨i1, rfl, hi1⟩ := int_trod (by kernel_rfl) h1
    obtain ⟨i2, rfl, hi2⟩ := int_trod (by kernel_rfl) h2
    obtain ⟨i3, rfl, hi3⟩ := int_trod (by kernel_rfl) h3
    exact ⟨⟨i0, i1, i2, i3⟩, rfl, hi0, hi1, hi2, hi3⟩
end
end Go.Proofs.YtljibjlkjelpbaaGreatDoor
