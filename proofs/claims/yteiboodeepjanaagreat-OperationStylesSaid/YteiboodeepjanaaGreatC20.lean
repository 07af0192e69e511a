/- Contracts: lists of operations are checked and ordered. -/
import Derived.Test.YteiboodeepjanaaGreatC19
import Derived.Test.YteiboodeepjanaaGreatFwM
namespace Go.Proofs.YteiboodeepjanaaGreat
open Go.RowKit
set_option maxRecDepth 100000
set_option maxHeartbeats 2000000

/-! ### Rows of integers of the function's own -/
def encI (i : Int) : List Value := [.int .i64 i]
theorem flat_encI (o : List Int) : o.flatMap encI = o.map (Value.int .i64) := by
  induction o with
  | nil => rfl
  | cons x o ih => rw [List.flatMap_cons, ih]; rfl
theorem Sl.ownI {w0 w : World} {L L' : List Res} {A : Option Addr} {n c : Nat} {el : TypeId} {o : List Int} (s : St w0 L w) (hp : Pick L (Own A n c el 1 (o.map (Value.int .i64))) L') (hn : n = o.length) (hin : ∀ x ∈ o, inI64 x) : Sl rInt w w.heap.size (.slice A n c) o := by
  rw [← flat_encI] at hp
  exact Sl.own (R := rInt) (enc := encI) s hp hn fun x hx => ⟨rfl, hin x hx⟩
theorem Sl.boxI {w0 w : World} {L L' : List Res} {b : Nat} {bt : TypeId} {n c : Nat} {o : List Int} (s : St w0 L w) (hp : Pick L (Box b bt (o.map (Value.int .i64)).toArray) L') (hn : n = o.length) (hc : n ≤ c) (hc2 : c ≤ 1000000) (hin : ∀ x ∈ o, inI64 x) : Sl rInt w w.heap.size (.slice (some ⟨b, 0, none⟩) n c) o := by
  have hs := s.pick hp
  have hb : b < w.heap.size := (hs.sep.fp _ List.mem_cons_self b rfl).2
  subst hn
  refine ⟨_, c, rfl, hc, by unfold maxLen; omega, fun k hk => ⟨⟨b, 0, none⟩, [.int .i64 o[k]], rfl, hb, fun j u hu => ?_, rfl, hin _ (List.getElem_mem hk)⟩⟩
  cases j with
  | succ j => simp at hu
  | zero =>
    rw [add_zero, show rInt.size = 1 from rfl, Nat.mul_one, Nat.add_zero, Box.cell hs.head k]
    simp at hu
    subst hu
    simp [hk]
section
variable {P : Program} {ops : Array Oper} {Q : Exit → Act → World → Prop} {N : Nat} {w0 : World} {L L' : List Res} {rest : List Oper} {e : Env}
theorem gc_ownbox {code : Code} {A : Option Addr} {n c : Nat} {el : TypeId} {sz : Nat} {xs : List Value} (hn : 0 < n) (hp : Pick L (Own A n c el sz xs) L') (k : ∀ g cs, A = some ⟨g, 0, none⟩ → (n ≤ c ∧ c ≤ maxLen ∧ cs.size = c * sz) → cs.toList.take (n * sz) = xs → GC P Q N w0 (Box g el cs :: L') code e) : GC P Q N w0 L code e := ⟨fun w s => by
  have s1 := s.pick hp
  have hown : w.ownsRow 0 el sz (.slice A n c) n xs := s1.head
  rcases hown.2 with ⟨_, h0⟩ | ⟨g, cap, cur, hv, _, hg, h1, h2, h3, h4⟩
  · omega
  · injection hv with e1 e2 e3
    subst e1 e3
    exact (k g cur rfl ⟨h1, h2, h3⟩ h4).h w (s1.turn (r' := Box g el cur) (Nat.le_refl _) rfl rfl rfl (fun _ _ _ => rfl) hg fun x hx => .inl (by show some g = some x; rw [show x = g from hx]))⟩
end
theorem box_own {g n c : Nat} {el : TypeId} {sz : Nat} {cs : Array Value} {xs : List Value} {L : List Res} (h : n ≤ c ∧ c ≤ maxLen ∧ cs.size = c * sz) (ht : cs.toList.take (n * sz) = xs) : Ent (Box g el cs :: L) (Own (some ⟨g, 0, none⟩) n c el sz xs :: L) := fun w0 w s =>
  s.turn (Nat.le_refl _) rfl rfl rfl (fun _ _ _ => rfl) ⟨by rw [← ht, List.length_take, Array.length_toList, h.2.2]; exact Nat.min_eq_left (Nat.mul_le_mul_right _ h.1), .inr ⟨g, c, cs, rfl, Nat.zero_le _, s.head, h.1, h.2.1, h.2.2, ht⟩⟩ fun x hx => .inl (by
    have : some g = some x := hx
    injection this with this
    exact this.symm)
theorem take_at {cs : Array Value} {n : Nat} {f : Int → Value} {o : List Int} (h : cs.toList.take (n * 1) = o.map f) {k : Nat} (hk : k < o.length) : cs[k * 1]? = some (f o[k]) := by
  have h1 : (cs.toList.take (n * 1))[k]? = some (f o[k]) := by rw [h, List.getElem?_map, List.getElem?_eq_getElem hk]; rfl
  rw [List.getElem?_take] at h1
  split at h1
  · rw [Nat.mul_one, ← Array.getElem?_toList]; exact h1
  · cases h1

theorem arrange_good (w : World) (v : Value) (l : List Opn) (hl : Sl rOp w w.heap.size v l) (h16 : l.length ≤ 16) (hf : fullB l = true) :
    OkM Tryz.prog 45 [v].toArray w (fun x : Option Addr × Nat => .tuple #[.slice x.1 l.length x.2, .bool true]) (fun x => [Own x.1 l.length x.2 3 1 ((sortedL l).map (Value.int .i64))]) := by
  have h := arrange_ok w v l hl h16
  simp only [hf, if_true] at h
  exact h
theorem arrange_bad (w : World) (v : Value) (l : List Opn) (hl : Sl rOp w w.heap.size v l) (h16 : l.length ≤ 16) (hf : fullB l = false) :
    OkM Tryz.prog 45 [v].toArray w (fun x : Option Addr × Nat => .tuple #[.slice x.1 0 x.2, .bool false]) (fun _ => []) := by
  have h := arrange_ok w v l hl h16
  simp only [hf, Bool.false_eq_true, if_false] at h
  exact h

def listE (l : List Opn) (uses : Int) : Int := if 16 < l.length then 5 else if ¬ firstE (opE l uses) l.length = 0 then firstE (opE l uses) l.length else if fullB l = true then 0 else 9

theorem checkList_bad (w : World) (v : Value) (l : List Opn) (uses : Int) (hl : Sl rOp w w.heap.size v l) (hne : ¬ listE l uses = 0) :
    Ok Tryz.prog 32 [v, .int .i64 uses].toArray w fun r _ => r = .tuple #[.slice none 0 0, .int .i64 (listE l uses)] := by
  obtain ⟨A0, c0, rfl, hc, hm⟩ := len_small hl
  refine ok_enter Tryz.func32 rfl Tryz.ntmps32 rfl ?_
  focus (refine gc_seq ?_; refine gc_region ?_; apply gw_d; exact det_m rfl rfl (by conv => (lhs; whnf)); apply gw_d; exact det_m rfl rfl (by conv => (lhs; whnf)); refine gw_nil ?_; refine gx_next ?_; refine gc_seq ?_; refine gc_seq ?_; refine gc_region ?_; apply gw_d; exact det_m rfl rfl (by conv => (lhs; whnf)); apply gw_d; exact w_len rfl rfl rfl; apply gw_d; exact det_cmp rfl rfl rfl rfl rfl; refine gw_nil ?_; refine gx_next ?_)
  refine gc_if_dec rfl (fun h => ?_) (fun h => ?_)
  · focus (refine gc_seq ?_; refine gc_region ?_; apply gw_d; exact det_m rfl rfl (by conv => (lhs; whnf)); apply gw_d; exact det_m rfl rfl (by conv => (lhs; whnf)); refine gw_nil ?_; refine gx_next ?_; refine gc_ret ?_; refine gx_then_ret ?_)
    refine gx_ret2 (u := .slice _ _ _) (v := .int _ _) rfl rfl rfl (fun _ _ => ?_)
    unfold listE
    rw [if_pos (by omega)]
  have h16 : ¬ 16 < l.length := by omega
  focus (refine gc_skip ?_; refine gx_next ?_; refine gc_seq ?_; refine gc_seq ?_; refine gc_region ?_; apply gw_d; exact det_m rfl rfl (by conv => (lhs; whnf)); apply gw_d; exact w_len rfl rfl rfl; apply gw_d; exact det_m rfl rfl (by conv => (lhs; whnf)); refine gw_nil ?_; refine gx_next ?_; refine gc_block ?_)
  refine gc_loop (σ := Nat) [16, 17, 6, 18, 19, 20, 21, 7, 22, 23, 24, 4, 5, 25, 15] (fun k => [(15, .int .i64 k)]) (fun _ => []) (fun k => k ≤ l.length ∧ firstE (opE l uses) k = 0) (fun k => l.length - k) 0 ⟨Nat.zero_le _, rfl⟩ ⟨rfl, trivial⟩ .nil ?_
  rintro k base ⟨hk, hI⟩
  focus (refine gc_seq ?_; refine gc_region ?_; apply gw_d; exact det_cmp rfl rfl rfl rfl rfl; refine gw_nil ?_; refine gx_next ?_; refine gc_seq ?_)
  refine gc_if_dec rfl (fun h => ?_) (fun h => ?_)
  · have hlt : k < l.length := by omega
    focus (refine gc_skip ?_; refine gx_next ?_; refine gc_seq ?_; refine gc_block ?_; refine gc_seq ?_; refine gc_region ?_; apply gw_d; exact det_m rfl rfl (by conv => (lhs; whnf)); apply gw_d; exact det_m rfl rfl (by conv => (lhs; whnf)); refine gw_nil ?_; refine gx_next ?_; refine gc_seq ?_; refine gc_region ?_; apply gw_d; exact det_m rfl rfl (by conv => (lhs; whnf)); apply gw_d; exact det_m rfl rfl (by conv => (lhs; whnf)); apply gw_d; exact det_m rfl rfl (by conv => (lhs; whnf)); apply gw_d; exact w_call rfl rfl (fun w s => checkOne_ok w _ l k uses (hl.later s) hlt) rfl; apply gw_d; exact det_m rfl rfl (by conv => (lhs; whnf)); refine gw_nil ?_; refine gx_next ?_; refine gc_seq ?_; refine gc_region ?_; apply gw_d; exact det_m rfl rfl (by conv => (lhs; whnf)); apply gw_d; exact det_cmp rfl rfl rfl rfl rfl; refine gw_nil ?_; refine gx_next ?_)
    refine gc_if_dec rfl (fun h => ?_) (fun h => ?_)
    · focus (refine gc_seq ?_; refine gc_region ?_; apply gw_d; exact det_m rfl rfl (by conv => (lhs; whnf)); apply gw_d; exact det_m rfl rfl (by conv => (lhs; whnf)); apply gw_d; exact det_m rfl rfl (by conv => (lhs; whnf)); refine gw_nil ?_; refine gx_next ?_; refine gc_ret ?_; refine gx_block_ret ?_; refine gx_then_ret ?_; refine gx_then_ret ?_; refine gx_block_ret ?_; refine gx_then_ret ?_)
      refine gx_ret2 (u := .slice _ _ _) (v := .int _ _) rfl rfl rfl (fun _ _ => ?_)
      have := firstE_stop hI h hlt
      unfold listE
      rw [if_neg h16, this, if_pos h]
    · focus (refine gc_skip ?_; refine gx_block ?_; refine gx_next ?_; refine gc_region ?_; apply gw_d; exact det_ar rfl rfl rfl rfl rfl (by omega); apply gw_d; exact det_m rfl rfl (by conv => (lhs; whnf)); refine gw_nil ?_)
      exact gx_round (k + 1) ⟨by omega, firstE_snoc hI (by simpa using h)⟩ (by omega) (by repeat (first | exact Keeps.refl | refine Keeps.upd rfl ?_ | refine Keeps.sets rfl ?_ | refine Keeps.havoc rfl ?_)) ⟨rfl, trivial⟩ .nil
  obtain rfl : k = l.length := by omega
  have hE : listE l uses = if fullB l = true then 0 else 9 := by unfold listE; rw [if_neg h16, if_neg (by rw [hI]; decide)]
  have hf : fullB l = false := by
    cases hb : fullB l with
    | false => rfl
    | true => rw [hE, hb] at hne; exact absurd rfl hne
  focus (refine gc_exit ?_; refine gx_then_exit ?_; refine gx_then_exit ?_; refine gx_block_exit ?_; refine gx_next ?_; refine gc_seq ?_; refine gc_region ?_; apply gw_d; exact det_m rfl rfl (by conv => (lhs; whnf)))
  refine gw_callm rfl (fun w s => arrange_bad w _ l (hl.later s) (by omega) hf) rfl (fun x => ?_)
  focus (apply gw_d; exact det_m rfl rfl (by conv => (lhs; whnf)); apply gw_d; exact det_extract rfl rfl rfl (by conv => (lhs; whnf)); apply gw_d; exact det_extract rfl rfl rfl (by conv => (lhs; whnf)); apply gw_d; exact det_m rfl rfl (by conv => (lhs; whnf)); apply gw_d; exact det_m rfl rfl (by conv => (lhs; whnf)); refine gw_nil ?_; refine gx_next ?_; refine gc_seq ?_; refine gc_seq ?_; refine gc_region ?_; apply gw_d; exact det_m rfl rfl (by conv => (lhs; whnf)); apply gw_d; exact det_not_ rfl rfl rfl; refine gw_nil ?_; refine gx_next ?_)
  refine gc_if_true rfl ?_
  focus (refine gc_seq ?_; refine gc_region ?_; apply gw_d; exact det_m rfl rfl (by conv => (lhs; whnf)); apply gw_d; exact det_m rfl rfl (by conv => (lhs; whnf)); refine gw_nil ?_; refine gx_next ?_; refine gc_ret ?_; refine gx_then_ret ?_)
  refine gx_ret2 (u := .slice _ _ _) (v := .int _ _) rfl rfl rfl (fun _ _ => ?_)
  rw [hE, hf]
  rfl
theorem checkList_good (w : World) (v : Value) (l : List Opn) (uses : Int) (hl : Sl rOp w w.heap.size v l) (he : listE l uses = 0) :
    OkM Tryz.prog 32 [v, .int .i64 uses].toArray w (fun x : Option Addr × Nat => .tuple #[.slice x.1 l.length x.2, .int .i64 0]) (fun x => [Own x.1 l.length x.2 3 1 ((sortedL l).map (Value.int .i64))]) := by
  obtain ⟨A0, c0, rfl, hc, hm⟩ := len_small hl
  have h16 : ¬ 16 < l.length := fun h => by unfold listE at he; rw [if_pos h] at he; cases he
  have hI0 : firstE (opE l uses) l.length = 0 := by
    unfold listE at he
    rw [if_neg h16] at he
    split at he
    · rename_i h1; exact absurd he h1
    · rename_i h1; simpa using h1
  have hf : fullB l = true := by
    unfold listE at he
    rw [if_neg h16, if_neg (by rw [hI0]; decide)] at he
    split at he
    · assumption
    · cases he
  unfold OkM
  refine ok_enter Tryz.func32 rfl Tryz.ntmps32 rfl ?_
  focus (refine gc_seq ?_; refine gc_region ?_; apply gw_d; exact det_m rfl rfl (by conv => (lhs; whnf)); apply gw_d; exact det_m rfl rfl (by conv => (lhs; whnf)); refine gw_nil ?_; refine gx_next ?_; refine gc_seq ?_; refine gc_seq ?_; refine gc_region ?_; apply gw_d; exact det_m rfl rfl (by conv => (lhs; whnf)); apply gw_d; exact w_len rfl rfl rfl; apply gw_d; exact det_cmp rfl rfl rfl rfl rfl; refine gw_nil ?_; refine gx_next ?_)
  refine gc_if_dec rfl (fun h => by omega) (fun h => ?_)
  focus (refine gc_skip ?_; refine gx_next ?_; refine gc_seq ?_; refine gc_seq ?_; refine gc_region ?_; apply gw_d; exact det_m rfl rfl (by conv => (lhs; whnf)); apply gw_d; exact w_len rfl rfl rfl; apply gw_d; exact det_m rfl rfl (by conv => (lhs; whnf)); refine gw_nil ?_; refine gx_next ?_; refine gc_block ?_)
  refine gc_loop (σ := Nat) [16, 17, 6, 18, 19, 20, 21, 7, 22, 23, 24, 4, 5, 25, 15] (fun k => [(15, .int .i64 k)]) (fun _ => []) (fun k => k ≤ l.length) (fun k => l.length - k) 0 (Nat.zero_le _) ⟨rfl, trivial⟩ .nil ?_
  rintro k base hk
  focus (refine gc_seq ?_; refine gc_region ?_; apply gw_d; exact det_cmp rfl rfl rfl rfl rfl; refine gw_nil ?_; refine gx_next ?_; refine gc_seq ?_)
  refine gc_if_dec rfl (fun h => ?_) (fun h => ?_)
  · have hlt : k < l.length := by omega
    have h0 := firstE_at hI0 k hlt
    focus (refine gc_skip ?_; refine gx_next ?_; refine gc_seq ?_; refine gc_block ?_; refine gc_seq ?_; refine gc_region ?_; apply gw_d; exact det_m rfl rfl (by conv => (lhs; whnf)); apply gw_d; exact det_m rfl rfl (by conv => (lhs; whnf)); refine gw_nil ?_; refine gx_next ?_; refine gc_seq ?_; refine gc_region ?_; apply gw_d; exact det_m rfl rfl (by conv => (lhs; whnf)); apply gw_d; exact det_m rfl rfl (by conv => (lhs; whnf)); apply gw_d; exact det_m rfl rfl (by conv => (lhs; whnf)); apply gw_d; exact w_call rfl rfl (fun w s => checkOne_ok w _ l k uses (hl.later s) hlt) rfl; apply gw_d; exact det_m rfl rfl (by conv => (lhs; whnf)); refine gw_nil ?_; refine gx_next ?_; refine gc_seq ?_; refine gc_region ?_; apply gw_d; exact det_m rfl rfl (by conv => (lhs; whnf)); apply gw_d; exact det_cmp rfl rfl rfl rfl rfl; refine gw_nil ?_; refine gx_next ?_)
    refine gc_if_dec rfl (fun h => absurd h0 h) (fun h => ?_)
    focus (refine gc_skip ?_; refine gx_block ?_; refine gx_next ?_; refine gc_region ?_; apply gw_d; exact det_ar rfl rfl rfl rfl rfl (by omega); apply gw_d; exact det_m rfl rfl (by conv => (lhs; whnf)); refine gw_nil ?_)
    exact gx_round (k + 1) hlt (by omega) (by repeat (first | exact Keeps.refl | refine Keeps.upd rfl ?_ | refine Keeps.sets rfl ?_ | refine Keeps.havoc rfl ?_)) ⟨rfl, trivial⟩ .nil
  obtain rfl : k = l.length := by omega
  focus (refine gc_exit ?_; refine gx_then_exit ?_; refine gx_then_exit ?_; refine gx_block_exit ?_; refine gx_next ?_; refine gc_seq ?_; refine gc_region ?_; apply gw_d; exact det_m rfl rfl (by conv => (lhs; whnf)))
  refine gw_callm rfl (fun w s => arrange_good w _ l (hl.later s) (by omega) hf) rfl (fun x => ?_)
  focus (apply gw_d; exact det_m rfl rfl (by conv => (lhs; whnf)); apply gw_d; exact det_extract rfl rfl rfl (by conv => (lhs; whnf)); apply gw_d; exact det_extract rfl rfl rfl (by conv => (lhs; whnf)); apply gw_d; exact det_m rfl rfl (by conv => (lhs; whnf)); apply gw_d; exact det_m rfl rfl (by conv => (lhs; whnf)); refine gw_nil ?_; refine gx_next ?_; refine gc_seq ?_; refine gc_seq ?_; refine gc_region ?_; apply gw_d; exact det_m rfl rfl (by conv => (lhs; whnf)); apply gw_d; exact det_not_ rfl rfl rfl; refine gw_nil ?_; refine gx_next ?_)
  refine gc_if_false rfl ?_
  focus (refine gc_skip ?_; refine gx_next ?_; refine gc_seq ?_; refine gc_region ?_; apply gw_d; exact det_m rfl rfl (by conv => (lhs; whnf)); apply gw_d; exact det_m rfl rfl (by conv => (lhs; whnf)); apply gw_d; exact det_m rfl rfl (by conv => (lhs; whnf)); refine gw_nil ?_; refine gx_next ?_; refine gc_ret ?_)
  exact gx_ret2 (u := .slice _ _ _) (v := .int _ _) rfl rfl rfl (fun w' s => ⟨x, rfl, s.sep⟩)

end Go.Proofs.YteiboodeepjanaaGreat
