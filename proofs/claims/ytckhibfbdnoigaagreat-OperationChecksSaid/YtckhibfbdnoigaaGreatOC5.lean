/- Texts in one file: C20 CH R1 RC RD RE RF RG RH C16 RI. -/
import Derived.Test.YtckhibfbdnoigaaGreatOC4
import Derived.Test.YtckhibfbdnoigaaGreatOC2
import Derived.Test.YtckhibfbdnoigaaGreatOC3
/- Contracts: lists of operations are checked and ordered. -/
namespace Go.Proofs.YtckhibfbdnoigaaGreat
open Go.RowKit
set_option maxRecDepth 100000
set_option maxHeartbeats 2000000

/-! ### Rows of integers of the function's own -/
def encI (i : Int) : List Value := [.int .i64 i]
theorem flat_encI (o : List Int) : o.flatMap encI = o.map (Value.int .i64) := by
  induction o with
  | nil => rfl
  | cons x o ih => rw [List.flatMap_cons, ih]; rfl
theorem Sl.ownI {w0 w : World} {L L' : List Res} {A : Option Addr} {n c : Nat} {el : TypeId} {o : List Int} (s : St w0 L w) (hp : Pick L (Own A n c el 1 (o.map (Value.int .i64))) L') (hn : n = o.length) (hin : ∀ x ∈ o, inI64 x) : Sl rInt w w.heap.size (.slice A n c) o := by
  rw [← flat_encI] at hp
  exact Sl.own (R := rInt) (enc := encI) s hp hn fun x hx => ⟨rfl, hin x hx⟩
theorem Sl.boxI {w0 w : World} {L L' : List Res} {b : Nat} {bt : TypeId} {n c : Nat} {o : List Int} (s : St w0 L w) (hp : Pick L (Box b bt (o.map (Value.int .i64)).toArray) L') (hn : n = o.length) (hc : n ≤ c) (hc2 : c ≤ 1000000) (hin : ∀ x ∈ o, inI64 x) : Sl rInt w w.heap.size (.slice (some ⟨b, 0, none⟩) n c) o := by
  have hs := s.pick hp
  have hb : b < w.heap.size := (hs.sep.fp _ List.mem_cons_self b rfl).2
  subst hn
  refine ⟨_, c, rfl, hc, by unfold maxLen; omega, fun k hk => ⟨⟨b, 0, none⟩, [.int .i64 o[k]], rfl, hb, fun j u hu => ?_, rfl, hin _ (List.getElem_mem hk)⟩⟩
  cases j with
  | succ j => simp at hu
  | zero =>
    rw [add_zero, show rInt.size = 1 from rfl, Nat.mul_one, Nat.add_zero, Box.cell hs.head k]
    simp at hu
    subst hu
    simp [hk]
section
variable {P : Program} {ops : Array Oper} {Q : Exit → Act → World → Prop} {N : Nat} {w0 : World} {L L' : List Res} {rest : List Oper} {e : Env}
theorem gc_ownbox {code : Code} {A : Option Addr} {n c : Nat} {el : TypeId} {sz : Nat} {xs : List Value} (hn : 0 < n) (hp : Pick L (Own A n c el sz xs) L') (k : ∀ g cs, A = some ⟨g, 0, none⟩ → (n ≤ c ∧ c ≤ maxLen ∧ cs.size = c * sz) → cs.toList.take (n * sz) = xs → GC P Q N w0 (Box g el cs :: L') code e) : GC P Q N w0 L code e := ⟨fun w s => by
  have s1 := s.pick hp
  have hown : w.ownsRow 0 el sz (.slice A n c) n xs := s1.head
  rcases hown.2 with ⟨_, h0⟩ | ⟨g, cap, cur, hv, _, hg, h1, h2, h3, h4⟩
  · omega
  · injection hv with e1 e2 e3
    subst e1 e3
    exact (k g cur rfl ⟨h1, h2, h3⟩ h4).h w (s1.turn (r' := Box g el cur) (Nat.le_refl _) rfl rfl rfl (fun _ _ _ => rfl) hg fun x hx => .inl (by show some g = some x; rw [show x = g from hx]))⟩
end
theorem box_own {g n c : Nat} {el : TypeId} {sz : Nat} {cs : Array Value} {xs : List Value} {L : List Res} (h : n ≤ c ∧ c ≤ maxLen ∧ cs.size = c * sz) (ht : cs.toList.take (n * sz) = xs) : Ent (Box g el cs :: L) (Own (some ⟨g, 0, none⟩) n c el sz xs :: L) := fun w0 w s =>
  s.turn (Nat.le_refl _) rfl rfl rfl (fun _ _ _ => rfl) ⟨by rw [← ht, List.length_take, Array.length_toList, h.2.2]; exact Nat.min_eq_left (Nat.mul_le_mul_right _ h.1), .inr ⟨g, c, cs, rfl, Nat.zero_le _, s.head, h.1, h.2.1, h.2.2, ht⟩⟩ fun x hx => .inl (by
    have : some g = some x := hx
    injection this with this
    exact this.symm)
theorem take_at {cs : Array Value} {n : Nat} {f : Int → Value} {o : List Int} (h : cs.toList.take (n * 1) = o.map f) {k : Nat} (hk : k < o.length) : cs[k * 1]? = some (f o[k]) := by
  have h1 : (cs.toList.take (n * 1))[k]? = some (f o[k]) := by rw [h, List.getElem?_map, List.getElem?_eq_getElem hk]; rfl
  rw [List.getElem?_take] at h1
  split at h1
  · rw [Nat.mul_one, ← Array.getElem?_toList]; exact h1
  · cases h1

theorem arrange_good (w : World) (v : Value) (l : List Opn) (hl : Sl rOp w w.heap.size v l) (h16 : l.length ≤ 16) (hf : fullB l = true) :
    OkM Tryz.prog 57 [v].toArray w (fun x : Option Addr × Nat => .tuple #[.slice x.1 l.length x.2, .bool true]) (fun x => [Own x.1 l.length x.2 3 1 ((sortedL l).map (Value.int .i64))]) := by
  have h := arrange_ok w v l hl h16
  simp only [hf, if_true] at h
  exact h
theorem arrange_bad (w : World) (v : Value) (l : List Opn) (hl : Sl rOp w w.heap.size v l) (h16 : l.length ≤ 16) (hf : fullB l = false) :
    OkM Tryz.prog 57 [v].toArray w (fun x : Option Addr × Nat => .tuple #[.slice x.1 0 x.2, .bool false]) (fun _ => []) := by
  have h := arrange_ok w v l hl h16
  simp only [hf, Bool.false_eq_true, if_false] at h
  exact h

def listE (l : List Opn) (uses : Int) : Int := if 16 < l.length then 5 else if ¬ firstE (opE l uses) l.length = 0 then firstE (opE l uses) l.length else if fullB l = true then 0 else 9

theorem checkList_bad (w : World) (v : Value) (l : List Opn) (uses : Int) (hl : Sl rOp w w.heap.size v l) (hne : ¬ listE l uses = 0) :
    Ok Tryz.prog 29 [v, .int .i64 uses].toArray w fun r _ => r = .tuple #[.slice none 0 0, .int .i64 (listE l uses)] := by
  obtain ⟨A0, c0, rfl, hc, hm⟩ := len_small hl
  refine ok_enter Tryz.func29 rfl Tryz.ntmps29 rfl ?_
  focus (refine gc_seq ?_; refine gc_region ?_; refine gM rfl rfl (by conv => (lhs; whnf)) ?_; refine gM rfl rfl (by conv => (lhs; whnf)) ?_; refine gO ?_; refine gc_seq ?_; refine gc_seq ?_; refine gc_region ?_; refine gM rfl rfl (by conv => (lhs; whnf)) ?_; refine gL rfl rfl rfl ?_; refine gC rfl rfl rfl rfl rfl ?_; refine gO ?_)
  refine gc_if_dec rfl (fun h => ?_) (fun h => ?_)
  · focus (refine gc_seq ?_; refine gc_region ?_; refine gM rfl rfl (by conv => (lhs; whnf)) ?_; refine gM rfl rfl (by conv => (lhs; whnf)) ?_; refine gO ?_; refine gc_ret ?_; refine gx_then_ret ?_)
    refine gx_ret2 (u := .slice _ _ _) (v := .int _ _) rfl rfl rfl (fun _ _ => ?_)
    unfold listE
    rw [if_pos (by omega)]
  have h16 : ¬ 16 < l.length := by omega
  focus (refine gc_skip ?_; refine gx_next ?_; refine gc_seq ?_; refine gc_seq ?_; refine gc_region ?_; refine gM rfl rfl (by conv => (lhs; whnf)) ?_; refine gL rfl rfl rfl ?_; refine gM rfl rfl (by conv => (lhs; whnf)) ?_; refine gO ?_; refine gc_block ?_)
  refine gc_loop (σ := Nat) [16, 17, 6, 18, 19, 20, 21, 7, 22, 23, 24, 4, 5, 25, 15] (fun k => [(15, .int .i64 k)]) (fun _ => []) (fun k => k ≤ l.length ∧ firstE (opE l uses) k = 0) (fun k => l.length - k) 0 ⟨Nat.zero_le _, rfl⟩ ⟨rfl, trivial⟩ .nil ?_
  rintro k base ⟨hk, hI⟩
  focus (refine gc_seq ?_; refine gc_region ?_; refine gC rfl rfl rfl rfl rfl ?_; refine gO ?_; refine gc_seq ?_)
  refine gc_if_dec rfl (fun h => ?_) (fun h => ?_)
  · have hlt : k < l.length := by omega
    focus (refine gc_skip ?_; refine gx_next ?_; refine gc_seq ?_; refine gc_block ?_; refine gc_seq ?_; refine gc_region ?_; refine gM rfl rfl (by conv => (lhs; whnf)) ?_; refine gM rfl rfl (by conv => (lhs; whnf)) ?_; refine gN ?_; refine gM rfl rfl (by conv => (lhs; whnf)) ?_; refine gM rfl rfl (by conv => (lhs; whnf)) ?_; refine gM rfl rfl (by conv => (lhs; whnf)) ?_; apply gw_d; exact w_call rfl rfl (fun w s => checkOne_ok w _ l k uses (hl.later s) hlt) rfl; refine gM rfl rfl (by conv => (lhs; whnf)) ?_; refine gN ?_; refine gM rfl rfl (by conv => (lhs; whnf)) ?_; refine gC rfl rfl rfl rfl rfl ?_; refine gO ?_)
    refine gc_if_dec rfl (fun h => ?_) (fun h => ?_)
    · focus (refine gc_seq ?_; refine gc_region ?_; refine gM rfl rfl (by conv => (lhs; whnf)) ?_; refine gM rfl rfl (by conv => (lhs; whnf)) ?_; refine gM rfl rfl (by conv => (lhs; whnf)) ?_; refine gO ?_; refine gc_ret ?_; refine gx_block_ret ?_; refine gx_then_ret ?_; refine gx_then_ret ?_; refine gx_block_ret ?_; refine gx_then_ret ?_)
      refine gx_ret2 (u := .slice _ _ _) (v := .int _ _) rfl rfl rfl (fun _ _ => ?_)
      have := firstE_stop hI h hlt
      unfold listE
      rw [if_neg h16, this, if_pos h]
    · focus (refine gc_skip ?_; refine gx_block ?_; refine gx_next ?_; refine gc_region ?_; apply gw_d; exact det_ar rfl rfl rfl rfl rfl (by omega); refine gM rfl rfl (by conv => (lhs; whnf)) ?_; refine gw_nil ?_)
      exact gx_round (k + 1) ⟨by omega, firstE_snoc hI (by simpa using h)⟩ (by omega) (by repeat (first | exact Keeps.refl | refine Keeps.upd rfl ?_ | refine Keeps.sets rfl ?_ | refine Keeps.havoc rfl ?_)) ⟨rfl, trivial⟩ .nil
  obtain rfl : k = l.length := by omega
  have hE : listE l uses = if fullB l = true then 0 else 9 := by unfold listE; rw [if_neg h16, if_neg (by rw [hI]; decide)]
  have hf : fullB l = false := by
    cases hb : fullB l with
    | false => rfl
    | true => rw [hE, hb] at hne; exact absurd rfl hne
  focus (refine gc_exit ?_; refine gx_then_exit ?_; refine gx_then_exit ?_; refine gx_block_exit ?_; refine gx_next ?_; refine gc_seq ?_; refine gc_region ?_; refine gM rfl rfl (by conv => (lhs; whnf)) ?_)
  refine gw_callm rfl (fun w s => arrange_bad w _ l (hl.later s) (by omega) hf) rfl (fun x => ?_)
  focus (refine gM rfl rfl (by conv => (lhs; whnf)) ?_; apply gw_d; exact det_extract rfl rfl rfl (by conv => (lhs; whnf)); apply gw_d; exact det_extract rfl rfl rfl (by conv => (lhs; whnf)); refine gM rfl rfl (by conv => (lhs; whnf)) ?_; refine gM rfl rfl (by conv => (lhs; whnf)) ?_; refine gO ?_; refine gc_seq ?_; refine gc_seq ?_; refine gc_region ?_; refine gM rfl rfl (by conv => (lhs; whnf)) ?_; apply gw_d; exact det_not_ rfl rfl rfl; refine gO ?_)
  refine gc_if_true rfl ?_
  focus (refine gc_seq ?_; refine gc_region ?_; refine gM rfl rfl (by conv => (lhs; whnf)) ?_; refine gM rfl rfl (by conv => (lhs; whnf)) ?_; refine gO ?_; refine gc_ret ?_; refine gx_then_ret ?_)
  refine gx_ret2 (u := .slice _ _ _) (v := .int _ _) rfl rfl rfl (fun _ _ => ?_)
  rw [hE, hf]
  rfl
theorem checkList_good (w : World) (v : Value) (l : List Opn) (uses : Int) (hl : Sl rOp w w.heap.size v l) (he : listE l uses = 0) :
    OkM Tryz.prog 29 [v, .int .i64 uses].toArray w (fun x : Option Addr × Nat => .tuple #[.slice x.1 l.length x.2, .int .i64 0]) (fun x => [Own x.1 l.length x.2 3 1 ((sortedL l).map (Value.int .i64))]) := by
  obtain ⟨A0, c0, rfl, hc, hm⟩ := len_small hl
  have h16 : ¬ 16 < l.length := fun h => by unfold listE at he; rw [if_pos h] at he; cases he
  have hI0 : firstE (opE l uses) l.length = 0 := by
    unfold listE at he
    rw [if_neg h16] at he
    split at he
    · rename_i h1; exact absurd he h1
    · rename_i h1; simpa using h1
  have hf : fullB l = true := by
    unfold listE at he
    rw [if_neg h16, if_neg (by rw [hI0]; decide)] at he
    split at he
    · assumption
    · cases he
  unfold OkM
  refine ok_enter Tryz.func29 rfl Tryz.ntmps29 rfl ?_
  focus (refine gc_seq ?_; refine gc_region ?_; refine gM rfl rfl (by conv => (lhs; whnf)) ?_; refine gM rfl rfl (by conv => (lhs; whnf)) ?_; refine gO ?_; refine gc_seq ?_; refine gc_seq ?_; refine gc_region ?_; refine gM rfl rfl (by conv => (lhs; whnf)) ?_; refine gL rfl rfl rfl ?_; refine gC rfl rfl rfl rfl rfl ?_; refine gO ?_)
  refine gc_if_dec rfl (fun h => by omega) (fun h => ?_)
  focus (refine gc_skip ?_; refine gx_next ?_; refine gc_seq ?_; refine gc_seq ?_; refine gc_region ?_; refine gM rfl rfl (by conv => (lhs; whnf)) ?_; refine gL rfl rfl rfl ?_; refine gM rfl rfl (by conv => (lhs; whnf)) ?_; refine gO ?_; refine gc_block ?_)
  refine gc_loop (σ := Nat) [16, 17, 6, 18, 19, 20, 21, 7, 22, 23, 24, 4, 5, 25, 15] (fun k => [(15, .int .i64 k)]) (fun _ => []) (fun k => k ≤ l.length) (fun k => l.length - k) 0 (Nat.zero_le _) ⟨rfl, trivial⟩ .nil ?_
  rintro k base hk
  focus (refine gc_seq ?_; refine gc_region ?_; refine gC rfl rfl rfl rfl rfl ?_; refine gO ?_; refine gc_seq ?_)
  refine gc_if_dec rfl (fun h => ?_) (fun h => ?_)
  · have hlt : k < l.length := by omega
    have h0 := firstE_at hI0 k hlt
    focus (refine gc_skip ?_; refine gx_next ?_; refine gc_seq ?_; refine gc_block ?_; refine gc_seq ?_; refine gc_region ?_; refine gM rfl rfl (by conv => (lhs; whnf)) ?_; refine gM rfl rfl (by conv => (lhs; whnf)) ?_; refine gN ?_; refine gM rfl rfl (by conv => (lhs; whnf)) ?_; refine gM rfl rfl (by conv => (lhs; whnf)) ?_; refine gM rfl rfl (by conv => (lhs; whnf)) ?_; apply gw_d; exact w_call rfl rfl (fun w s => checkOne_ok w _ l k uses (hl.later s) hlt) rfl; refine gM rfl rfl (by conv => (lhs; whnf)) ?_; refine gN ?_; refine gM rfl rfl (by conv => (lhs; whnf)) ?_; refine gC rfl rfl rfl rfl rfl ?_; refine gO ?_)
    refine gc_if_dec rfl (fun h => absurd h0 h) (fun h => ?_)
    focus (refine gc_skip ?_; refine gx_block ?_; refine gx_next ?_; refine gc_region ?_; apply gw_d; exact det_ar rfl rfl rfl rfl rfl (by omega); refine gM rfl rfl (by conv => (lhs; whnf)) ?_; refine gw_nil ?_)
    exact gx_round (k + 1) hlt (by omega) (by repeat (first | exact Keeps.refl | refine Keeps.upd rfl ?_ | refine Keeps.sets rfl ?_ | refine Keeps.havoc rfl ?_)) ⟨rfl, trivial⟩ .nil
  obtain rfl : k = l.length := by omega
  focus (refine gc_exit ?_; refine gx_then_exit ?_; refine gx_then_exit ?_; refine gx_block_exit ?_; refine gx_next ?_; refine gc_seq ?_; refine gc_region ?_; refine gM rfl rfl (by conv => (lhs; whnf)) ?_)
  refine gw_callm rfl (fun w s => arrange_good w _ l (hl.later s) (by omega) hf) rfl (fun x => ?_)
  focus (refine gM rfl rfl (by conv => (lhs; whnf)) ?_; apply gw_d; exact det_extract rfl rfl rfl (by conv => (lhs; whnf)); apply gw_d; exact det_extract rfl rfl rfl (by conv => (lhs; whnf)); refine gM rfl rfl (by conv => (lhs; whnf)) ?_; refine gM rfl rfl (by conv => (lhs; whnf)) ?_; refine gO ?_; refine gc_seq ?_; refine gc_seq ?_; refine gc_region ?_; refine gM rfl rfl (by conv => (lhs; whnf)) ?_; apply gw_d; exact det_not_ rfl rfl rfl; refine gO ?_)
  refine gc_if_false rfl ?_
  focus (refine gc_skip ?_; refine gx_next ?_; refine gc_seq ?_; refine gc_region ?_; refine gM rfl rfl (by conv => (lhs; whnf)) ?_; refine gM rfl rfl (by conv => (lhs; whnf)) ?_; refine gM rfl rfl (by conv => (lhs; whnf)) ?_; refine gO ?_; refine gc_ret ?_)
  exact gx_ret2 (u := .slice _ _ _) (v := .int _ _) rfl rfl rfl (fun w' s => ⟨x, rfl, s.sep⟩)

end Go.Proofs.YtckhibfbdnoigaaGreat

/- Contracts: small functions of the reference. -/
namespace Go.Proofs.YtckhibfbdnoigaaGreat
open Go.RowKit
set_option maxRecDepth 100000
set_option maxHeartbeats 2000000

theorem has_ok (w : World) (v : Value) (l : List Int) (x : Int) (hl : Sl rInt w w.heap.size v l) : Ok Tryz.prog 33 [v, .int .i64 x].toArray w fun r _ => r = .bool (hasB l x) := by
  obtain ⟨A, c, rfl, hc, hm, hcell⟩ := hl.int
  refine ok_enter Tryz.func33 rfl Tryz.ntmps33 rfl ?_
  focus (refine gc_seq ?_; refine gc_region ?_; refine gM rfl rfl (by conv => (lhs; whnf)) ?_; refine gO ?_; refine gc_seq ?_; refine gc_seq ?_; refine gc_region ?_; refine gM rfl rfl (by conv => (lhs; whnf)) ?_; refine gO ?_; refine gc_block ?_)
  refine gc_loop (σ := Nat) [6, 7, 8, 9, 12, 13, 14, 15, 16, 17, 4, 10, 11, 5] (fun k => [(5, .int .i64 k)]) (fun _ => []) (fun k => k ≤ l.length ∧ hasB (l.take k) x = false) (fun k => l.length - k) 0 ⟨Nat.zero_le _, rfl⟩ ⟨rfl, trivial⟩ .nil ?_
  rintro k base ⟨hk, hI⟩
  focus (refine gc_seq ?_; refine gc_seq ?_; refine gc_region ?_; refine gM rfl rfl (by conv => (lhs; whnf)) ?_; refine gM rfl rfl (by conv => (lhs; whnf)) ?_; refine gL rfl rfl rfl ?_; refine gC rfl rfl rfl rfl rfl ?_; refine gO ?_)
  refine gc_if_dec rfl (fun h => ?_) (fun h => ?_)
  · have hlt : k < l.length := by omega
    obtain ⟨ad, rfl, hb, hce, hi⟩ := hcell k hlt
    focus (refine gc_skip ?_; refine gx_next ?_; refine gc_seq ?_; refine gc_block ?_; refine gc_seq ?_; refine gc_region ?_; refine gM rfl rfl (by conv => (lhs; whnf)) ?_; refine gM rfl rfl (by conv => (lhs; whnf)) ?_; apply gw_d; exact w_index rfl rfl rfl rfl (by with_reducible exact rfl) (by omega); apply gw_d; exact w_load_at rfl rfl rfl (by assumption) (by assumption); refine gM rfl rfl (by conv => (lhs; whnf)) ?_; refine gC rfl rfl rfl rfl rfl ?_; refine gO ?_)
    refine gc_if_dec rfl (fun h => ?_) (fun h => ?_)
    · focus (refine gc_seq ?_; refine gc_region ?_; refine gM rfl rfl (by conv => (lhs; whnf)) ?_; refine gO ?_; refine gc_ret ?_; refine gx_block_ret ?_; refine gx_then_ret ?_; refine gx_then_ret ?_; refine gx_block_ret ?_; refine gx_then_ret ?_)
      refine gx_ret1 (v := .bool _) rfl rfl (fun _ _ => ?_)
      rw [hasB_iff.2 (by rw [← h]; exact List.getElem_mem hlt)]
    · focus (refine gc_skip ?_; refine gx_block ?_; refine gx_next ?_; refine gc_region ?_; refine gM rfl rfl (by conv => (lhs; whnf)) ?_; apply gw_d; exact det_ar rfl rfl rfl rfl rfl (by omega); refine gM rfl rfl (by conv => (lhs; whnf)) ?_; refine gw_nil ?_)
      refine gx_round (k + 1) ⟨hlt, ?_⟩ (by omega) (by repeat (first | exact Keeps.refl | refine Keeps.upd rfl ?_ | refine Keeps.sets rfl ?_ | refine Keeps.havoc rfl ?_)) ⟨rfl, trivial⟩ .nil
      rw [List.take_succ_eq_append_getElem hlt, hasB_snoc, hI]
      simpa using h
  · focus (refine gc_exit ?_; refine gx_then_exit ?_; refine gx_then_exit ?_; refine gx_block_exit ?_; refine gx_next ?_; refine gc_seq ?_; refine gc_region ?_; refine gM rfl rfl (by conv => (lhs; whnf)) ?_; refine gO ?_; refine gc_ret ?_)
    refine gx_ret1 (v := .bool _) rfl rfl (fun _ _ => ?_)
    rw [List.take_of_length_le (by omega)] at hI
    rw [hI]
theorem withinL_ok (w : World) (v : Value) (l : List Int) (n : Int) (hl : Sl rInt w w.heap.size v l) : Ok Tryz.prog 64 [v, .int .i64 n].toArray w fun r _ => r = .bool (areIx l n) := by
  obtain ⟨A, c, rfl, hc, hm, hcell⟩ := hl.int
  refine ok_enter Tryz.func64 rfl Tryz.ntmps64 rfl ?_
  focus (refine gc_seq ?_; refine gc_region ?_; refine gM rfl rfl (by conv => (lhs; whnf)) ?_; refine gO ?_; refine gc_seq ?_; refine gc_seq ?_; refine gc_region ?_; refine gM rfl rfl (by conv => (lhs; whnf)) ?_; refine gO ?_; refine gc_block ?_)
  refine gc_loop (σ := Nat) [6, 7, 8, 9, 12, 13, 14, 15, 16, 17, 18, 19, 20, 21, 22, 23, 24, 4, 10, 11, 5] (fun k => [(5, .int .i64 k)]) (fun _ => []) (fun k => k ≤ l.length ∧ areIx (l.take k) n = true) (fun k => l.length - k) 0 ⟨Nat.zero_le _, rfl⟩ ⟨rfl, trivial⟩ .nil ?_
  rintro k base ⟨hk, hI⟩
  focus (refine gc_seq ?_; refine gc_seq ?_; refine gc_region ?_; refine gM rfl rfl (by conv => (lhs; whnf)) ?_; refine gM rfl rfl (by conv => (lhs; whnf)) ?_; refine gL rfl rfl rfl ?_; refine gC rfl rfl rfl rfl rfl ?_; refine gO ?_)
  refine gc_if_dec rfl (fun h => ?_) (fun h => ?_)
  · have hlt : k < l.length := by omega
    obtain ⟨ad, rfl, hb, hce, hi⟩ := hcell k hlt
    focus (refine gc_skip ?_; refine gx_next ?_; refine gc_seq ?_; refine gc_block ?_; refine gc_seq ?_; refine gc_region ?_; refine gM rfl rfl (by conv => (lhs; whnf)) ?_; refine gM rfl rfl (by conv => (lhs; whnf)) ?_; apply gw_d; exact w_index rfl rfl rfl rfl (by with_reducible exact rfl) (by omega); apply gw_d; exact w_load_at rfl rfl rfl (by assumption) (by assumption); refine gC rfl rfl rfl rfl rfl ?_; refine gM rfl rfl (by conv => (lhs; whnf)) ?_; refine gw_guard_dec rfl rfl (fun _ => ?_) (fun _ => ?_); refine gU rfl ?_; refine gU rfl ?_; refine gU rfl ?_; refine gU rfl ?_; refine gU rfl ?_; refine gU rfl ?_; apply gw_d; exact det_pick_t (v := .bool _) rfl rfl rfl rfl; refine gO ?_; refine gc_if_true rfl ?_; refine gc_seq ?_; refine gc_region ?_; refine gM rfl rfl (by conv => (lhs; whnf)) ?_; refine gO ?_; refine gc_ret ?_; refine gx_block_ret ?_; refine gx_then_ret ?_; refine gx_then_ret ?_; refine gx_block_ret ?_; refine gx_then_ret ?_; rotate_left; refine gM rfl rfl (by conv => (lhs; whnf)) ?_; refine gM rfl rfl (by conv => (lhs; whnf)) ?_; apply gw_d; exact w_index rfl rfl rfl rfl (by with_reducible exact rfl) (by omega); apply gw_d; exact w_load_at rfl rfl rfl (by assumption) (by assumption); refine gM rfl rfl (by conv => (lhs; whnf)) ?_; refine gC rfl rfl rfl rfl rfl ?_; apply gw_d; exact det_pick_f (v := .bool _) rfl rfl rfl rfl; refine gO ?_; refine gc_if_dec rfl (fun _ => ?_) (fun _ => ?_); refine gc_seq ?_; refine gc_region ?_; refine gM rfl rfl (by conv => (lhs; whnf)) ?_; refine gO ?_; refine gc_ret ?_; refine gx_block_ret ?_; refine gx_then_ret ?_; refine gx_then_ret ?_; refine gx_block_ret ?_; refine gx_then_ret ?_; rotate_left; refine gc_skip ?_; refine gx_block ?_; refine gx_next ?_; refine gc_region ?_; refine gM rfl rfl (by conv => (lhs; whnf)) ?_; apply gw_d; exact det_ar rfl rfl rfl rfl rfl (by omega); refine gM rfl rfl (by conv => (lhs; whnf)) ?_; refine gw_nil ?_; rotate_left)
    · refine gx_ret1 (v := .bool _) rfl rfl (fun _ _ => ?_)
      rw [areIx_no hlt (by omega)]
    · refine gx_ret1 (v := .bool _) rfl rfl (fun _ _ => ?_)
      rw [areIx_no hlt (by omega)]
    · exact gx_round (k + 1) ⟨by omega, areIx_snoc hlt hI (by omega) (by omega)⟩ (by omega) (by repeat (first | exact Keeps.refl | refine Keeps.upd rfl ?_ | refine Keeps.sets rfl ?_ | refine Keeps.havoc rfl ?_)) ⟨rfl, trivial⟩ .nil
  · focus (refine gc_exit ?_; refine gx_then_exit ?_; refine gx_then_exit ?_; refine gx_block_exit ?_; refine gx_next ?_; refine gc_seq ?_; refine gc_region ?_; refine gM rfl rfl (by conv => (lhs; whnf)) ?_; refine gO ?_; refine gc_ret ?_)
    refine gx_ret1 (v := .bool _) rfl rfl (fun _ _ => ?_)
    rw [List.take_of_length_le (by omega)] at hI
    rw [hI]

/-! ### The order, step by step -/
theorem arr_mem {l : List Opn} : ∀ (f : Nat) (o : List Int), (∀ x ∈ o, 0 ≤ x ∧ x < l.length) → ∀ x ∈ arr l f o, 0 ≤ x ∧ x < l.length
  | 0, o, h => h
  | f + 1, o, h => by
    show ∀ x ∈ (match nextOf l o with | some i => arr l f (o ++ [(i : Int)]) | none => o), _
    cases hn : nextOf l o with
    | none => exact h
    | some i =>
      have hi : i < l.length := List.mem_range.1 (List.mem_of_find?_eq_some hn)
      refine arr_mem f _ fun x hx => ?_
      rcases List.mem_append.1 hx with h1 | h1
      · exact h x h1
      · rw [List.mem_singleton] at h1; omega
theorem sorted_mem {l : List Opn} : ∀ x ∈ sortedL l, 0 ≤ x ∧ x < l.length := arr_mem _ _ fun x hx => by cases hx
end Go.Proofs.YtckhibfbdnoigaaGreat

/- Contracts: the reference of chapter 45, names and single operations. -/
namespace Go.Proofs.YtckhibfbdnoigaaGreat
open Go.RowKit
set_option maxRecDepth 100000
set_option maxHeartbeats 4000000

theorem rdigit_ok (w : World) (c : Int) : Ok Tryz.prog 87 [.int .u8 c].toArray w fun r _ => r = .bool (decide (48 ≤ c ∧ c ≤ 57)) := by
  refine ok_enter Tryz.func87 rfl Tryz.ntmps87 rfl ?_
  focus (refine gc_seq ?_; refine gc_region ?_; refine gM rfl rfl (by conv => (lhs; whnf)) ?_; refine gN ?_; refine gM rfl rfl (by conv => (lhs; whnf)) ?_; refine gC rfl rfl rfl rfl rfl ?_; refine gM rfl rfl (by conv => (lhs; whnf)) ?_; refine gw_guard_dec rfl rfl (fun _ => ?_) (fun _ => ?_); refine gM rfl rfl (by conv => (lhs; whnf)) ?_; refine gC rfl rfl rfl rfl rfl ?_; apply gw_d; exact det_pick_t (v := .bool _) rfl rfl rfl rfl; refine gM rfl rfl (by conv => (lhs; whnf)) ?_; refine gO ?_; refine gc_ret ?_; rotate_left; refine gU rfl ?_; refine gU rfl ?_; apply gw_d; exact det_pick_f (v := .bool _) rfl rfl rfl rfl; refine gM rfl rfl (by conv => (lhs; whnf)) ?_; refine gO ?_; refine gc_ret ?_; rotate_left)
  all_goals (refine gx_ret1 (v := .bool _) rfl rfl (fun _ _ => ?_); simp [*])
theorem rname_ok (w : World) (s : ByteArray) (hs : s.size ≤ 9223372036854775807) : Ok Tryz.prog 63 [.string s].toArray w fun r _ => r = .bool (nameB s) := by
  by_cases h0 : s.size = 0
  · have hE : (s.toList == (ByteArray.mk #[]).toList) = true := by rw [ba_empty]; exact decide_eq_true h0
    have hN : nameB s = false := by unfold nameB; simp [h0]
    rw [hN]
    refine ok_enter Tryz.func63 rfl Tryz.ntmps63 rfl ?_
    focus (refine gc_seq ?_; refine gc_region ?_; refine gM rfl rfl (by conv => (lhs; whnf)) ?_; refine gO ?_; refine gc_seq ?_; refine gc_seq ?_; refine gc_region ?_; refine gM rfl rfl (by conv => (lhs; whnf)) ?_; apply gw_d; exact det_seq rfl rfl rfl rfl; refine gM rfl rfl (by conv => (lhs; whnf)) ?_)
    refine gw_guard rfl rfl (fun _ => ?_) (fun h => by rw [hE] at h; cases h)
    focus (refine gU rfl ?_; refine gU rfl ?_; refine gU rfl ?_; apply gw_d; exact det_pick_t (v := .bool _) rfl rfl rfl rfl; refine gM rfl rfl (by conv => (lhs; whnf)) ?_; refine gU rfl ?_; refine gU rfl ?_; apply gw_d; exact det_pick_t (v := .bool _) rfl rfl rfl rfl; refine gM rfl rfl (by conv => (lhs; whnf)) ?_; refine gU rfl ?_; refine gU rfl ?_; apply gw_d; exact det_pick_t (v := .bool _) rfl rfl rfl rfl; refine gM rfl rfl (by conv => (lhs; whnf)) ?_; refine gU rfl ?_; refine gU rfl ?_; refine gU rfl ?_; apply gw_d; exact det_pick_t (v := .bool _) rfl rfl rfl rfl; refine gM rfl rfl (by conv => (lhs; whnf)) ?_; refine gU rfl ?_; refine gU rfl ?_; refine gU rfl ?_; apply gw_d; exact det_pick_t (v := .bool _) rfl rfl rfl rfl; refine gO ?_; refine gc_if_true rfl ?_; refine gc_seq ?_; refine gc_region ?_; refine gM rfl rfl (by conv => (lhs; whnf)) ?_; refine gO ?_; refine gc_ret ?_; refine gx_then_ret ?_)
    all_goals (refine gx_ret1 (v := .bool _) rfl rfl (fun _ _ => ?_); rfl)
  · have hE : (s.toList == (ByteArray.mk #[]).toList) = false := by rw [ba_empty]; exact decide_eq_false h0
    have hfirst : charB s 0 = decide (97 ≤ bAt s 0 ∧ bAt s 0 ≤ 122) := by
      unfold charB letterB
      simp
    refine ok_enter Tryz.func63 rfl Tryz.ntmps63 rfl ?_
    focus (refine gc_seq ?_; refine gc_region ?_; refine gM rfl rfl (by conv => (lhs; whnf)) ?_; refine gO ?_; refine gc_seq ?_; refine gc_seq ?_; refine gc_region ?_; refine gM rfl rfl (by conv => (lhs; whnf)) ?_; apply gw_d; exact det_seq rfl rfl rfl rfl; refine gM rfl rfl (by conv => (lhs; whnf)) ?_)
    refine gw_guard rfl rfl (fun h => by rw [hE] at h; cases h) (fun _ => ?_)
    focus (refine gM rfl rfl (by conv => (lhs; whnf)) ?_; apply gw_d; exact w_len_str rfl rfl rfl; refine gC rfl rfl rfl rfl rfl ?_; apply gw_d; exact det_pick_f (v := .bool _) rfl rfl rfl rfl; refine gM rfl rfl (by conv => (lhs; whnf)) ?_; refine gw_guard_dec rfl rfl (fun _ => ?_) (fun _ => ?_); refine gU rfl ?_; refine gU rfl ?_; apply gw_d; exact det_pick_t (v := .bool _) rfl rfl rfl rfl; refine gM rfl rfl (by conv => (lhs; whnf)) ?_; refine gU rfl ?_; refine gU rfl ?_; apply gw_d; exact det_pick_t (v := .bool _) rfl rfl rfl rfl; refine gM rfl rfl (by conv => (lhs; whnf)) ?_; refine gU rfl ?_; refine gU rfl ?_; refine gU rfl ?_; apply gw_d; exact det_pick_t (v := .bool _) rfl rfl rfl rfl; refine gM rfl rfl (by conv => (lhs; whnf)) ?_; refine gU rfl ?_; refine gU rfl ?_; refine gU rfl ?_; apply gw_d; exact det_pick_t (v := .bool _) rfl rfl rfl rfl; refine gO ?_; refine gc_if_true rfl ?_; refine gc_seq ?_; refine gc_region ?_; refine gM rfl rfl (by conv => (lhs; whnf)) ?_; refine gO ?_; refine gc_ret ?_; refine gx_then_ret ?_; rotate_left; refine gM rfl rfl (by conv => (lhs; whnf)) ?_; apply gw_d; exact det_seq rfl rfl rfl rfl; apply gw_d; exact det_pick_f (v := .bool _) rfl rfl rfl rfl; refine gM rfl rfl (by conv => (lhs; whnf)) ?_; refine gw_guard rfl rfl (fun _ => ?_) (fun _ => ?_); refine gU rfl ?_; refine gU rfl ?_; apply gw_d; exact det_pick_t (v := .bool _) rfl rfl rfl rfl; refine gM rfl rfl (by conv => (lhs; whnf)) ?_; refine gU rfl ?_; refine gU rfl ?_; refine gU rfl ?_; apply gw_d; exact det_pick_t (v := .bool _) rfl rfl rfl rfl; refine gM rfl rfl (by conv => (lhs; whnf)) ?_; refine gU rfl ?_; refine gU rfl ?_; refine gU rfl ?_; apply gw_d; exact det_pick_t (v := .bool _) rfl rfl rfl rfl; refine gO ?_; refine gc_if_true rfl ?_; refine gc_seq ?_; refine gc_region ?_; refine gM rfl rfl (by conv => (lhs; whnf)) ?_; refine gO ?_; refine gc_ret ?_; refine gx_then_ret ?_; rotate_left; refine gM rfl rfl (by conv => (lhs; whnf)) ?_; apply gw_d; exact det_seq rfl rfl rfl rfl; apply gw_d; exact det_pick_f (v := .bool _) rfl rfl rfl rfl; refine gM rfl rfl (by conv => (lhs; whnf)) ?_; refine gw_guard rfl rfl (fun _ => ?_) (fun _ => ?_); refine gU rfl ?_; refine gU rfl ?_; refine gU rfl ?_; apply gw_d; exact det_pick_t (v := .bool _) rfl rfl rfl rfl; refine gM rfl rfl (by conv => (lhs; whnf)) ?_; refine gU rfl ?_; refine gU rfl ?_; refine gU rfl ?_; apply gw_d; exact det_pick_t (v := .bool _) rfl rfl rfl rfl; refine gO ?_; refine gc_if_true rfl ?_; refine gc_seq ?_; refine gc_region ?_; refine gM rfl rfl (by conv => (lhs; whnf)) ?_; refine gO ?_; refine gc_ret ?_; refine gx_then_ret ?_; rotate_left; refine gM rfl rfl (by conv => (lhs; whnf)) ?_; apply gw_d; exact w_sidx rfl rfl rfl rfl (by with_reducible exact cast0) (by omega); refine gC rfl rfl rfl rfl rfl ?_; apply gw_d; exact det_pick_f (v := .bool _) rfl rfl rfl rfl; refine gM rfl rfl (by conv => (lhs; whnf)) ?_; refine gw_guard_dec rfl rfl (fun _ => ?_) (fun _ => ?_); refine gU rfl ?_; refine gU rfl ?_; refine gU rfl ?_; apply gw_d; exact det_pick_t (v := .bool _) rfl rfl rfl rfl; refine gO ?_; refine gc_if_true rfl ?_; refine gc_seq ?_; refine gc_region ?_; refine gM rfl rfl (by conv => (lhs; whnf)) ?_; refine gO ?_; refine gc_ret ?_; refine gx_then_ret ?_; rotate_left; refine gM rfl rfl (by conv => (lhs; whnf)) ?_; apply gw_d; exact w_sidx rfl rfl rfl rfl (by with_reducible exact cast0) (by omega); refine gC rfl rfl rfl rfl rfl ?_; apply gw_d; exact det_pick_f (v := .bool _) rfl rfl rfl rfl; refine gO ?_; refine gc_if_dec rfl (fun _ => ?_) (fun _ => ?_); refine gc_seq ?_; refine gc_region ?_; refine gM rfl rfl (by conv => (lhs; whnf)) ?_; refine gO ?_; refine gc_ret ?_; refine gx_then_ret ?_; rotate_left; refine gc_skip ?_; refine gx_next ?_; refine gc_seq ?_; refine gc_seq ?_; refine gc_region ?_; refine gM rfl rfl (by conv => (lhs; whnf)) ?_; refine gO ?_; refine gc_block ?_; rotate_left)
    · refine gx_ret1 (v := .bool _) rfl rfl (fun _ _ => ?_)
      rename_i h _ _
      have h' : ¬ s.size ≤ 24 := by omega
      unfold nameB
      simp [h']
    · refine gx_ret1 (v := .bool _) rfl rfl (fun _ _ => ?_)
      rename_i h _ _
      unfold nameB
      rw [h]
      simp
    · refine gx_ret1 (v := .bool _) rfl rfl (fun _ _ => ?_)
      rename_i h _ _
      unfold nameB
      rw [h]
      simp
    · refine gx_ret1 (v := .bool _) rfl rfl (fun _ _ => ?_)
      rw [nameB_no (k := 0) (by omega) (by rw [hfirst]; exact decide_eq_false (by omega))]
    · refine gx_ret1 (v := .bool _) rfl rfl (fun _ _ => ?_)
      rw [nameB_no (k := 0) (by omega) (by rw [hfirst]; exact decide_eq_false (by omega))]
    · rename_i h2 h3 h4 h5 h6
      refine gc_loop (σ := Nat) [29, 30, 31, 32, 35, 36, 37, 38, 39, 40, 41, 42, 43, 44, 45, 46, 47, 48, 49, 50, 51, 52, 53, 54, 55, 56, 57, 2, 33, 34, 3] (fun k => [(3, .int .i64 k)]) (fun _ => []) (fun k => k ≤ s.size ∧ (List.range k).all (charB s) = true) (fun k => s.size - k) 0 ⟨Nat.zero_le _, rfl⟩ ⟨rfl, trivial⟩ .nil ?_
      rintro k base ⟨hk, hI⟩
      have hz : k = 0 → bAt s k = bAt s 0 := fun h => by rw [h]
      focus (refine gc_seq ?_; refine gc_seq ?_; refine gc_region ?_; refine gM rfl rfl (by conv => (lhs; whnf)) ?_; refine gM rfl rfl (by conv => (lhs; whnf)) ?_; apply gw_d; exact w_len_str rfl rfl rfl; refine gC rfl rfl rfl rfl rfl ?_; refine gO ?_; refine gc_if_dec rfl (fun _ => ?_) (fun _ => ?_); refine gc_skip ?_; refine gx_next ?_; refine gc_seq ?_; refine gc_block ?_; refine gc_seq ?_; refine gc_region ?_; refine gM rfl rfl (by conv => (lhs; whnf)) ?_; refine gM rfl rfl (by conv => (lhs; whnf)) ?_; apply gw_d; exact w_sidx rfl rfl rfl rfl (by with_reducible exact rfl) (by omega); apply gw_d; exact w_call rfl rfl (fun w s => rdigit_ok w _) rfl; apply gw_d; exact det_not_dec rfl rfl rfl; refine gM rfl rfl (by conv => (lhs; whnf)) ?_; refine gw_guard_dec rfl rfl (fun _ => ?_) (fun _ => ?_); refine gM rfl rfl (by conv => (lhs; whnf)) ?_; refine gM rfl rfl (by conv => (lhs; whnf)) ?_; apply gw_d; exact w_sidx rfl rfl rfl rfl (by with_reducible exact rfl) (by omega); refine gC rfl rfl rfl rfl rfl ?_; apply gw_d; exact det_pick_t (v := .bool _) rfl rfl rfl rfl; refine gM rfl rfl (by conv => (lhs; whnf)) ?_; refine gw_guard_dec rfl rfl (fun _ => ?_) (fun _ => ?_); refine gM rfl rfl (by conv => (lhs; whnf)) ?_; refine gM rfl rfl (by conv => (lhs; whnf)) ?_; apply gw_d; exact w_sidx rfl rfl rfl rfl (by with_reducible exact rfl) (by omega); refine gC rfl rfl rfl rfl rfl ?_; refine gM rfl rfl (by conv => (lhs; whnf)) ?_; refine gw_guard_dec rfl rfl (fun _ => ?_) (fun _ => ?_); refine gU rfl ?_; refine gU rfl ?_; refine gU rfl ?_; refine gU rfl ?_; apply gw_d; exact det_pick_t (v := .bool _) rfl rfl rfl rfl; apply gw_d; exact det_pick_t (v := .bool _) rfl rfl rfl rfl; refine gO ?_; refine gc_if_true rfl ?_; refine gc_seq ?_; refine gc_region ?_; refine gM rfl rfl (by conv => (lhs; whnf)) ?_; refine gO ?_; refine gc_ret ?_; refine gx_block_ret ?_; refine gx_then_ret ?_; refine gx_then_ret ?_; refine gx_block_ret ?_; refine gx_then_ret ?_; rotate_left; refine gM rfl rfl (by conv => (lhs; whnf)) ?_; refine gM rfl rfl (by conv => (lhs; whnf)) ?_; apply gw_d; exact w_sidx rfl rfl rfl rfl (by with_reducible exact rfl) (by omega); refine gC rfl rfl rfl rfl rfl ?_; apply gw_d; exact det_pick_f (v := .bool _) rfl rfl rfl rfl; apply gw_d; exact det_pick_t (v := .bool _) rfl rfl rfl rfl; refine gO ?_; refine gc_if_dec rfl (fun _ => ?_) (fun _ => ?_); refine gc_seq ?_; refine gc_region ?_; refine gM rfl rfl (by conv => (lhs; whnf)) ?_; refine gO ?_; refine gc_ret ?_; refine gx_block_ret ?_; refine gx_then_ret ?_; refine gx_then_ret ?_; refine gx_block_ret ?_; refine gx_then_ret ?_; rotate_left; refine gc_skip ?_; refine gx_block ?_; refine gx_next ?_; refine gc_region ?_; refine gM rfl rfl (by conv => (lhs; whnf)) ?_; apply gw_d; exact det_ar rfl rfl rfl rfl rfl (by omega); refine gM rfl rfl (by conv => (lhs; whnf)) ?_; refine gw_nil ?_; rotate_left; refine gU rfl ?_; refine gU rfl ?_; refine gU rfl ?_; refine gU rfl ?_; refine gU rfl ?_; refine gU rfl ?_; refine gU rfl ?_; refine gU rfl ?_; refine gU rfl ?_; refine gU rfl ?_; apply gw_d; exact det_pick_f (v := .bool _) rfl rfl rfl rfl; refine gO ?_; refine gc_if_false rfl ?_; refine gc_skip ?_; refine gx_block ?_; refine gx_next ?_; refine gc_region ?_; refine gM rfl rfl (by conv => (lhs; whnf)) ?_; apply gw_d; exact det_ar rfl rfl rfl rfl rfl (by omega); refine gM rfl rfl (by conv => (lhs; whnf)) ?_; refine gw_nil ?_; rotate_left; refine gU rfl ?_; refine gU rfl ?_; refine gU rfl ?_; refine gU rfl ?_; apply gw_d; exact det_pick_f (v := .bool _) rfl rfl rfl rfl; refine gM rfl rfl (by conv => (lhs; whnf)) ?_; refine gU rfl ?_; refine gU rfl ?_; refine gU rfl ?_; refine gU rfl ?_; refine gU rfl ?_; refine gU rfl ?_; refine gU rfl ?_; refine gU rfl ?_; refine gU rfl ?_; refine gU rfl ?_; apply gw_d; exact det_pick_f (v := .bool _) rfl rfl rfl rfl; refine gO ?_; refine gc_if_false rfl ?_; refine gc_skip ?_; refine gx_block ?_; refine gx_next ?_; refine gc_region ?_; refine gM rfl rfl (by conv => (lhs; whnf)) ?_; apply gw_d; exact det_ar rfl rfl rfl rfl rfl (by omega); refine gM rfl rfl (by conv => (lhs; whnf)) ?_; refine gw_nil ?_; rotate_left; refine gc_exit ?_; refine gx_then_exit ?_; refine gx_then_exit ?_; refine gx_block_exit ?_; refine gx_next ?_; refine gc_seq ?_; refine gc_region ?_; refine gM rfl rfl (by conv => (lhs; whnf)) ?_; refine gO ?_; refine gc_ret ?_; rotate_left)
      all_goals first
        | exact gx_round (k + 1) ⟨by omega, chars_snoc hI (char_yes (by omega))⟩ (by omega) (by repeat (first | exact Keeps.refl | refine Keeps.upd rfl ?_ | refine Keeps.sets rfl ?_ | refine Keeps.havoc rfl ?_)) ⟨rfl, trivial⟩ .nil
        | (refine gx_ret1 (v := .bool _) rfl rfl (fun _ _ => ?_); rw [nameB_no (by omega) (char_no (k := k) (by omega))])
        | skip
      refine gx_ret1 (v := .bool _) rfl rfl (fun _ _ => ?_)
      obtain rfl : k = s.size := by omega
      have h2' : s.size ≤ 24 := by omega
      unfold nameB
      rw [h3, h4, hI]
      simp [h0, h2']

theorem twice_ok (w : World) (v : Value) (l : List Int) (hl : Sl rInt w w.heap.size v l) : Ok Tryz.prog 65 [v].toArray w fun r _ => r = .bool (dupL l l.length) := by
  obtain ⟨A, c, rfl, hc, hm, hcell⟩ := hl.int
  refine ok_enter Tryz.func65 rfl Tryz.ntmps65 rfl ?_
  focus (refine gc_seq ?_; refine gc_region ?_; refine gM rfl rfl (by conv => (lhs; whnf)) ?_; refine gO ?_; refine gc_seq ?_; refine gc_seq ?_; refine gc_region ?_; refine gM rfl rfl (by conv => (lhs; whnf)) ?_; refine gO ?_; refine gc_block ?_)
  refine gc_loop (σ := Nat) [4, 5, 6, 7, 10, 11, 12, 13, 14, 15, 16, 17, 2, 8, 9, 3] (fun k => [(3, .int .i64 k)]) (fun _ => []) (fun k => k ≤ l.length ∧ dupL l k = false) (fun k => l.length - k) 0 ⟨Nat.zero_le _, rfl⟩ ⟨rfl, trivial⟩ .nil ?_
  rintro k base ⟨hk, hI⟩
  focus (refine gc_seq ?_; refine gc_seq ?_; refine gc_region ?_; refine gM rfl rfl (by conv => (lhs; whnf)) ?_; refine gM rfl rfl (by conv => (lhs; whnf)) ?_; refine gL rfl rfl rfl ?_; refine gC rfl rfl rfl rfl rfl ?_; refine gO ?_)
  refine gc_if_dec rfl (fun h => ?_) (fun h => ?_)
  · have hlt : k < l.length := by omega
    obtain ⟨ad, rfl, hb, hce, hi⟩ := hcell k hlt
    have htk := hl.take (m := k) (by omega)
    have hC : ∀ (L : List Res) (w' : World), St w L w' → Ok Tryz.prog 33 [.slice (some ad) k c, .int .i64 l[k]].toArray w' fun r _ => r = .bool (hasB (l.take k) l[k]) := fun L w' s => has_ok w' _ _ _ (htk.later s)
    focus (refine gc_skip ?_; refine gx_next ?_; refine gc_seq ?_; refine gc_block ?_; refine gc_seq ?_)
    refine gc_draw 8 (by kernel_rfl) (by kernel_rfl) ?_
    focus (apply gd_d; exact det_m rfl rfl (by conv => (lhs; whnf)); apply gd_d; exact det_m rfl rfl (by conv => (lhs; whnf)); apply gd_d; exact w_cut_hi rfl rfl rfl rfl (by with_reducible exact rfl) (by omega); apply gd_d; exact det_m rfl rfl (by conv => (lhs; whnf)); apply gd_d; exact det_m rfl rfl (by conv => (lhs; whnf)); apply gd_d; exact w_index rfl rfl rfl rfl (by with_reducible exact rfl) (by omega); apply gd_d; exact w_load_at rfl rfl rfl (by assumption) (by assumption); apply gd_d; exact w_call rfl rfl (hC _) rfl; refine gd_nil ?_; refine gO ?_)
    refine gc_if rfl (fun h => ?_) (fun h => ?_)
    · focus (refine gc_seq ?_; refine gc_region ?_; refine gM rfl rfl (by conv => (lhs; whnf)) ?_; refine gO ?_; refine gc_ret ?_; refine gx_block_ret ?_; refine gx_then_ret ?_; refine gx_then_ret ?_; refine gx_block_ret ?_; refine gx_then_ret ?_)
      refine gx_ret1 (v := .bool _) rfl rfl (fun _ _ => ?_)
      rw [dupL_yes hlt h]
    · focus (refine gc_skip ?_; refine gx_block ?_; refine gx_next ?_; refine gc_region ?_; refine gM rfl rfl (by conv => (lhs; whnf)) ?_; apply gw_d; exact det_ar rfl rfl rfl rfl rfl (by omega); refine gM rfl rfl (by conv => (lhs; whnf)) ?_; refine gw_nil ?_)
      exact gx_round (k + 1) ⟨hlt, dupL_snoc hlt hI h⟩ (by omega) (by repeat (first | exact Keeps.refl | refine Keeps.upd rfl ?_ | refine Keeps.sets rfl ?_ | refine Keeps.havoc rfl ?_)) ⟨rfl, trivial⟩ .nil
  · obtain rfl : k = l.length := by omega
    focus (refine gc_exit ?_; refine gx_then_exit ?_; refine gx_then_exit ?_; refine gx_block_exit ?_; refine gx_next ?_; refine gc_seq ?_; refine gc_region ?_; refine gM rfl rfl (by conv => (lhs; whnf)) ?_; refine gO ?_; refine gc_ret ?_)
    refine gx_ret1 (v := .bool _) rfl rfl (fun _ _ => ?_)
    rw [hI]

def singleE (l : List Opn) (uses : Int) : Int := if 16 < l.length then 5 else firstE (opE l uses) l.length
theorem single_ok (w : World) (v : Value) (l : List Opn) (uses : Int) (hl : Sl rOp w w.heap.size v l) : Ok Tryz.prog 31 [v, .int .i64 uses].toArray w fun r _ => r = .int .i64 (singleE l uses) := by
  obtain ⟨A0, c0, rfl, hc, hm⟩ := len_small hl
  refine ok_enter Tryz.func31 rfl Tryz.ntmps31 rfl ?_
  focus (refine gc_seq ?_; refine gc_region ?_; refine gM rfl rfl (by conv => (lhs; whnf)) ?_; refine gO ?_; refine gc_seq ?_; refine gc_seq ?_; refine gc_region ?_; refine gM rfl rfl (by conv => (lhs; whnf)) ?_; refine gL rfl rfl rfl ?_; refine gC rfl rfl rfl rfl rfl ?_; refine gO ?_)
  refine gc_if_dec rfl (fun h => ?_) (fun h => ?_)
  · focus (refine gc_seq ?_; refine gc_region ?_; refine gM rfl rfl (by conv => (lhs; whnf)) ?_; refine gO ?_; refine gc_ret ?_; refine gx_then_ret ?_)
    refine gx_ret1 (v := .int _ _) rfl rfl (fun _ _ => ?_)
    unfold singleE
    rw [if_pos (by omega)]
  have h16 : ¬ 16 < l.length := by omega
  focus (refine gc_skip ?_; refine gx_next ?_; refine gc_seq ?_; refine gc_seq ?_; refine gc_region ?_; refine gM rfl rfl (by conv => (lhs; whnf)) ?_; refine gO ?_; refine gc_block ?_)
  refine gc_loop (σ := Nat) [11, 12, 13, 14, 17, 18, 19, 20, 6, 21, 22, 23, 24, 4, 7, 25, 26, 27, 30, 31, 32, 33, 34, 35, 36, 37, 28, 29, 38, 39, 40, 41, 42, 43, 44, 45, 46, 47, 48, 49, 50, 51, 52, 53, 54, 55, 56, 57, 58, 59, 60, 61, 62, 63, 64, 65, 66, 67, 68, 69, 70, 71, 72, 73, 74, 75, 76, 77, 78, 79, 80, 81, 82, 83, 84, 85, 86, 15, 16, 5] (fun k => [(5, .int .i64 k)]) (fun _ => []) (fun k => k ≤ l.length ∧ firstE (opE l uses) k = 0) (fun k => l.length - k) 0 ⟨Nat.zero_le _, rfl⟩ ⟨rfl, trivial⟩ .nil ?_
  rintro i base ⟨hk, hI⟩
  focus (refine gc_seq ?_; refine gc_seq ?_; refine gc_region ?_; refine gM rfl rfl (by conv => (lhs; whnf)) ?_; refine gM rfl rfl (by conv => (lhs; whnf)) ?_; refine gL rfl rfl rfl ?_; refine gC rfl rfl rfl rfl rfl ?_; refine gO ?_)
  refine gc_if_dec rfl (fun h => ?_) (fun h => ?_)
  · have hi : i < l.length := by omega
    obtain ⟨ad, _, hv, _, _, hb, hcell⟩ := hl.at' 5 rfl (by omega)
    injection hv with e1 e2 e3
    subst e1 e3
    obtain ⟨cs, hce, Aa, ca, Au, cu, rfl, ⟨hnm, _⟩, q1, q2⟩ := hcell i hi
    unfold maxLen at hnm
    have ha : Sl rInt w w.heap.size (.slice Aa l[i].after.length ca) l[i].after := q1
    have hu : Sl rInt w w.heap.size (.slice Au l[i].uses.length cu) l[i].uses := q2
    have c1 : ∀ (L : List Res) (w' : World), St w L w' → Ok Tryz.prog 64 [.slice Aa l[i].after.length ca, .int .i64 l.length].toArray w' fun r _ => r = .bool (areIx l[i].after l.length) := fun L w' s => withinL_ok w' _ _ _ (ha.later s)
    have c2 : ∀ (L : List Res) (w' : World), St w L w' → Ok Tryz.prog 64 [.slice Au l[i].uses.length cu, .int .i64 uses].toArray w' fun r _ => r = .bool (areIx l[i].uses uses) := fun L w' s => withinL_ok w' _ _ _ (hu.later s)
    have c3 : ∀ (L : List Res) (w' : World), St w L w' → Ok Tryz.prog 65 [.slice Aa l[i].after.length ca].toArray w' fun r _ => r = .bool (dupL l[i].after l[i].after.length) := fun L w' s => twice_ok w' _ _ (ha.later s)
    have c4 : ∀ (L : List Res) (w' : World), St w L w' → Ok Tryz.prog 65 [.slice Au l[i].uses.length cu].toArray w' fun r _ => r = .bool (dupL l[i].uses l[i].uses.length) := fun L w' s => twice_ok w' _ _ (hu.later s)
    have hE : opE l uses i = if ¬ nameB l[i].name = true then 1 else if ((l.take i).any fun x => eqS x.name l[i].name) = true then 7 else if l[i].machine < 0 ∨ l[i].machine ≥ 8 ∨ l[i].minutes < 1 ∨ l[i].minutes > 10000 then 3 else
      if areIx l[i].after l.length = false ∨ (0 ≤ uses ∧ areIx l[i].uses uses = false) then 3 else if dupL l[i].after l[i].after.length = true ∨ (0 ≤ uses ∧ dupL l[i].uses l[i].uses.length = true) then 7 else 0 := by
      unfold opE; rw [List.getElem?_eq_getElem hi]
    have hstop : ∀ x : Int, opE l uses i = x → ¬ x = 0 → singleE l uses = x := fun x hx h => by
      unfold singleE
      rw [if_neg h16, firstE_stop hI (by rw [hx]; exact h) hi, hx]
    focus (refine gc_skip ?_; refine gx_next ?_; refine gc_seq ?_; refine gc_block ?_; refine gc_seq ?_; refine gc_region ?_; refine gM rfl rfl (by conv => (lhs; whnf)) ?_; refine gM rfl rfl (by conv => (lhs; whnf)) ?_; apply gw_d; exact w_index rfl rfl rfl rfl (by with_reducible exact rfl) (by omega); apply gw_d; exact w_load_elem rfl rfl rfl (by assumption) (by assumption) (by rfl); refine w_alloc rfl (fun _ => ?_); refine w_store_all rfl rfl rfl rfl rfl .here rfl ?_; refine gO ?_; refine gc_seq ?_; refine gc_seq ?_; refine gc_region ?_; refine gF rfl rfl rfl ?_; apply gw_d; exact w_load_box rfl rfl rfl .here rfl; apply gw_d; exact w_call rfl rfl (fun w s => rname_ok w _ (by omega)) rfl; apply gw_d; exact det_not_ rfl rfl rfl; refine gO ?_)
    refine gc_if rfl (fun h => ?_) (fun h => ?_)
    · focus (refine gc_seq ?_; refine gc_region ?_; refine gM rfl rfl (by conv => (lhs; whnf)) ?_; refine gO ?_; refine gc_ret ?_; refine gx_then_ret ?_; refine gx_block_ret ?_; refine gx_then_ret ?_; refine gx_then_ret ?_; refine gx_block_ret ?_; refine gx_then_ret ?_)
      refine gx_ret1 (v := .int _ _) rfl rfl (fun _ _ => ?_)
      rw [hstop 1 (by rw [hE, if_pos (by simpa using h)]) (by decide)]
    have hN : ¬ ¬ nameB l[i].name = true := by simpa using h
    rw [if_neg hN] at hE
    focus (refine gc_skip ?_; refine gx_next ?_; refine gc_seq ?_; refine gc_seq ?_; refine gc_region ?_; refine gM rfl rfl (by conv => (lhs; whnf)) ?_; refine gO ?_; refine gc_block ?_)
    refine gc_loopK (σ := Nat) [25, 26, 27, 30, 31, 32, 33, 34, 35, 36, 37, 4, 28, 29, 7] (fun j => [(7, .int .i64 j)]) (fun j => j ≤ i ∧ ((l.take j).any fun x => eqS x.name l[i].name) = false) (fun j => i - j) 0 ⟨Nat.zero_le _, rfl⟩ ⟨rfl, trivial⟩ ?_
    rintro j base2 ⟨hj, hJ⟩
    focus (refine gc_seq ?_; refine gc_seq ?_; refine gc_region ?_; refine gM rfl rfl (by conv => (lhs; whnf)) ?_; refine gM rfl rfl (by conv => (lhs; whnf)) ?_; refine gC rfl rfl rfl rfl rfl ?_; refine gO ?_)
    refine gc_if_dec rfl (fun h4 => ?_) (fun h4 => ?_)
    · have hjl : j < l.length := by omega
      obtain ⟨cs2, hce2, _, _, _, _, rfl, _⟩ := hcell j hjl
      have hce20 := hce2 0 _ rfl
      focus (refine gc_skip ?_; refine gx_next ?_; refine gc_seq ?_; refine gc_block ?_; refine gc_seq ?_)
      refine gc_draw 8 (by kernel_rfl) (by kernel_rfl) ?_
      focus (apply gd_d; exact det_m rfl rfl (by conv => (lhs; whnf)); apply gd_d; exact det_m rfl rfl (by conv => (lhs; whnf)); apply gd_d; exact w_index rfl rfl rfl rfl (by with_reducible exact rfl) (by omega); apply gd_d; exact w_field rfl rfl rfl; apply gd_d; exact w_load_fld rfl rfl rfl (by assumption) (by assumption); apply gd_d; exact w_field rfl rfl rfl; apply gd_d; exact w_load_box rfl rfl rfl .here rfl; apply gd_d; exact det_seq rfl rfl rfl rfl; refine gd_nil ?_; refine gO ?_)
      refine gc_if rfl (fun h5 => ?_) (fun h5 => ?_)
      · focus (refine gc_seq ?_; refine gc_region ?_; refine gM rfl rfl (by conv => (lhs; whnf)) ?_; refine gO ?_; refine gc_ret ?_; refine gx_block_ret ?_; refine gx_then_ret ?_; refine gx_then_ret ?_; refine gx_block_ret ?_; refine gx_then_ret ?_; refine gx_block_ret ?_; refine gx_then_ret ?_; refine gx_then_ret ?_; refine gx_block_ret ?_; refine gx_then_ret ?_)
        refine gx_ret1 (v := .int _ _) rfl rfl (fun _ _ => ?_)
        rw [hstop 7 (by rw [hE, if_pos (any_at (l := l.take i) (k := j) (by rw [List.length_take]; omega) (by rw [List.getElem_take]; exact h5))]) (by decide)]
      · focus (refine gc_skip ?_; refine gx_block ?_; refine gx_next ?_; refine gc_region ?_; refine gM rfl rfl (by conv => (lhs; whnf)) ?_; apply gw_d; exact det_ar rfl rfl rfl rfl rfl (by omega); refine gM rfl rfl (by conv => (lhs; whnf)) ?_; refine gw_nil ?_)
        exact gx_round (j + 1) ⟨by omega, take_any_snoc hjl hJ h5⟩ (by omega) (by repeat (first | exact Keeps.refl | refine Keeps.upd rfl ?_ | refine Keeps.sets rfl ?_ | refine Keeps.havoc rfl ?_)) ⟨rfl, trivial⟩ (Sub.all _)
    obtain rfl : j = i := by omega
    rw [if_neg (by rw [hJ]; decide)] at hE
    focus (refine gc_exit ?_; refine gx_then_exit ?_; refine gx_then_exit ?_; refine gx_block_exit ?_; refine gx_next ?_; refine gc_seq ?_; refine gc_seq ?_; refine gc_region ?_; refine gF rfl rfl rfl ?_; apply gw_d; exact w_load_box rfl rfl rfl .here rfl; refine gC rfl rfl rfl rfl rfl ?_; refine gM rfl rfl (by conv => (lhs; whnf)) ?_; refine gw_guard_dec rfl rfl (fun _ => ?_) (fun _ => ?_); refine gU rfl ?_; refine gU rfl ?_; refine gU rfl ?_; apply gw_d; exact det_pick_t (v := .bool _) rfl rfl rfl rfl; refine gM rfl rfl (by conv => (lhs; whnf)) ?_; refine gU rfl ?_; refine gU rfl ?_; refine gU rfl ?_; apply gw_d; exact det_pick_t (v := .bool _) rfl rfl rfl rfl; refine gM rfl rfl (by conv => (lhs; whnf)) ?_; refine gU rfl ?_; refine gU rfl ?_; refine gU rfl ?_; apply gw_d; exact det_pick_t (v := .bool _) rfl rfl rfl rfl; refine gM rfl rfl (by conv => (lhs; whnf)) ?_; refine gU rfl ?_; refine gU rfl ?_; refine gU rfl ?_; refine gU rfl ?_; refine gU rfl ?_; refine gU rfl ?_; apply gw_d; exact det_pick_t (v := .bool _) rfl rfl rfl rfl; refine gM rfl rfl (by conv => (lhs; whnf)) ?_; refine gU rfl ?_; refine gU rfl ?_; refine gU rfl ?_; refine gU rfl ?_; refine gU rfl ?_; refine gU rfl ?_; refine gU rfl ?_; refine gU rfl ?_; refine gU rfl ?_; apply gw_d; exact det_pick_t (v := .bool _) rfl rfl rfl rfl; refine gO ?_; refine gc_if_true rfl ?_; refine gc_seq ?_; refine gc_region ?_; refine gM rfl rfl (by conv => (lhs; whnf)) ?_; refine gO ?_; refine gc_ret ?_; refine gx_then_ret ?_; refine gx_block_ret ?_; refine gx_then_ret ?_; refine gx_then_ret ?_; refine gx_block_ret ?_; refine gx_then_ret ?_; rotate_left; refine gF rfl rfl rfl ?_; apply gw_d; exact w_load_box rfl rfl rfl .here rfl; refine gC rfl rfl rfl rfl rfl ?_; apply gw_d; exact det_pick_f (v := .bool _) rfl rfl rfl rfl; refine gM rfl rfl (by conv => (lhs; whnf)) ?_; refine gw_guard_dec rfl rfl (fun _ => ?_) (fun _ => ?_); refine gU rfl ?_; refine gU rfl ?_; refine gU rfl ?_; apply gw_d; exact det_pick_t (v := .bool _) rfl rfl rfl rfl; refine gM rfl rfl (by conv => (lhs; whnf)) ?_; refine gU rfl ?_; refine gU rfl ?_; refine gU rfl ?_; apply gw_d; exact det_pick_t (v := .bool _) rfl rfl rfl rfl; refine gM rfl rfl (by conv => (lhs; whnf)) ?_; refine gU rfl ?_; refine gU rfl ?_; refine gU rfl ?_; refine gU rfl ?_; refine gU rfl ?_; refine gU rfl ?_; apply gw_d; exact det_pick_t (v := .bool _) rfl rfl rfl rfl; refine gM rfl rfl (by conv => (lhs; whnf)) ?_; refine gU rfl ?_; refine gU rfl ?_; refine gU rfl ?_; refine gU rfl ?_; refine gU rfl ?_; refine gU rfl ?_; refine gU rfl ?_; refine gU rfl ?_; refine gU rfl ?_; apply gw_d; exact det_pick_t (v := .bool _) rfl rfl rfl rfl; refine gO ?_; refine gc_if_true rfl ?_; refine gc_seq ?_; refine gc_region ?_; refine gM rfl rfl (by conv => (lhs; whnf)) ?_; refine gO ?_; refine gc_ret ?_; refine gx_then_ret ?_; refine gx_block_ret ?_; refine gx_then_ret ?_; refine gx_then_ret ?_; refine gx_block_ret ?_; refine gx_then_ret ?_; rotate_left; refine gF rfl rfl rfl ?_; apply gw_d; exact w_load_box rfl rfl rfl .here rfl; refine gC rfl rfl rfl rfl rfl ?_; apply gw_d; exact det_pick_f (v := .bool _) rfl rfl rfl rfl; refine gM rfl rfl (by conv => (lhs; whnf)) ?_; refine gw_guard_dec rfl rfl (fun _ => ?_) (fun _ => ?_); refine gU rfl ?_; refine gU rfl ?_; refine gU rfl ?_; apply gw_d; exact det_pick_t (v := .bool _) rfl rfl rfl rfl; refine gM rfl rfl (by conv => (lhs; whnf)) ?_; refine gU rfl ?_; refine gU rfl ?_; refine gU rfl ?_; refine gU rfl ?_; refine gU rfl ?_; refine gU rfl ?_; apply gw_d; exact det_pick_t (v := .bool _) rfl rfl rfl rfl; refine gM rfl rfl (by conv => (lhs; whnf)) ?_; refine gU rfl ?_; refine gU rfl ?_; refine gU rfl ?_; refine gU rfl ?_; refine gU rfl ?_; refine gU rfl ?_; refine gU rfl ?_; refine gU rfl ?_; refine gU rfl ?_; apply gw_d; exact det_pick_t (v := .bool _) rfl rfl rfl rfl; refine gO ?_; refine gc_if_true rfl ?_; refine gc_seq ?_; refine gc_region ?_; refine gM rfl rfl (by conv => (lhs; whnf)) ?_; refine gO ?_; refine gc_ret ?_; refine gx_then_ret ?_; refine gx_block_ret ?_; refine gx_then_ret ?_; refine gx_then_ret ?_; refine gx_block_ret ?_; refine gx_then_ret ?_; rotate_left; refine gF rfl rfl rfl ?_; apply gw_d; exact w_load_box rfl rfl rfl .here rfl; refine gC rfl rfl rfl rfl rfl ?_; apply gw_d; exact det_pick_f (v := .bool _) rfl rfl rfl rfl; refine gM rfl rfl (by conv => (lhs; whnf)) ?_; refine gw_guard_dec rfl rfl (fun _ => ?_) (fun _ => ?_); refine gU rfl ?_; refine gU rfl ?_; refine gU rfl ?_; refine gU rfl ?_; refine gU rfl ?_; refine gU rfl ?_; apply gw_d; exact det_pick_t (v := .bool _) rfl rfl rfl rfl; refine gM rfl rfl (by conv => (lhs; whnf)) ?_; refine gU rfl ?_; refine gU rfl ?_; refine gU rfl ?_; refine gU rfl ?_; refine gU rfl ?_; refine gU rfl ?_; refine gU rfl ?_; refine gU rfl ?_; refine gU rfl ?_; apply gw_d; exact det_pick_t (v := .bool _) rfl rfl rfl rfl; refine gO ?_; refine gc_if_true rfl ?_; refine gc_seq ?_; refine gc_region ?_; refine gM rfl rfl (by conv => (lhs; whnf)) ?_; refine gO ?_; refine gc_ret ?_; refine gx_then_ret ?_; refine gx_block_ret ?_; refine gx_then_ret ?_; refine gx_then_ret ?_; refine gx_block_ret ?_; refine gx_then_ret ?_; rotate_left; refine gF rfl rfl rfl ?_; apply gw_d; exact w_load_box rfl rfl rfl .here rfl; refine gM rfl rfl (by conv => (lhs; whnf)) ?_; refine gL rfl rfl rfl ?_; apply gw_d; exact w_call rfl rfl (c1 _) rfl; apply gw_d; exact det_not_ rfl rfl rfl; apply gw_d; exact det_pick_f (v := .bool _) rfl rfl rfl rfl; refine gM rfl rfl (by conv => (lhs; whnf)) ?_; refine gw_guard rfl rfl (fun _ => ?_) (fun _ => ?_); refine gU rfl ?_; refine gU rfl ?_; refine gU rfl ?_; refine gU rfl ?_; refine gU rfl ?_; refine gU rfl ?_; refine gU rfl ?_; refine gU rfl ?_; refine gU rfl ?_; apply gw_d; exact det_pick_t (v := .bool _) rfl rfl rfl rfl; refine gO ?_; refine gc_if_true rfl ?_; refine gc_seq ?_; refine gc_region ?_; refine gM rfl rfl (by conv => (lhs; whnf)) ?_; refine gO ?_; refine gc_ret ?_; refine gx_then_ret ?_; refine gx_block_ret ?_; refine gx_then_ret ?_; refine gx_then_ret ?_; refine gx_block_ret ?_; refine gx_then_ret ?_; rotate_left; refine gM rfl rfl (by conv => (lhs; whnf)) ?_; refine gC rfl rfl rfl rfl rfl ?_; refine gM rfl rfl (by conv => (lhs; whnf)) ?_; refine gw_guard_dec rfl rfl (fun _ => ?_) (fun _ => ?_); refine gF rfl rfl rfl ?_; apply gw_d; exact w_load_box rfl rfl rfl .here rfl; refine gM rfl rfl (by conv => (lhs; whnf)) ?_; apply gw_d; exact w_call rfl rfl (c2 _) rfl; apply gw_d; exact det_not_ rfl rfl rfl; apply gw_d; exact det_pick_t (v := .bool _) rfl rfl rfl rfl; apply gw_d; exact det_pick_f (v := .bool _) rfl rfl rfl rfl; refine gO ?_; refine gc_if rfl (fun _ => ?_) (fun _ => ?_); refine gc_seq ?_; refine gc_region ?_; refine gM rfl rfl (by conv => (lhs; whnf)) ?_; refine gO ?_; refine gc_ret ?_; refine gx_then_ret ?_; refine gx_block_ret ?_; refine gx_then_ret ?_; refine gx_then_ret ?_; refine gx_block_ret ?_; refine gx_then_ret ?_; rotate_left; refine gc_skip ?_; refine gx_next ?_; refine gc_seq ?_; refine gc_region ?_; refine gF rfl rfl rfl ?_; apply gw_d; exact w_load_box rfl rfl rfl .here rfl; apply gw_d; exact w_call rfl rfl (c3 _) rfl; refine gM rfl rfl (by conv => (lhs; whnf)) ?_; refine gw_guard rfl rfl (fun _ => ?_) (fun _ => ?_); refine gU rfl ?_; refine gU rfl ?_; refine gU rfl ?_; refine gU rfl ?_; refine gU rfl ?_; refine gU rfl ?_; refine gU rfl ?_; apply gw_d; exact det_pick_t (v := .bool _) rfl rfl rfl rfl; refine gO ?_; refine gc_if_true rfl ?_; refine gc_seq ?_; refine gc_region ?_; refine gM rfl rfl (by conv => (lhs; whnf)) ?_; refine gO ?_; refine gc_ret ?_; refine gx_block_ret ?_; refine gx_then_ret ?_; refine gx_then_ret ?_; refine gx_block_ret ?_; refine gx_then_ret ?_; rotate_left; refine gM rfl rfl (by conv => (lhs; whnf)) ?_; refine gC rfl rfl rfl rfl rfl ?_; refine gM rfl rfl (by conv => (lhs; whnf)) ?_; refine gw_guard_dec rfl rfl (fun _ => ?_) (fun _ => ?_); refine gF rfl rfl rfl ?_; apply gw_d; exact w_load_box rfl rfl rfl .here rfl; apply gw_d; exact w_call rfl rfl (c4 _) rfl; apply gw_d; exact det_pick_t (v := .bool _) rfl rfl rfl rfl; apply gw_d; exact det_pick_f (v := .bool _) rfl rfl rfl rfl; refine gO ?_; refine gc_if rfl (fun _ => ?_) (fun _ => ?_); refine gc_seq ?_; refine gc_region ?_; refine gM rfl rfl (by conv => (lhs; whnf)) ?_; refine gO ?_; refine gc_ret ?_; refine gx_block_ret ?_; refine gx_then_ret ?_; refine gx_then_ret ?_; refine gx_block_ret ?_; refine gx_then_ret ?_; rotate_left; refine gc_skip ?_; refine gx_block ?_; refine gx_next ?_; refine gc_region ?_; refine gM rfl rfl (by conv => (lhs; whnf)) ?_; apply gw_d; exact det_ar rfl rfl rfl rfl rfl (by omega); refine gM rfl rfl (by conv => (lhs; whnf)) ?_; refine gw_nil ?_; rotate_left; refine gU rfl ?_; refine gU rfl ?_; refine gU rfl ?_; apply gw_d; exact det_pick_f (v := .bool _) rfl rfl rfl rfl; apply gw_d; exact det_pick_f (v := .bool _) rfl rfl rfl rfl; refine gO ?_; refine gc_if_false rfl ?_; refine gc_skip ?_; refine gx_block ?_; refine gx_next ?_; refine gc_region ?_; refine gM rfl rfl (by conv => (lhs; whnf)) ?_; apply gw_d; exact det_ar rfl rfl rfl rfl rfl (by omega); refine gM rfl rfl (by conv => (lhs; whnf)) ?_; refine gw_nil ?_; rotate_left; refine gU rfl ?_; refine gU rfl ?_; refine gU rfl ?_; refine gU rfl ?_; refine gU rfl ?_; apply gw_d; exact det_pick_f (v := .bool _) rfl rfl rfl rfl; apply gw_d; exact det_pick_f (v := .bool _) rfl rfl rfl rfl; refine gO ?_; refine gc_if_false rfl ?_; refine gc_skip ?_; refine gx_next ?_; refine gc_seq ?_; refine gc_region ?_; refine gF rfl rfl rfl ?_; apply gw_d; exact w_load_box rfl rfl rfl .here rfl; apply gw_d; exact w_call rfl rfl (c3 _) rfl; refine gM rfl rfl (by conv => (lhs; whnf)) ?_; refine gw_guard rfl rfl (fun _ => ?_) (fun _ => ?_); refine gU rfl ?_; refine gU rfl ?_; refine gU rfl ?_; refine gU rfl ?_; refine gU rfl ?_; refine gU rfl ?_; refine gU rfl ?_; apply gw_d; exact det_pick_t (v := .bool _) rfl rfl rfl rfl; refine gO ?_; refine gc_if_true rfl ?_; refine gc_seq ?_; refine gc_region ?_; refine gM rfl rfl (by conv => (lhs; whnf)) ?_; refine gO ?_; refine gc_ret ?_; refine gx_block_ret ?_; refine gx_then_ret ?_; refine gx_then_ret ?_; refine gx_block_ret ?_; refine gx_then_ret ?_; rotate_left; refine gM rfl rfl (by conv => (lhs; whnf)) ?_; refine gC rfl rfl rfl rfl rfl ?_; refine gM rfl rfl (by conv => (lhs; whnf)) ?_; refine gw_guard_dec rfl rfl (fun _ => ?_) (fun _ => ?_); refine gF rfl rfl rfl ?_; apply gw_d; exact w_load_box rfl rfl rfl .here rfl; apply gw_d; exact w_call rfl rfl (c4 _) rfl; apply gw_d; exact det_pick_t (v := .bool _) rfl rfl rfl rfl; apply gw_d; exact det_pick_f (v := .bool _) rfl rfl rfl rfl; refine gO ?_; refine gc_if rfl (fun _ => ?_) (fun _ => ?_); refine gc_seq ?_; refine gc_region ?_; refine gM rfl rfl (by conv => (lhs; whnf)) ?_; refine gO ?_; refine gc_ret ?_; refine gx_block_ret ?_; refine gx_then_ret ?_; refine gx_then_ret ?_; refine gx_block_ret ?_; refine gx_then_ret ?_; rotate_left; refine gc_skip ?_; refine gx_block ?_; refine gx_next ?_; refine gc_region ?_; refine gM rfl rfl (by conv => (lhs; whnf)) ?_; apply gw_d; exact det_ar rfl rfl rfl rfl rfl (by omega); refine gM rfl rfl (by conv => (lhs; whnf)) ?_; refine gw_nil ?_; rotate_left; refine gU rfl ?_; refine gU rfl ?_; refine gU rfl ?_; apply gw_d; exact det_pick_f (v := .bool _) rfl rfl rfl rfl; apply gw_d; exact det_pick_f (v := .bool _) rfl rfl rfl rfl; refine gO ?_; refine gc_if_false rfl ?_; refine gc_skip ?_; refine gx_block ?_; refine gx_next ?_; refine gc_region ?_; refine gM rfl rfl (by conv => (lhs; whnf)) ?_; apply gw_d; exact det_ar rfl rfl rfl rfl rfl (by omega); refine gM rfl rfl (by conv => (lhs; whnf)) ?_; refine gw_nil ?_; rotate_left)
    all_goals
      clear c1 c2 c3 c4 hcell hce ha hu q1 q2 hJ hl
      simp only [Bool.not_eq_true', Bool.not_eq_false'] at *
      first
        | (refine gx_ret1 (v := .int _ _) rfl rfl (fun _ _ => ?_); rw [hstop 3 (by rw [hE, if_pos (by omega)]) (by decide)]; done)
        | (refine gx_ret1 (v := .int _ _) rfl rfl (fun _ _ => ?_); rw [hstop 3 (by rw [hE, if_neg (by omega), if_pos (.inl (by assumption))]) (by decide)]; done)
        | (refine gx_ret1 (v := .int _ _) rfl rfl (fun _ _ => ?_); rw [hstop 3 (by rw [hE, if_neg (by omega), if_pos (.inr ⟨by assumption, by assumption⟩)]) (by decide)]; done)
        | (refine gx_ret1 (v := .int _ _) rfl rfl (fun _ _ => ?_); rw [hstop 7 (by rw [hE, if_neg (by omega), if_neg (by rintro (h | ⟨h, h'⟩) <;> simp_all), if_pos (.inl (by assumption))]) (by decide)]; done)
        | (refine gx_ret1 (v := .int _ _) rfl rfl (fun _ _ => ?_); rw [hstop 7 (by rw [hE, if_neg (by omega), if_neg (by rintro (h | ⟨h, h'⟩) <;> simp_all), if_pos (.inr ⟨by assumption, by assumption⟩)]) (by decide)]; done)
        | exact gx_round (j + 1) ⟨by omega, firstE_snoc hI (by rw [hE, if_neg (by omega), if_neg (by rintro (h | ⟨h, h'⟩) <;> simp_all), if_neg (by rintro (h | ⟨h, h'⟩) <;> simp_all)])⟩ (by omega) (by repeat (first | exact Keeps.refl | refine Keeps.upd rfl ?_ | refine Keeps.sets rfl ?_ | refine Keeps.havoc rfl ?_)) ⟨rfl, trivial⟩ .nil
        | (exfalso; omega)
  obtain rfl : i = l.length := by omega
  focus (refine gc_exit ?_; refine gx_then_exit ?_; refine gx_then_exit ?_; refine gx_block_exit ?_; refine gx_next ?_; refine gc_seq ?_; refine gc_region ?_; refine gM rfl rfl (by conv => (lhs; whnf)) ?_; refine gO ?_; refine gc_ret ?_)
  refine gx_ret1 (v := .int _ _) rfl rfl (fun _ _ => ?_)
  unfold singleE
  rw [if_neg h16, hI]
end Go.Proofs.YtckhibfbdnoigaaGreat

/- Contracts: outlines by the chapter's own rule (reference 20). -/
namespace Go.Proofs.YtckhibfbdnoigaaGreat
open Go.RowKit
set_option maxRecDepth 100000
set_option maxHeartbeats 2000000

theorem r_named_ok (w : World) (v : Value) (l : List Edg) (hl : Sl rEdge w w.heap.size v l) (k : Nat) (hk : k < l.length) : Ok Tryz.prog 136 [v, .int .i64 k, .string (gE l k).1].toArray w fun r _ => r = .bool (oldName l k k) := by
  obtain ⟨ad, c, rfl, hc, hm, hb, hcell⟩ := hl.edge' (by omega)
  refine ok_enter Tryz.func136 rfl Tryz.ntmps136 rfl ?_
  focus (refine gc_seq ?_; refine gc_region ?_; refine gM rfl rfl (by conv => (lhs; whnf)) ?_; refine gO ?_; refine gc_seq ?_; refine gc_seq ?_; refine gc_region ?_; refine gM rfl rfl (by conv => (lhs; whnf)) ?_; refine gO ?_; refine gc_block ?_)
  refine gc_loop (σ := Nat) [8, 9, 10, 13, 14, 15, 16, 17, 18, 19, 6, 11, 12, 7] (fun j => [(7, .int .i64 j)]) (fun _ => []) (fun j => j ≤ k ∧ oldName l k j = false) (fun j => k - j) 0 ⟨Nat.zero_le _, rfl⟩ ⟨rfl, trivial⟩ .nil ?_
  rintro j base ⟨hj, hJ⟩
  focus (refine gc_seq ?_; refine gc_seq ?_; refine gc_region ?_; refine gM rfl rfl (by conv => (lhs; whnf)) ?_; refine gM rfl rfl (by conv => (lhs; whnf)) ?_; refine gC rfl rfl rfl rfl rfl ?_; refine gO ?_)
  refine gc_if_dec rfl (fun h => ?_) (fun h => ?_)
  · have hjl : j < l.length := by omega
    obtain ⟨A2, c2, hce, _, _, _, _⟩ := hcell j hjl
    focus (refine gc_skip ?_; refine gx_next ?_; refine gc_seq ?_; refine gc_block ?_; refine gc_seq ?_; refine gc_region ?_; refine gM rfl rfl (by conv => (lhs; whnf)) ?_; refine gM rfl rfl (by conv => (lhs; whnf)) ?_; apply gw_d; exact w_index rfl rfl rfl rfl (by with_reducible exact rfl) (by omega); refine gF rfl rfl rfl ?_; apply gw_d; exact w_load_fld rfl rfl rfl hb (hce 0 _ rfl); refine gM rfl rfl (by conv => (lhs; whnf)) ?_; apply gw_d; exact det_seq rfl rfl rfl rfl; refine gO ?_)
    refine gc_if rfl (fun h5 => ?_) (fun h5 => ?_)
    · focus (refine gc_seq ?_; refine gc_region ?_; refine gM rfl rfl (by conv => (lhs; whnf)) ?_; refine gO ?_; refine gc_ret ?_; refine gx_block_ret ?_; refine gx_then_ret ?_; refine gx_then_ret ?_; refine gx_block_ret ?_; refine gx_then_ret ?_)
      refine gx_ret1 (v := .bool _) rfl rfl (fun _ _ => ?_)
      rw [old_yes hjl (by omega) h5]
    · focus (refine gc_skip ?_; refine gx_block ?_; refine gx_next ?_; refine gc_region ?_; refine gM rfl rfl (by conv => (lhs; whnf)) ?_; apply gw_d; exact det_ar rfl rfl rfl rfl rfl (by omega); refine gM rfl rfl (by conv => (lhs; whnf)) ?_; refine gw_nil ?_)
      exact gx_round (j + 1) ⟨by omega, old_snoc hjl hJ h5⟩ (by omega) (by repeat (first | exact Keeps.refl | refine Keeps.upd rfl ?_ | refine Keeps.sets rfl ?_ | refine Keeps.havoc rfl ?_)) ⟨rfl, trivial⟩ .nil
  · obtain rfl : j = k := by omega
    focus (refine gc_exit ?_; refine gx_then_exit ?_; refine gx_then_exit ?_; refine gx_block_exit ?_; refine gx_next ?_; refine gc_seq ?_; refine gc_region ?_; refine gM rfl rfl (by conv => (lhs; whnf)) ?_; refine gO ?_; refine gc_ret ?_)
    refine gx_ret1 (v := .bool _) rfl rfl (fun _ _ => ?_)
    rw [hJ]

theorem r_vertices_ok (w : World) (v : Value) (l : List Edg) (hl : Sl rEdge w w.heap.size v l) (h0 : 0 < l.length) (h16 : l.length ≤ 16) (hlen : ∀ x ∈ l, 1 ≤ x.2.length ∧ x.2.length ≤ 40) :
    OkM Tryz.prog 139 [v].toArray w (fun x : Option Addr × Nat => .slice x.1 (vertsOf l).length x.2) (fun x => [Own x.1 (vertsOf l).length x.2 130 2 ((vertsOf l).flatMap encS)]) := by
  obtain ⟨ad, c, rfl, hc, hm, hb, hcell⟩ := hl.edge' h0
  unfold OkM
  refine ok_enter Tryz.func139 rfl Tryz.ntmps139 rfl ?_
  refine gc_own0 130 2 ?_
  focus (refine gc_seq ?_; refine gc_region ?_; refine gM rfl rfl (by conv => (lhs; whnf)) ?_; refine gN ?_; refine gM rfl rfl (by conv => (lhs; whnf)) ?_; refine gO ?_; refine gc_seq ?_; refine gc_seq ?_; refine gc_region ?_; refine gM rfl rfl (by conv => (lhs; whnf)) ?_; refine gO ?_; refine gc_block ?_)
  refine gc_loop (σ := Nat × Option Addr × Nat) [6, 7, 8, 9, 12, 13, 14, 15, 16, 17, 5, 18, 19, 20, 21, 22, 23, 24, 25, 26, 27, 28, 29, 3, 10, 11, 4] (fun s => [(3, .slice s.2.1 (vertsOf (l.take s.1)).length s.2.2), (4, .int .i64 s.1)]) (fun s => [Own s.2.1 (vertsOf (l.take s.1)).length s.2.2 130 2 ((vertsOf (l.take s.1)).flatMap encS)])
    (fun s => s.1 ≤ l.length) (fun s => l.length - s.1) (0, none, 0) (Nat.zero_le _) ⟨rfl, rfl, trivial⟩ (.cons .here .nil) ?_
  rintro ⟨k, A, c2⟩ base hk
  dsimp only at hk ⊢
  focus (refine gc_seq ?_; refine gc_seq ?_; refine gc_region ?_; refine gM rfl rfl (by conv => (lhs; whnf)) ?_; refine gM rfl rfl (by conv => (lhs; whnf)) ?_; refine gL rfl rfl rfl ?_; refine gC rfl rfl rfl rfl rfl ?_; refine gO ?_)
  refine gc_if_dec rfl (fun h => ?_) (fun h => ?_)
  · have hlt : k < l.length := by omega
    obtain ⟨A1, c1, hce, hsz, hc1, hm1, hsl⟩ := hcell k hlt
    obtain ⟨h1, h2⟩ := hlen _ (by rw [gE_get hlt]; exact List.getElem_mem hlt : gE l k ∈ l)
    have hv := verts_snoc hlt
    have hn : (vertsOf (l.take (k + 1))).length = (vertsOf (l.take k)).length + ((gE l k).2.length - 1) := by rw [hv, List.length_append, List.length_dropLast]
    have hle := verts_le (l := l.take k) (fun x hx => (hlen x (List.mem_of_mem_take hx)).2)
    rw [List.length_take] at hle
    have hlast : (gE l k).2.dropLast = (gE l k).2.take ((gE l k).2.length - 1) := List.dropLast_eq_take
    have hsl2 := hsl.take (m := (gE l k).2.length - 1) (by omega)
    focus (refine gc_skip ?_; refine gx_next ?_; refine gc_seq ?_; refine gc_block ?_; refine gc_seq ?_; refine gc_region ?_; refine gM rfl rfl (by conv => (lhs; whnf)) ?_; refine gM rfl rfl (by conv => (lhs; whnf)) ?_; apply gw_d; exact w_index rfl rfl rfl rfl (by with_reducible exact rfl) (by omega); refine gF rfl rfl rfl ?_; apply gw_d; exact w_load_fld rfl rfl rfl hb (hce 1 _ rfl); refine gL rfl rfl rfl ?_; refine gM rfl rfl (by conv => (lhs; whnf)) ?_; refine gN ?_; refine gM rfl rfl (by conv => (lhs; whnf)) ?_; refine gC rfl rfl rfl rfl rfl ?_; refine gO ?_)
    refine gc_if_dec rfl (fun h5 => ?_) (fun h5 => by omega)
    focus (refine gc_region ?_; refine gM rfl rfl (by conv => (lhs; whnf)) ?_; refine gM rfl rfl (by conv => (lhs; whnf)) ?_; refine gM rfl rfl (by conv => (lhs; whnf)) ?_; apply gw_d; exact w_index rfl rfl rfl rfl (by with_reducible exact rfl) (by omega); refine gF rfl rfl rfl ?_; apply gw_d; exact w_load_fld rfl rfl rfl hb (hce 1 _ rfl); refine gM rfl rfl (by conv => (lhs; whnf)) ?_; apply gw_d; exact det_ar rfl rfl rfl rfl rfl (by omega); apply gw_d; exact w_cut_hi rfl rfl rfl rfl (by with_reducible exact castS (by omega)) (by omega))
    refine gw_append (news := ((gE l k).2.dropLast).flatMap encS) rfl rfl rfl .here (by rw [encS_len, List.length_dropLast]) (fun w' s hpos => ?_) (encS_one _) (by unfold maxLen; omega) (by omega) (by decide) rfl (fun A2 c3 => ?_)
    · rw [hlast]
      exact (hsl2.later s).row (by rw [List.length_take]; omega)
    · focus (refine gM rfl rfl (by conv => (lhs; whnf)) ?_; refine gw_nil ?_; refine gx_block ?_; refine gx_next ?_; refine gc_region ?_; refine gM rfl rfl (by conv => (lhs; whnf)) ?_; apply gw_d; exact det_ar rfl rfl rfl rfl rfl (by omega); refine gM rfl rfl (by conv => (lhs; whnf)) ?_; refine gw_nil ?_)
      exact gx_round (k + 1, A2, c3) (by dsimp only; omega) (by dsimp only; omega) (by repeat (first | exact Keeps.refl | refine Keeps.upd rfl ?_ | refine Keeps.sets rfl ?_ | refine Keeps.havoc rfl ?_)) ⟨by rw [hn]; rfl, rfl, trivial⟩ (by rw [hn, hv, List.flatMap_append]; exact .cons .here .nil)
  · obtain rfl : k = l.length := by omega
    rw [List.take_length]
    focus (refine gc_exit ?_; refine gx_then_exit ?_; refine gx_then_exit ?_; refine gx_block_exit ?_; refine gx_next ?_; refine gc_seq ?_; refine gc_region ?_; refine gM rfl rfl (by conv => (lhs; whnf)) ?_; refine gM rfl rfl (by conv => (lhs; whnf)) ?_; refine gO ?_; refine gc_ret ?_)
    exact gx_ret1 rfl rfl fun w s => ⟨(A, c2), rfl, s.sep⟩

theorem r_outline_ok (w : World) (v : Value) (l : List Edg) (hl : Sl rEdge w w.heap.size v l) : Ok Tryz.prog 109 [v].toArray w fun r _ => r = .int .i64 (outlineE l) := by
  by_cases hlen : 2 ≤ l.length
  · obtain ⟨ad, c, rfl, hc, hm, hb, hcell⟩ := hl.edge' (by omega)
    have h2 : ¬ l.length < 2 := by omega
    refine ok_enter Tryz.func109 rfl Tryz.ntmps109 rfl ?_
    focus (refine gc_seq ?_; refine gc_region ?_; refine gM rfl rfl (by conv => (lhs; whnf)) ?_; refine gO ?_; refine gc_seq ?_; refine gc_seq ?_; refine gc_region ?_; refine gM rfl rfl (by conv => (lhs; whnf)) ?_; refine gL rfl rfl rfl ?_; refine gC rfl rfl rfl rfl rfl ?_; refine gO ?_)
    refine gc_if_dec rfl (fun h => ?_) (fun h => ?_)
    · focus (refine gc_seq ?_; refine gc_region ?_; refine gM rfl rfl (by conv => (lhs; whnf)) ?_; refine gO ?_; refine gc_ret ?_; refine gx_then_ret ?_)
      refine gx_ret1 (v := .int _ _) rfl rfl (fun _ _ => ?_)
      have : 16 < l.length := by omega
      simp [outlineE, this]
    have h16 : ¬ 16 < l.length := by omega
    focus (refine gc_skip ?_; refine gx_next ?_; refine gc_seq ?_; refine gc_seq ?_; refine gc_region ?_; refine gM rfl rfl (by conv => (lhs; whnf)) ?_; refine gL rfl rfl rfl ?_; refine gC rfl rfl rfl rfl rfl ?_; refine gO ?_)
    refine gc_if_dec rfl (fun h => by omega) (fun _ => ?_)
    focus (refine gc_skip ?_; refine gx_next ?_; refine gc_seq ?_; refine gc_seq ?_; refine gc_region ?_; refine gM rfl rfl (by conv => (lhs; whnf)) ?_; refine gO ?_; refine gc_block ?_)
    refine gc_loop (σ := Nat) [14, 15, 16, 17, 20, 21, 22, 23, 24, 25, 26, 2, 27, 28, 29, 30, 31, 32, 33, 34, 35, 36, 37, 38, 39, 40, 4, 41, 42, 43, 18, 19, 3] (fun k => [(3, .int .i64 k)]) (fun _ => []) (fun k => k ≤ l.length ∧ firstE (edgeE l) k = 0) (fun k => l.length - k) 0 ⟨Nat.zero_le _, rfl⟩ ⟨rfl, trivial⟩ .nil ?_
    rintro k base ⟨hk, hI⟩
    focus (refine gc_seq ?_; refine gc_seq ?_; refine gc_region ?_; refine gM rfl rfl (by conv => (lhs; whnf)) ?_; refine gM rfl rfl (by conv => (lhs; whnf)) ?_; refine gL rfl rfl rfl ?_; refine gC rfl rfl rfl rfl rfl ?_; refine gO ?_)
    refine gc_if_dec rfl (fun h => ?_) (fun h => ?_)
    · have hlt : k < l.length := by omega
      obtain ⟨A1, c1, hce, hsz, hc1, hm1, hsl⟩ := hcell k hlt
      have hstop : ¬ edgeE l k = 0 → outlineE l = edgeE l k := fun hne => by
        have h3 := firstE_stop hI hne hlt
        unfold outlineE
        rw [if_neg h16, if_neg h2, h3, if_neg hne]
      focus (refine gc_skip ?_; refine gx_next ?_; refine gc_seq ?_; refine gc_block ?_; refine gc_seq ?_; refine gc_seq ?_; refine gc_region ?_; refine gM rfl rfl (by conv => (lhs; whnf)) ?_; refine gM rfl rfl (by conv => (lhs; whnf)) ?_; apply gw_d; exact w_index rfl rfl rfl rfl (by with_reducible exact rfl) (by omega); refine gF rfl rfl rfl ?_; apply gw_d; exact w_load_fld rfl rfl rfl hb (hce 0 _ rfl); apply gw_d; exact w_call rfl rfl (fun w s => rname_ok w _ hsz) rfl; apply gw_d; exact det_not_ rfl rfl rfl; refine gO ?_)
      refine gc_if rfl (fun h3 => ?_) (fun h3 => ?_)
      · focus (refine gc_seq ?_; refine gc_region ?_; refine gM rfl rfl (by conv => (lhs; whnf)) ?_; refine gO ?_; refine gc_ret ?_; refine gx_then_ret ?_; refine gx_block_ret ?_; refine gx_then_ret ?_; refine gx_then_ret ?_; refine gx_block_ret ?_; refine gx_then_ret ?_)
        refine gx_ret1 (v := .int _ _) rfl rfl (fun _ _ => ?_)
        have : edgeE l k = 1 := by unfold edgeE; rw [if_neg (by simpa using h3)]
        rw [hstop (by rw [this]; decide), this]
      have hname : nameB (gE l k).1 = true := by simpa using h3
      focus (refine gc_skip ?_; refine gx_next ?_; refine gc_seq ?_; refine gc_seq ?_; refine gc_region ?_; refine gM rfl rfl (by conv => (lhs; whnf)) ?_; refine gM rfl rfl (by conv => (lhs; whnf)) ?_; refine gM rfl rfl (by conv => (lhs; whnf)) ?_; refine gM rfl rfl (by conv => (lhs; whnf)) ?_; apply gw_d; exact w_index rfl rfl rfl rfl (by with_reducible exact rfl) (by omega); refine gF rfl rfl rfl ?_; apply gw_d; exact w_load_fld rfl rfl rfl hb (hce 0 _ rfl); apply gw_d; exact w_call rfl rfl (fun w s => r_named_ok w _ l (hl.later s) k hlt) rfl; refine gO ?_)
      refine gc_if rfl (fun hold => ?_) (fun hJ => ?_)
      · focus (refine gc_seq ?_; refine gc_region ?_; refine gM rfl rfl (by conv => (lhs; whnf)) ?_; refine gO ?_; refine gc_ret ?_; refine gx_then_ret ?_; refine gx_block_ret ?_; refine gx_then_ret ?_; refine gx_then_ret ?_; refine gx_block_ret ?_; refine gx_then_ret ?_)
        refine gx_ret1 (v := .int _ _) rfl rfl (fun _ _ => ?_)
        have : edgeE l k = 7 := by unfold edgeE; rw [if_pos hname, if_pos hold]
        rw [hstop (by rw [this]; decide), this]
      have he : edgeE l k = plineE (gE l k).2 := by unfold edgeE; rw [if_pos hname, if_neg (by simpa using hJ)]
      focus (refine gc_skip ?_; refine gx_next ?_; refine gc_seq ?_; refine gc_region ?_; refine gM rfl rfl (by conv => (lhs; whnf)) ?_; refine gM rfl rfl (by conv => (lhs; whnf)) ?_; apply gw_d; exact w_index rfl rfl rfl rfl (by with_reducible exact rfl) (by omega); refine gF rfl rfl rfl ?_; apply gw_d; exact w_load_fld rfl rfl rfl hb (hce 1 _ rfl); apply gw_d; exact w_call rfl rfl (fun w s => r_polyline_ok w _ _ (hsl.later s)) rfl; refine gM rfl rfl (by conv => (lhs; whnf)) ?_; refine gN ?_; refine gM rfl rfl (by conv => (lhs; whnf)) ?_; refine gC rfl rfl rfl rfl rfl ?_; refine gO ?_)
      refine gc_if_dec rfl (fun h5 => ?_) (fun h5 => ?_)
      · focus (refine gc_seq ?_; refine gc_region ?_; refine gM rfl rfl (by conv => (lhs; whnf)) ?_; refine gM rfl rfl (by conv => (lhs; whnf)) ?_; refine gO ?_; refine gc_ret ?_; refine gx_block_ret ?_; refine gx_then_ret ?_; refine gx_then_ret ?_; refine gx_block_ret ?_; refine gx_then_ret ?_)
        refine gx_ret1 (v := .int _ _) rfl rfl (fun _ _ => ?_)
        rw [hstop (by rw [he]; exact h5), he]
      · focus (refine gc_skip ?_; refine gx_block ?_; refine gx_next ?_; refine gc_region ?_; refine gM rfl rfl (by conv => (lhs; whnf)) ?_; apply gw_d; exact det_ar rfl rfl rfl rfl rfl (by omega); refine gM rfl rfl (by conv => (lhs; whnf)) ?_; refine gw_nil ?_)
        exact gx_round (k + 1) ⟨by omega, firstE_snoc hI (by rw [he]; simpa using h5)⟩ (by omega) (by repeat (first | exact Keeps.refl | refine Keeps.upd rfl ?_ | refine Keeps.sets rfl ?_ | refine Keeps.havoc rfl ?_)) ⟨rfl, trivial⟩ .nil
    · obtain rfl : k = l.length := by omega
      have hall : ∀ i, i < l.length → 2 ≤ (gE l i).2.length ∧ (gE l i).2.length ≤ 40 := fun i hi => pline_len (edge_pline (firstE_at hI i hi))
      focus (refine gc_exit ?_; refine gx_then_exit ?_; refine gx_then_exit ?_; refine gx_block_exit ?_; refine gx_next ?_; refine gc_seq ?_; refine gc_seq ?_; refine gc_region ?_; refine gM rfl rfl (by conv => (lhs; whnf)) ?_; refine gO ?_; refine gc_block ?_)
      refine gc_loop (σ := Nat) [44, 45, 46, 47, 50, 51, 52, 53, 54, 55, 56, 57, 58, 59, 60, 61, 62, 63, 6, 7, 64, 65, 66, 67, 68, 69, 70, 71, 72, 73, 2, 48, 49, 5] (fun k => [(5, .int .i64 k)]) (fun _ => []) (fun k => k ≤ l.length ∧ gapB l k = false) (fun k => l.length - k) 0 ⟨Nat.zero_le _, rfl⟩ ⟨rfl, trivial⟩ .nil ?_
      rintro i base2 ⟨hi, hJ⟩
      focus (refine gc_seq ?_; refine gc_seq ?_; refine gc_region ?_; refine gM rfl rfl (by conv => (lhs; whnf)) ?_; refine gM rfl rfl (by conv => (lhs; whnf)) ?_; refine gL rfl rfl rfl ?_; refine gC rfl rfl rfl rfl rfl ?_; refine gO ?_)
      refine gc_if_dec rfl (fun h => ?_) (fun h => ?_)
      · have hlt : i < l.length := by omega
        have hp1 : (i + 1) % l.length < l.length := Nat.mod_lt _ (by omega)
        obtain ⟨A1, c1, hce1, _, hc1, hm1, hsl1⟩ := hcell i hlt
        obtain ⟨A2, c2, hce2, _, hc2, hm2, hsl2⟩ := hcell _ hp1
        have hn1 := hall i hlt
        have hn2 := hall _ hp1
        obtain ⟨a1, c1', hv1, _, _, hb1, hs1⟩ := hsl1.spot' (by omega)
        obtain ⟨a2, c2', hv2, _, _, hb2, hs2⟩ := hsl2.spot' (by omega)
        injection hv1 with e1 e2 e3
        injection hv2 with e4 e5 e6
        subst e1 e3 e4 e6
        have hcs1 := hs1 ((gE l i).2.length - 1) (by omega)
        have hcs2 := hs2 0 (by omega)
        focus (refine gc_skip ?_; refine gx_next ?_; refine gc_seq ?_; refine gc_block ?_; refine gc_seq ?_)
        refine gc_draw 15 (by kernel_rfl) (by kernel_rfl) ?_
        focus (apply gd_d; exact det_m rfl rfl (by conv => (lhs; whnf)); apply gd_d; exact det_m rfl rfl (by conv => (lhs; whnf)); apply gd_d; exact w_index rfl rfl rfl rfl (by with_reducible exact rfl) (by omega); apply gd_d; exact w_field rfl rfl rfl; apply gd_d; exact w_load_fld rfl rfl rfl hb (hce1 1 _ rfl); apply gd_d; exact det_m rfl rfl (by conv => (lhs; whnf)); apply gd_d; exact det_m rfl rfl (by conv => (lhs; whnf)); apply gd_d; exact det_ar rfl rfl rfl rfl rfl (by omega); apply gd_d; exact det_m rfl rfl (by conv => (lhs; whnf)); apply gd_d; exact w_len rfl rfl rfl; apply gd_d; exact det_rem rfl rfl rfl rfl (by omega) (by omega); apply gd_d; exact w_index rfl rfl rfl rfl (by with_reducible exact castM _ _) (by omega); apply gd_d; exact w_field rfl rfl rfl; apply gd_d; exact w_load_fld rfl rfl rfl hb (hce2 1 _ rfl); apply gd_d; exact det_m rfl rfl (by conv => (lhs; whnf)); refine gd_nil ?_; refine gM rfl rfl (by conv => (lhs; whnf)) ?_; refine gO ?_; refine gc_seq ?_)
        refine gc_draw 10 (by kernel_rfl) (by kernel_rfl) ?_
        focus (apply gd_d; exact det_m rfl rfl (by conv => (lhs; whnf)); apply gd_d; exact det_m rfl rfl (by conv => (lhs; whnf)); apply gd_d; exact w_len rfl rfl rfl; apply gd_d; exact det_ar rfl rfl rfl rfl rfl (by omega); apply gd_d; exact w_index rfl rfl rfl rfl (by with_reducible exact castS (by omega)) (by omega); apply gd_d; exact w_load_elem rfl rfl rfl (by assumption) (by assumption) (by rfl); apply gd_d; exact det_m rfl rfl (by conv => (lhs; whnf)); apply gd_d; exact w_index rfl rfl rfl rfl (by with_reducible exact cast0) (by omega); apply gd_d; exact w_load_elem rfl rfl rfl (by assumption) (by assumption) (by rfl); apply gd_d; exact w_ne2 rfl rfl rfl rfl; refine gd_nil ?_; refine gO ?_)
        refine gc_if_dec rfl (fun h5 => ?_) (fun h5 => ?_)
        · focus (refine gc_seq ?_; refine gc_region ?_; refine gM rfl rfl (by conv => (lhs; whnf)) ?_; refine gO ?_; refine gc_ret ?_; refine gx_block_ret ?_; refine gx_then_ret ?_; refine gx_then_ret ?_; refine gx_block_ret ?_; refine gx_then_ret ?_)
          refine gx_ret1 (v := .int _ _) rfl rfl (fun _ _ => ?_)
          have : gapB l l.length = true := range_any_no hlt (by unfold gapAt; exact decide_eq_true h5)
          unfold outlineE
          rw [if_neg h16, if_neg h2, if_pos hI, if_pos this]
        · focus (refine gc_skip ?_; refine gx_block ?_; refine gx_next ?_; refine gc_region ?_; refine gM rfl rfl (by conv => (lhs; whnf)) ?_; apply gw_d; exact det_ar rfl rfl rfl rfl rfl (by omega); refine gM rfl rfl (by conv => (lhs; whnf)) ?_; refine gw_nil ?_)
          exact gx_round (i + 1) ⟨by omega, range_any_snoc hJ (by unfold gapAt; exact decide_eq_false h5)⟩ (by omega) (by repeat (first | exact Keeps.refl | refine Keeps.upd rfl ?_ | refine Keeps.sets rfl ?_ | refine Keeps.havoc rfl ?_)) ⟨rfl, trivial⟩ .nil
      · obtain rfl : i = l.length := by omega
        have hpoly : outlineE l = polyE (vertsOf l) := by
          unfold outlineE
          rw [if_neg h16, if_neg h2, if_pos hI, if_neg (by rw [hJ]; decide)]
        focus (refine gc_exit ?_; refine gx_then_exit ?_; refine gx_then_exit ?_; refine gx_block_exit ?_; refine gx_next ?_; refine gc_seq ?_; refine gc_region ?_; refine gM rfl rfl (by conv => (lhs; whnf)) ?_)
        refine gw_callm rfl (fun w s => r_vertices_ok w _ l (hl.later s) (by omega) (by omega) (fun x hx => ?_)) rfl (fun x => ?_)
        · obtain ⟨i, hi, rfl⟩ := List.getElem_of_mem hx
          have := hall i hi
          rw [gE_get hi] at this
          omega
        · focus (apply gw_d; exact w_call rfl rfl (fun w s => r_polygon_ok w _ (vertsOf l) (Sl.own (enc := encS) s .here rfl (fun p hp => ⟨rfl, verts_in hl p hp⟩))) rfl; refine gM rfl rfl (by conv => (lhs; whnf)) ?_; refine gO ?_; refine gc_ret ?_)
          refine gx_ret1 (v := .int _ _) rfl rfl (fun _ _ => ?_)
          rw [hpoly]
  · obtain ⟨A, c, rfl, hc, hm⟩ := len_small hl
    refine ok_enter Tryz.func109 rfl Tryz.ntmps109 rfl ?_
    focus (refine gc_seq ?_; refine gc_region ?_; refine gM rfl rfl (by conv => (lhs; whnf)) ?_; refine gO ?_; refine gc_seq ?_; refine gc_seq ?_; refine gc_region ?_; refine gM rfl rfl (by conv => (lhs; whnf)) ?_; refine gL rfl rfl rfl ?_; refine gC rfl rfl rfl rfl rfl ?_; refine gO ?_)
    refine gc_if_dec rfl (fun h => by omega) (fun h => ?_)
    focus (refine gc_skip ?_; refine gx_next ?_; refine gc_seq ?_; refine gc_seq ?_; refine gc_region ?_; refine gM rfl rfl (by conv => (lhs; whnf)) ?_; refine gL rfl rfl rfl ?_; refine gC rfl rfl rfl rfl rfl ?_; refine gO ?_)
    refine gc_if_dec rfl (fun h => ?_) (fun h => by omega)
    focus (refine gc_seq ?_; refine gc_region ?_; refine gM rfl rfl (by conv => (lhs; whnf)) ?_; refine gO ?_; refine gc_ret ?_; refine gx_then_ret ?_)
    refine gx_ret1 (v := .int _ _) rfl rfl (fun _ _ => ?_)
    have h1 : ¬ 16 < l.length := by omega
    have h2 : l.length < 2 := by omega
    simp [outlineE, h1, h2]
end Go.Proofs.YtckhibfbdnoigaaGreat

/- Contracts: grading by 0 by the chapter's own rule (reference 21). -/
namespace Go.Proofs.YtckhibfbdnoigaaGreat
open Go.RowKit
set_option maxRecDepth 100000
set_option maxHeartbeats 4000000

theorem r_within21_ok (w : World) (n b : Int) (hb : 0 ≤ b ∧ b ≤ 100000) : Ok Tryz.prog 108 [.int .i64 n, .int .i64 b].toArray w fun r _ => r = .bool (decide (-b ≤ n ∧ n ≤ b)) := by
  refine ok_enter Tryz.func108 rfl Tryz.ntmps108 rfl ?_
  focus (refine gc_seq ?_; refine gc_region ?_; refine gM rfl rfl (by conv => (lhs; whnf)) ?_; refine gN ?_; refine gM rfl rfl (by conv => (lhs; whnf)) ?_; refine gM rfl rfl (by conv => (lhs; whnf)) ?_; apply gw_d; exact det_neg rfl rfl rfl (wrap_in (by omega)); refine gC rfl rfl rfl rfl rfl ?_; refine gM rfl rfl (by conv => (lhs; whnf)) ?_; refine gw_guard_dec rfl rfl (fun _ => ?_) (fun _ => ?_); refine gM rfl rfl (by conv => (lhs; whnf)) ?_; refine gM rfl rfl (by conv => (lhs; whnf)) ?_; refine gC rfl rfl rfl rfl rfl ?_; apply gw_d; exact det_pick_t (v := .bool _) rfl rfl rfl rfl; refine gM rfl rfl (by conv => (lhs; whnf)) ?_; refine gO ?_; refine gc_ret ?_; rotate_left; refine gU rfl ?_; refine gU rfl ?_; refine gU rfl ?_; apply gw_d; exact det_pick_f (v := .bool _) rfl rfl rfl rfl; refine gM rfl rfl (by conv => (lhs; whnf)) ?_; refine gO ?_; refine gc_ret ?_; rotate_left)
  all_goals (refine gx_ret1 (v := .bool _) rfl rfl (fun _ _ => ?_); congr 1; symm; first | (apply decide_eq_true; omega) | (apply decide_eq_false; omega) | (congr 1; apply propext; constructor <;> omega))
theorem r_round0_ok (w : World) (a b : Int) (ha : a = 0) (hb : 1 ≤ b ∧ b ≤ 1000) : Ok Tryz.prog 140 [.int .i64 a, .int .i64 b].toArray w fun r _ => r = .int .i64 0 := by
  subst ha
  refine ok_enter Tryz.func140 rfl Tryz.ntmps140 rfl ?_
  focus (refine gc_seq ?_; refine gc_region ?_; refine gM rfl rfl (by conv => (lhs; whnf)) ?_; refine gO ?_; refine gc_seq ?_; refine gc_seq ?_; refine gc_region ?_; refine gM rfl rfl (by conv => (lhs; whnf)) ?_; refine gC rfl rfl rfl rfl rfl ?_; refine gO ?_)
  refine gc_if_dec rfl (fun h => absurd h (by decide)) (fun _ => ?_)
  focus (refine gc_skip ?_; refine gx_next ?_; refine gc_seq ?_; refine gc_region ?_; refine gM rfl rfl (by conv => (lhs; whnf)) ?_; apply gw_d; exact det_ar rfl rfl rfl rfl rfl (by omega); refine gM rfl rfl (by conv => (lhs; whnf)) ?_; apply gw_d; exact det_ar rfl rfl rfl rfl rfl (by omega); refine gM rfl rfl (by conv => (lhs; whnf)) ?_; apply gw_d; exact det_ar rfl rfl rfl rfl rfl (by omega); apply gw_d; exact det_quo rfl rfl rfl rfl (by omega) (by omega) (by omega); refine gM rfl rfl (by conv => (lhs; whnf)) ?_; refine gO ?_; refine gc_ret ?_)
  refine gx_ret1 (v := .int _ _) rfl rfl (fun _ _ => ?_)
  rw [Int.ediv_eq_zero_of_lt (by omega) (by omega)]

theorem r_graded0_ok (w : World) (nm : ByteArray) (A : Option Addr) (c : Nat) (l : List (Int × Int)) (hl : Sl rSpot w w.heap.size (.slice A l.length c) l) (h2 : 2 ≤ l.length) (h40 : l.length ≤ 40) :
    OkM Tryz.prog 110 [.agg #[.string nm, .slice A l.length c], .agg #[.int .i64 0, .int .i64 0], .agg #[.int .i64 0, .int .i64 0]].toArray w
      (fun x : Option Addr × Nat => .agg #[.string nm, .slice x.1 l.length x.2]) (fun x => [Own x.1 l.length x.2 130 2 (l.flatMap encS)]) := by
  obtain ⟨ad, c', hv, hc, hm, hb, hcell⟩ := hl.spot' (by omega)
  injection hv with e1 e2 e3
  subst e1 e3
  unfold OkM
  refine ok_enter Tryz.func110 rfl Tryz.ntmps110 rfl ?_
  focus (refine gc_seq ?_; refine gc_region ?_; refine gw_boxd (v := .agg _) rfl rfl (fun _ => ?_); refine gw_boxd (v := .agg _) rfl rfl (fun _ => ?_); refine gw_boxd (v := .agg _) rfl rfl (fun _ => ?_); refine w_alloc rfl (fun _ => ?_); refine gN ?_; refine gF rfl rfl rfl ?_; apply gw_d; exact w_load_box rfl rfl rfl (.there (.there (.there .here))) rfl; apply gw_d; exact w_build (cells := #[.string nm, .slice none 0 0]) rfl rfl (by rfl); refine w_alloc rfl (fun _ => ?_); refine w_store_all rfl rfl rfl rfl rfl .here rfl ?_; refine gN ?_; refine gF rfl rfl rfl ?_; apply gw_d; exact w_load_box rfl rfl rfl (.there (.there (.there (.there .here)))) rfl; refine gL rfl rfl rfl ?_; apply gw_d; exact det_ar rfl rfl rfl rfl rfl (by omega); refine gM rfl rfl (by conv => (lhs; whnf)) ?_; refine gO ?_; refine gc_seq ?_; refine gc_seq ?_; refine gc_region ?_; refine gM rfl rfl (by conv => (lhs; whnf)) ?_; refine gO ?_; refine gc_block ?_)
  rename_i bx ba bb b6 b7
  refine gc_own0 130 2 ?_
  refine gc_loop (σ := Nat × Option Addr × Nat) [18, 19, 20, 23, 24, 25, 26, 27, 28, 29, 30, 31, 32, 33, 34, 35, 36, 37, 38, 39, 40, 41, 42, 43, 44, 45, 46, 47, 48, 49, 10, 50, 51, 52, 53, 54, 55, 56, 57, 58, 59, 60, 61, 62, 63, 64, 65, 66, 67, 68, 69, 70, 71, 72, 73, 21, 22, 9] (fun s => [(9, .int .i64 s.1)])
    (fun s => [Box b7 132 #[.string nm, .slice s.2.1 s.1 s.2.2], Own s.2.1 s.1 s.2.2 130 2 ((l.take s.1).flatMap encS), Box b6 132 #[.string ByteArray.empty, .slice none 0 0], Box bb 130 #[.int .i64 0, .int .i64 0], Box ba 130 #[.int .i64 0, .int .i64 0], Box bx 132 #[.string nm, .slice (some ad) l.length c]])
    (fun s => s.1 ≤ l.length) (fun s => l.length - s.1) (0, none, 0) (Nat.zero_le _) ⟨rfl, trivial⟩ (.cons (.there .here) (.cons .here (.cons .here (.cons .here (.cons .here (.cons .here .nil)))))) ?_
  rintro ⟨k, A1, c1⟩ base hk
  dsimp only at hk ⊢
  focus (refine gc_seq ?_; refine gc_seq ?_; refine gc_region ?_; refine gM rfl rfl (by conv => (lhs; whnf)) ?_; refine gM rfl rfl (by conv => (lhs; whnf)) ?_; refine gC rfl rfl rfl rfl rfl ?_; refine gO ?_)
  refine gc_if_dec rfl (fun h => ?_) (fun h => ?_)
  · have hlt : k < l.length := by omega
    have hce := hcell k hlt
    have hin := hl.spots_in (gS l k) (by rw [gS_get hlt]; exact List.getElem_mem hlt)
    unfold inI64 at hin
    focus (refine gc_skip ?_; refine gx_next ?_; refine gc_seq ?_; refine gc_block ?_; refine gc_seq ?_)
    refine gc_block_draw Nat 28 (fun i => ([[], [], [0, 1], [], [3], [0, 1, 2, 3, 4], [], [], [7], [6, 7, 8], [0, 1, 2, 3, 4, 5, 6, 7, 8, 9], [], [0, 1, 2, 3, 4, 5, 6, 7, 8, 9, 10, 11], [], [], [13, 14], [], [16], [13, 14, 15, 16, 17], [], [], [20], [19, 20, 21], [13, 14, 15, 16, 17, 18, 19, 20, 21, 22], [], [0, 1, 2, 3, 4, 5, 6, 7, 8, 9, 10, 11, 12, 13, 14, 15, 16, 17, 18, 19, 20, 21, 22, 23, 24], [0, 1, 2, 3, 4, 5, 6, 7, 8, 9, 10, 11, 12, 13, 14, 15, 16, 17, 18, 19, 20, 21, 22, 23, 24, 25], []] : List (List Nat)).getD i []) rfl (by kernel_rfl) ?_
    focus (apply gb_d; (intro γ; exact det_m rfl rfl (by conv => (lhs; whnf))); (intros; rfl); (intros; rfl); apply gb_d; (intro γ; exact det_m rfl rfl (by conv => (lhs; whnf))); (intros; rfl); (intros; rfl); apply gb_d; (intro γ; exact det_ar rfl rfl rfl rfl rfl (by omega)); (intros; rfl); (intros; rfl); apply gb_d; (intro γ; exact w_field rfl rfl rfl); (intros; rfl); (intros; rfl); apply gb_d; (intro γ; exact w_load_box rfl rfl rfl (.there (.there (.there (.there .here)))) rfl); (intros; rfl); (intros; rfl); apply gb_d; (intro γ; exact det_ar rfl rfl rfl rfl rfl (by omega)); (intros; rfl); (intros; rfl); apply gb_d; (intro γ; exact det_m rfl rfl (by conv => (lhs; whnf))); (intros; rfl); (intros; rfl); apply gb_d; (intro γ; exact w_field rfl rfl rfl); (intros; rfl); (intros; rfl); apply gb_d; (intro γ; exact w_load_box rfl rfl rfl (.there (.there (.there .here))) rfl); (intros; rfl); (intros; rfl); apply gb_d; (intro γ; exact det_ar rfl rfl rfl rfl rfl (by omega)); (intros; rfl); (intros; rfl); apply gb_d; (intro γ; exact det_ar rfl rfl rfl rfl rfl (by omega)); (intros; rfl); (intros; rfl); apply gb_d; (intro γ; exact det_m rfl rfl (by conv => (lhs; whnf))); (intros; rfl); (intros; rfl); apply gb_d; (intro γ; exact w_call rfl rfl (fun w s => r_round0_ok w _ _ (by omega) (by omega)) rfl); (intros; rfl); (intros; rfl); apply gb_d; (intro γ; exact det_m rfl rfl (by conv => (lhs; whnf))); (intros; rfl); (intros; rfl); apply gb_d; (intro γ; exact det_m rfl rfl (by conv => (lhs; whnf))); (intros; rfl); (intros; rfl); apply gb_d; (intro γ; exact det_ar rfl rfl rfl rfl rfl (by omega)); (intros; rfl); (intros; rfl); apply gb_d; (intro γ; exact w_field rfl rfl rfl); (intros; rfl); (intros; rfl); apply gb_d; (intro γ; exact w_load_box rfl rfl rfl (.there (.there (.there (.there .here)))) rfl); (intros; rfl); (intros; rfl); apply gb_d; (intro γ; exact det_ar rfl rfl rfl rfl rfl (by omega)); (intros; rfl); (intros; rfl); apply gb_d; (intro γ; exact det_m rfl rfl (by conv => (lhs; whnf))); (intros; rfl); (intros; rfl); apply gb_d; (intro γ; exact w_field rfl rfl rfl); (intros; rfl); (intros; rfl); apply gb_d; (intro γ; exact w_load_box rfl rfl rfl (.there (.there (.there .here))) rfl); (intros; rfl); (intros; rfl); apply gb_d; (intro γ; exact det_ar rfl rfl rfl rfl rfl (by omega)); (intros; rfl); (intros; rfl); apply gb_d; (intro γ; exact det_ar rfl rfl rfl rfl rfl (by omega)); (intros; rfl); (intros; rfl); apply gb_d; (intro γ; exact det_m rfl rfl (by conv => (lhs; whnf))); (intros; rfl); (intros; rfl); apply gb_d; (intro γ; exact w_call rfl rfl (fun w s => r_round0_ok w _ _ (by omega) (by omega)) rfl); (intros; rfl); (intros; rfl); apply gb_d; (intro γ; exact w_build (cells := #[.int .i64 0, .int .i64 0]) rfl rfl (by rfl)); (intros; rfl); (intros; rfl))
    refine gb_alloc id id (fun _ => rfl) (fun _ => rfl) ?_
    refine GB.nil (fun β => ?_)
    refine w_store_all (b := β 27) (cs := #[.int .i64 0, .int .i64 0]) (vs := #[.int .i64 0, .int .i64 0]) rfl rfl rfl rfl rfl .here rfl ?_
    generalize β 27 = bd
    focus (refine gO ?_)
    refine gc_block_draw Nat 22 (fun i => ([[], [0], [], [2], [], [2, 3, 4], [2, 3, 4, 5], [2, 3, 4, 5, 6], [], [8], [2, 3, 4, 5, 6, 7, 8, 9], [], [11], [], [11, 12, 13], [11, 12, 13, 14], [11, 12, 13, 14, 15], [], [17], [11, 12, 13, 14, 15, 16, 17, 18], [2, 3, 4, 5, 6, 7, 8, 9, 10, 11, 12, 13, 14, 15, 16, 17, 18, 19], [2, 3, 4, 5, 6, 7, 8, 9, 10, 11, 12, 13, 14, 15, 16, 17, 18, 19, 20]] : List (List Nat)).getD i []) rfl (by kernel_rfl) ?_
    focus (apply gb_d; (intro γ; exact w_field rfl rfl rfl); (intros; rfl); (intros; rfl); apply gb_d; (intro γ; exact w_load_box rfl rfl rfl (.there .here) rfl); (intros; rfl); (intros; rfl); apply gb_d; (intro γ; exact w_field rfl rfl rfl); (intros; rfl); (intros; rfl); apply gb_d; (intro γ; exact w_load_box rfl rfl rfl (.there (.there (.there (.there (.there (.there .here)))))) rfl); (intros; rfl); (intros; rfl); apply gb_d; (intro γ; exact det_m rfl rfl (by conv => (lhs; whnf))); (intros; rfl); (intros; rfl); apply gb_d; (intro γ; exact w_index rfl rfl rfl rfl (by with_reducible exact rfl) (by omega)); (intros; rfl); (intros; rfl); apply gb_d; (intro γ; exact w_field rfl rfl rfl); (intros; rfl); (intros; rfl); apply gb_d; (intro γ; exact w_load_fld rfl rfl rfl hb (hce 0 _ rfl)); (intros; rfl); (intros; rfl); apply gb_d; (intro γ; exact w_field rfl rfl rfl); (intros; rfl); (intros; rfl); apply gb_d; (intro γ; exact w_load_box rfl rfl rfl .here rfl); (intros; rfl); (intros; rfl); apply gb_d; (intro γ; exact det_ar rfl rfl rfl rfl rfl (by omega)); (intros; rfl); (intros; rfl); apply gb_d; (intro γ; exact w_field rfl rfl rfl); (intros; rfl); (intros; rfl); apply gb_d; (intro γ; exact w_load_box rfl rfl rfl (.there (.there (.there (.there (.there (.there .here)))))) rfl); (intros; rfl); (intros; rfl); apply gb_d; (intro γ; exact det_m rfl rfl (by conv => (lhs; whnf))); (intros; rfl); (intros; rfl); apply gb_d; (intro γ; exact w_index rfl rfl rfl rfl (by with_reducible exact rfl) (by omega)); (intros; rfl); (intros; rfl); apply gb_d; (intro γ; exact w_field rfl rfl rfl); (intros; rfl); (intros; rfl); apply gb_d; (intro γ; exact w_load_fld rfl rfl rfl hb (hce 1 _ rfl)); (intros; rfl); (intros; rfl); apply gb_d; (intro γ; exact w_field rfl rfl rfl); (intros; rfl); (intros; rfl); apply gb_d; (intro γ; exact w_load_box rfl rfl rfl .here rfl); (intros; rfl); (intros; rfl); apply gb_d; (intro γ; exact det_ar rfl rfl rfl rfl rfl (by omega)); (intros; rfl); (intros; rfl); apply gb_d; (intro γ; exact w_build (cells := #[.int .i64 ((gS l k).1 + 0), .int .i64 ((gS l k).2 + 0)]) rfl rfl (by rfl)); (intros; rfl); (intros; rfl))
    refine gb_bslice1 (fun _ => .agg #[.int .i64 ((gS l k).1 + 0), .int .i64 ((gS l k).2 + 0)]) id id (fun _ => rfl) (fun _ => rfl) (fun _ => rfl) (fun _ => rfl) rfl rfl (fun _ _ => rfl) (fun _ => rfl) ?_
    refine GB.nil (fun γ => ?_)
    have hrow : (l.take (k + 1)).flatMap encS = (l.take k).flatMap encS ++ [.int .i64 ((gS l k).1 + 0), .int .i64 ((gS l k).2 + 0)] := by
      rw [List.take_succ_eq_append_getElem hlt, List.flatMap_append, gS_get hlt, Int.add_zero, Int.add_zero]
      simp [encS]
    refine gw_append (news := [.int .i64 ((gS l k).1 + 0), .int .i64 ((gS l k).2 + 0)]) rfl rfl rfl (.there (.there (.there .here))) rfl (fun w' s _ => ?_) (fun u hu => ?_) (by unfold maxLen; omega) (by omega) (by decide) rfl (fun A2 c2 => ?_)
    · refine ⟨⟨γ 21, 0, none⟩, rfl, fun j u hu => ?_⟩
      rw [add_zero]
      refine (Box.cell s.head j).trans ?_
      change (#[Value.int .i64 ((gS l k).1 + 0), Value.int .i64 ((gS l k).2 + 0)] : Array Value)[j]? = some u
      rw [List.getElem?_toArray]
      exact hu
    · simp only [List.mem_cons, List.not_mem_nil, or_false] at hu
      rcases hu with rfl | rfl <;> rfl
    · rw [← hrow]
      focus (refine gF rfl rfl rfl ?_; refine w_store rfl rfl rfl rfl rfl (.there (.there (.there .here))) rfl rfl ?_; refine gw_nil ?_; refine gx_block ?_; refine gx_next ?_; refine gc_region ?_; refine gM rfl rfl (by conv => (lhs; whnf)) ?_; apply gw_d; exact det_ar rfl rfl rfl rfl rfl (by omega); refine gM rfl rfl (by conv => (lhs; whnf)) ?_; refine gw_nil ?_)
      exact gx_round (k + 1, A2, c2) (by dsimp only; omega) (by dsimp only; omega) (by repeat (first | exact Keeps.refl | refine Keeps.upd rfl ?_ | refine Keeps.sets rfl ?_ | refine Keeps.havoc rfl ?_)) ⟨rfl, trivial⟩ (.cons .here (.cons .here (.cons (.there (.there .here)) (.cons (.there (.there .here)) (.cons (.there (.there .here)) (.cons (.there (.there .here)) .nil))))))
  · obtain rfl : k = l.length := by omega
    rw [List.take_length]
    focus (refine gc_exit ?_; refine gx_then_exit ?_; refine gx_then_exit ?_; refine gx_block_exit ?_; refine gx_next ?_; refine gc_seq ?_; refine gc_region ?_; apply gw_d; exact w_load_boxN rfl rfl rfl .here rfl; refine w_store_all rfl rfl rfl rfl rfl (.there (.there .here)) rfl ?_; refine gO ?_; refine gc_ret ?_)
    refine gx_retc rfl rfl .here rfl fun w' s => ?_
    exact ⟨(A1, c1), rfl, (s.sub (K := [Own A1 l.length c1 130 2 (l.flatMap encS)]) (.cons (.there (.there .here)) .nil)).sep⟩

/-! ### Lines of a function's own, and edges made of them -/
def linesO (ls : List (List (Int × Int))) (vs : List (Option Addr × Nat)) (w : World) : Prop :=
  vs.length = ls.length ∧ ∀ (i : Nat) (x : Option Addr × Nat) (l : List (Int × Int)), vs[i]? = some x → ls[i]? = some l → (Own x.1 l.length x.2 130 2 (l.flatMap encS)).p w
def fpO (ls : List (List (Int × Int))) (vs : List (Option Addr × Nat)) (b : Nat) : Prop := ∃ (i : Nat) (x : Option Addr × Nat) (l : List (Int × Int)), vs[i]? = some x ∧ ls[i]? = some l ∧ (Value.slice x.1 l.length x.2).ownBlock = some b
def LinesO (ls : List (List (Int × Int))) (vs : List (Option Addr × Nat)) : Res :=
  ⟨fpO ls vs, linesO ls vs, fun w w' h ⟨h1, h2⟩ => ⟨h1, fun i x l hb hl => (Own x.1 l.length x.2 130 2 (l.flatMap encS)).stable w w' (fun b hb' => h b ⟨i, x, l, hb, hl, hb'⟩) (h2 i x l hb hl)⟩⟩
theorem gc_lineso {P : Program} {Q : Exit → Act → World → Prop} {N : Nat} {w0 : World} {L : List Res} {e : Env} {c : Code} (k : GC P Q N w0 (LinesO [] [] :: L) c e) : GC P Q N w0 L c e := ⟨fun w s =>
  k.h w (s.add (Ext.refl w) ⟨rfl, fun i b l hb => by simp at hb⟩ fun b hb => by
    obtain ⟨i, x, l, h, _⟩ := hb
    simp at h)⟩
theorem at_snoc {α β : Type} {ls : List α} {vs : List β} {l : α} {x : β} (h : vs.length = ls.length) {i : Nat} {y : β} {m : α} (hy : (vs ++ [x])[i]? = some y) (hm : (ls ++ [l])[i]? = some m) : (vs[i]? = some y ∧ ls[i]? = some m) ∨ (y = x ∧ m = l) := by
  rcases Nat.lt_or_ge i vs.length with hi | hi
  · rw [List.getElem?_append_left hi] at hy
    rw [List.getElem?_append_left (by omega)] at hm
    exact .inl ⟨hy, hm⟩
  · rw [List.getElem?_append_right hi] at hy
    rw [List.getElem?_append_right (by omega), ← h] at hm
    cases hk : i - vs.length with
    | zero =>
      rw [hk] at hy hm
      simp at hy hm
      exact .inr ⟨hy.symm, hm.symm⟩
    | succ m => rw [hk] at hy; simp at hy
theorem LinesO.snoc {ls : List (List (Int × Int))} {vs : List (Option Addr × Nat)} {l : List (Int × Int)} {x : Option Addr × Nat} {L : List Res} : Ent (Own x.1 l.length x.2 130 2 (l.flatMap encS) :: LinesO ls vs :: L) (LinesO (ls ++ [l]) (vs ++ [x]) :: L) := fun w0 w s => by
  have h1 := s.head
  obtain ⟨h2, h3⟩ := s.drop.head
  refine s.merge (fun b hb => ?_) ⟨by simp [h2], fun i y m hy hm => ?_⟩
  · obtain ⟨i, y, m, hy, hm, ho⟩ := hb
    rcases at_snoc h2 hy hm with ⟨q1, q2⟩ | ⟨rfl, rfl⟩
    · exact .inr ⟨i, y, m, q1, q2, ho⟩
    · exact .inl ho
  · rcases at_snoc h2 hy hm with ⟨q1, q2⟩ | ⟨rfl, rfl⟩
    · exact h3 i y m q1 q2
    · exact h1
def encO (p : Edg × (Option Addr × Nat)) : List Value := [.string p.1.1, .slice p.2.1 p.1.2.length p.2.2]
def rowO (l : List Edg) (vs : List (Option Addr × Nat)) : List Value := (l.zip vs).flatMap encO
theorem rowO_snoc {l : List Edg} {vs : List (Option Addr × Nat)} {x : Edg} {b : Option Addr × Nat} (h : l.length = vs.length) : rowO (l ++ [x]) (vs ++ [b]) = rowO l vs ++ encO (x, b) := by
  unfold rowO
  rw [List.zip_append h, List.flatMap_append]
  simp
theorem deep_edgesO {A : Option Addr} {n c : Nat} {l : List Edg} {vs : List (Option Addr × Nat)} {L : List Res} (hn : n = l.length) (hin : ∀ x ∈ l, x.1.size ≤ maxLen ∧ x.2.length ≤ 40 ∧ ∀ p ∈ x.2, inI64 p.1 ∧ inI64 p.2) :
    Ent (Own A n c 132 2 (rowO l vs) :: LinesO (l.map (·.2)) vs :: L) (Deep (fun x => (Value.slice A n c).ownBlock = some x ∨ fpO (l.map (·.2)) vs x) rEdge (.slice A n c) l :: L) := fun w0 w s => by
  have hown : w.ownsRow 0 132 2 (.slice A n c) n (rowO l vs) := s.head
  obtain ⟨h2, h3⟩ := s.drop.head
  rw [List.length_map] at h2
  refine s.merge (fun x hx => hx) ?_
  subst hn
  change SlS rEdge w (fun x => (Value.slice A l.length c).ownBlock = some x ∨ fpO (l.map (·.2)) vs x) (.slice A l.length c) l
  rcases hown.2 with ⟨hv, h0⟩ | ⟨g, cap, cur, hv, _, hg, h1, h2', _⟩
  · injection hv with e1 e2 e3
    subst e1 e3
    exact ⟨none, 0, rfl, by omega, Nat.zero_le _, fun k hk => by omega⟩
  · injection hv with e1 e2 e3
    subst e1 e3
    refine ⟨_, _, rfl, h1, h2', fun k hk => ?_⟩
    have hkb : k < vs.length := by omega
    have hz : (l.zip vs)[k]? = some (l[k], vs[k]) := by rw [List.getElem?_zip_eq_some]; exact ⟨List.getElem?_eq_getElem hk, List.getElem?_eq_getElem hkb⟩
    have hkz : k < (l.zip vs).length := (List.getElem?_eq_some_iff.1 hz).1
    have hzz : (l.zip vs)[k] = (l[k], vs[k]) := (List.getElem?_eq_some_iff.1 hz).2
    have hmap : (l.map (·.2))[k]? = some l[k].2 := by rw [List.getElem?_map, List.getElem?_eq_getElem hk]; rfl
    have hline : w.ownsRow 0 130 2 (.slice vs[k].1 l[k].2.length vs[k].2) l[k].2.length (l[k].2.flatMap encS) := h3 k vs[k] l[k].2 (List.getElem?_eq_getElem hkb) hmap
    obtain ⟨q1, q2, q3⟩ := hin l[k] (List.getElem_mem hk)
    refine ⟨⟨g, 0, none⟩, encO (l[k], vs[k]), rfl, .inl rfl, fun j u hu => ?_, _, rfl, q1, ?_⟩
    · refine hown.cells rfl _ u ?_
      have hj : j < 2 := (List.getElem?_eq_some_iff.1 hu).1
      have := flat_get (enc := encO) (sz := 2) (l.zip vs) (fun _ _ => rfl) k hkz j hj
      rw [hzz] at this
      exact this.trans hu
    · rcases hline.2 with ⟨hv, h0⟩ | ⟨g', cap', cur', hv, _, hg', h1', h2'', _⟩
      · injection hv with e1 e2 e3
        refine ⟨vs[k].1, vs[k].2, rfl, by omega, by unfold maxLen; omega, fun i hi => by omega⟩
      · have hv' := hv
        injection hv with e1 e2 e3
        refine ⟨vs[k].1, vs[k].2, rfl, by omega, by rw [e3]; exact h2'', fun i hi => ⟨⟨g', 0, none⟩, encS l[k].2[i], e1, .inr ⟨k, vs[k], l[k].2, List.getElem?_eq_getElem hkb, hmap, ?_⟩, fun j u hu => ?_, rfl, q3 _ (List.getElem_mem hi)⟩⟩
        · rw [e1]; rfl
        · have hj : j < 2 := (List.getElem?_eq_some_iff.1 hu).1
          have := flat_get (enc := encS) (sz := 2) l[k].2 (fun _ _ => rfl) i hi j hj
          rw [show rSpot.size = 2 from rfl]
          exact hline.cells (by rw [e1]; rfl) _ u (this.trans hu)
end Go.Proofs.YtckhibfbdnoigaaGreat

/- Contracts: an outline graded by 0, by the chapter's own rule (reference 21). -/
namespace Go.Proofs.YtckhibfbdnoigaaGreat
open Go.RowKit
set_option maxRecDepth 100000
set_option maxHeartbeats 4000000

theorem St.behind {w0 w : World} {K : List Res} : ∀ {X : List Res}, St w0 (X ++ K) w → St w0 K w
  | [], s => s
  | _ :: _, s => St.behind s.drop

theorem r_graded_ok (w : World) (nm : ByteArray) (g : Int) (m : Bool) (Ae An Ac Aw : Option Addr) (ce nn cn cc nw cw : Nat) (l : List Edg) (cs : List (Int × Int))
    (hl : Sl rEdge w w.heap.size (.slice Ae l.length ce) l) (hcs : Sl rSpot w w.heap.size (.slice Ac cs.length cc) cs) :
    OkM Tryz.prog 83 [.agg #[.string nm, .slice Ae l.length ce, .int .i64 g, .slice An nn cn, .slice Ac cs.length cc, .slice Aw nw cw, .bool m], .int .i64 0].toArray w
      (fun x : Option Addr × Nat × (Nat → Prop) => .tuple #[.slice x.1 (if gradedE l cs = 0 then l.length else 0) x.2.1, .int .i64 (gradedE l cs)])
      (fun x => if gradedE l cs = 0 then [Deep x.2.2 rEdge (.slice x.1 l.length x.2.1) l] else []) := by
  obtain ⟨A', c', hv, hcc, hcm, hccell⟩ := hcs.spot
  injection hv with e1 e2 e3
  subst e1 e3
  have hll := len_small hl
  obtain ⟨A', c', hv, hlc, hlm⟩ := hll
  injection hv with e1 e2 e3
  subst e1 e3
  have bad : ∀ k : Int, ¬ k = 0 → gradedE l cs = k → ∀ w' : World, ∃ x : Option Addr × Nat × (Nat → Prop), Value.tuple #[.slice none 0 0, .int .i64 k] = .tuple #[.slice x.1 (if gradedE l cs = 0 then l.length else 0) x.2.1, .int .i64 (gradedE l cs)] ∧
      Made w (if gradedE l cs = 0 then [Deep x.2.2 rEdge (.slice x.1 l.length x.2.1) l] else []) w' := fun k hk he w' => ⟨(none, 0, fun _ => False), by rw [he, if_neg hk], by rw [he, if_neg hk]; exact Made.nil _ _⟩
  unfold OkM
  refine ok_enter Tryz.func83 rfl Tryz.ntmps83 rfl ?_
  focus (refine gc_seq ?_; refine gc_region ?_; refine gw_boxd (v := .agg _) rfl rfl (fun _ => ?_); refine gM rfl rfl (by conv => (lhs; whnf)) ?_; refine gM rfl rfl (by conv => (lhs; whnf)) ?_; refine gO ?_; refine gc_seq ?_; refine gc_seq ?_; refine gc_region ?_; refine gM rfl rfl (by conv => (lhs; whnf)) ?_; apply gw_d; exact w_call rfl rfl (fun w s => r_within21_ok w _ _ (by decide)) rfl; apply gw_d; exact det_not_dec rfl rfl rfl; refine gO ?_)
  rename_i bp
  refine gc_if_dec rfl (fun h => absurd (by decide) h) (fun _ => ?_)
  focus (refine gc_skip ?_; refine gx_next ?_; refine gc_seq ?_; refine gc_region ?_; refine gF rfl rfl rfl ?_; apply gw_d; exact w_load_box rfl rfl rfl .here rfl; refine gL rfl rfl rfl ?_; refine gM rfl rfl (by conv => (lhs; whnf)) ?_; refine gO ?_; refine gc_seq ?_; refine gc_seq ?_; refine gc_region ?_; refine gF rfl rfl rfl ?_; apply gw_d; exact w_load_box rfl rfl rfl .here rfl; refine gL rfl rfl rfl ?_; refine gM rfl rfl (by conv => (lhs; whnf)) ?_; refine gC rfl rfl rfl rfl rfl ?_; refine gO ?_)
  refine gc_if_dec rfl (fun h => ?_) (fun h => ?_)
  · focus (refine gc_seq ?_; refine gc_region ?_; refine gM rfl rfl (by conv => (lhs; whnf)) ?_; refine gM rfl rfl (by conv => (lhs; whnf)) ?_; refine gO ?_; refine gc_ret ?_; refine gx_then_ret ?_)
    refine gx_ret2 (u := .slice _ _ _) (v := .int _ _) rfl rfl rfl (fun _ _ => ?_)
    exact bad 1 (by decide) (by unfold gradedE; rw [if_pos (by omega)]) _
  have hlen : cs.length = l.length := by omega
  focus (refine gc_skip ?_; refine gx_next ?_; refine gc_seq ?_; refine gc_seq ?_; refine gc_region ?_; refine gM rfl rfl (by conv => (lhs; whnf)) ?_; refine gO ?_; refine gc_block ?_)
  refine gc_loopK (σ := Nat) [25, 26, 27, 30, 31, 32, 33, 34, 35, 36, 37, 38, 39, 40, 41, 42, 43, 44, 45, 46, 47, 4, 5, 28, 29, 7] (fun k => [(7, .int .i64 k)]) (fun k => k ≤ cs.length ∧ (cs.take k).any farB = false) (fun k => cs.length - k) 0 ⟨Nat.zero_le _, rfl⟩ ⟨rfl, trivial⟩ ?_
  rintro k base ⟨hk, hI⟩
  focus (refine gc_seq ?_; refine gc_seq ?_; refine gc_region ?_; refine gM rfl rfl (by conv => (lhs; whnf)) ?_; refine gM rfl rfl (by conv => (lhs; whnf)) ?_; refine gC rfl rfl rfl rfl rfl ?_; refine gO ?_)
  refine gc_if_dec rfl (fun h => ?_) (fun h => ?_)
  · have hlt : k < cs.length := by omega
    obtain ⟨ad, rfl, hb, hce, _⟩ := hccell k hlt
    have hfar : farB cs[k] = true → cs.any farB = true := fun h => List.any_eq_true.2 ⟨_, List.getElem_mem hlt, h⟩
    have hsn : farB cs[k] = false → (cs.take (k + 1)).any farB = false := fun h => by rw [List.take_succ_eq_append_getElem hlt, List.any_append, hI]; simp [h]
    focus (refine gc_skip ?_; refine gx_next ?_; refine gc_seq ?_; refine gc_block ?_; refine gc_seq ?_; refine gc_region ?_; refine gF rfl rfl rfl ?_; apply gw_d; exact w_load_box rfl rfl rfl .here rfl; refine gM rfl rfl (by conv => (lhs; whnf)) ?_; apply gw_d; exact w_index rfl rfl rfl rfl (by with_reducible exact rfl) (by omega); refine gF rfl rfl rfl ?_; apply gw_d; exact w_load_fld rfl rfl rfl hb (hce 0 _ rfl); apply gw_d; exact w_call rfl rfl (fun w s => r_within21_ok w _ _ (by decide)) rfl; apply gw_d; exact det_not_dec rfl rfl rfl; refine gM rfl rfl (by conv => (lhs; whnf)) ?_; refine gw_guard_dec rfl rfl (fun _ => ?_) (fun _ => ?_); refine gU rfl ?_; refine gU rfl ?_; refine gU rfl ?_; refine gU rfl ?_; refine gU rfl ?_; refine gU rfl ?_; refine gU rfl ?_; refine gU rfl ?_; apply gw_d; exact det_pick_t (v := .bool _) rfl rfl rfl rfl; refine gO ?_; refine gc_if_true rfl ?_; refine gc_seq ?_; refine gc_region ?_; refine gM rfl rfl (by conv => (lhs; whnf)) ?_; refine gM rfl rfl (by conv => (lhs; whnf)) ?_; refine gO ?_; refine gc_ret ?_; refine gx_block_ret ?_; refine gx_then_ret ?_; refine gx_then_ret ?_; refine gx_block_ret ?_; refine gx_then_ret ?_; rotate_left; refine gF rfl rfl rfl ?_; apply gw_d; exact w_load_box rfl rfl rfl .here rfl; refine gM rfl rfl (by conv => (lhs; whnf)) ?_; apply gw_d; exact w_index rfl rfl rfl rfl (by with_reducible exact rfl) (by omega); refine gF rfl rfl rfl ?_; apply gw_d; exact w_load_fld rfl rfl rfl hb (hce 1 _ rfl); apply gw_d; exact w_call rfl rfl (fun w s => r_within21_ok w _ _ (by decide)) rfl; apply gw_d; exact det_not_dec rfl rfl rfl; apply gw_d; exact det_pick_f (v := .bool _) rfl rfl rfl rfl; refine gO ?_; refine gc_if_dec rfl (fun _ => ?_) (fun _ => ?_); refine gc_seq ?_; refine gc_region ?_; refine gM rfl rfl (by conv => (lhs; whnf)) ?_; refine gM rfl rfl (by conv => (lhs; whnf)) ?_; refine gO ?_; refine gc_ret ?_; refine gx_block_ret ?_; refine gx_then_ret ?_; refine gx_then_ret ?_; refine gx_block_ret ?_; refine gx_then_ret ?_; rotate_left; refine gc_skip ?_; refine gx_block ?_; refine gx_next ?_; refine gc_region ?_; refine gM rfl rfl (by conv => (lhs; whnf)) ?_; apply gw_d; exact det_ar rfl rfl rfl rfl rfl (by omega); refine gM rfl rfl (by conv => (lhs; whnf)) ?_; refine gw_nil ?_; rotate_left)
    · refine gx_ret2 (u := .slice _ _ _) (v := .int _ _) rfl rfl rfl (fun _ _ => ?_)
      exact bad 3 (by decide) (by unfold gradedE; rw [if_neg (by omega), if_pos (hfar (by unfold farB; simp only [Bool.or_eq_true, Bool.not_eq_true', decide_eq_false_iff_not]; left; assumption))]) _
    · refine gx_ret2 (u := .slice _ _ _) (v := .int _ _) rfl rfl rfl (fun _ _ => ?_)
      exact bad 3 (by decide) (by unfold gradedE; rw [if_neg (by omega), if_pos (hfar (by unfold farB; simp only [Bool.or_eq_true, Bool.not_eq_true', decide_eq_false_iff_not]; right; assumption))]) _
    · exact gx_round (k + 1) ⟨by omega, hsn (by unfold farB; simp only [Bool.or_eq_false_iff, Bool.not_eq_false', decide_eq_true_eq]; constructor <;> (apply Classical.not_not.1; assumption))⟩ (by omega) (by repeat (first | exact Keeps.refl | refine Keeps.upd rfl ?_ | refine Keeps.sets rfl ?_ | refine Keeps.havoc rfl ?_)) ⟨rfl, trivial⟩ (Sub.all _)
  obtain rfl : k = cs.length := by omega
  rw [List.take_length] at hI
  have hE : gradedE l cs = outlineE l := by unfold gradedE; rw [if_neg (by omega), if_neg (by rw [hI]; decide)]
  focus (refine gc_exit ?_; refine gx_then_exit ?_; refine gx_then_exit ?_; refine gx_block_exit ?_; refine gx_next ?_; refine gc_seq ?_; refine gc_seq ?_; refine gc_region ?_; refine gF rfl rfl rfl ?_; apply gw_d; exact w_load_box rfl rfl rfl .here rfl; apply gw_d; exact w_call rfl rfl (fun w s => r_outline_ok w _ l (hl.later s)) rfl; refine gM rfl rfl (by conv => (lhs; whnf)) ?_; refine gN ?_; refine gM rfl rfl (by conv => (lhs; whnf)) ?_; refine gC rfl rfl rfl rfl rfl ?_; refine gO ?_)
  refine gc_if_dec rfl (fun h => ?_) (fun h => ?_)
  · focus (refine gc_seq ?_; refine gc_region ?_; refine gM rfl rfl (by conv => (lhs; whnf)) ?_; refine gM rfl rfl (by conv => (lhs; whnf)) ?_; refine gM rfl rfl (by conv => (lhs; whnf)) ?_; refine gO ?_; refine gc_ret ?_; refine gx_then_ret ?_)
    refine gx_ret2 (u := .slice _ _ _) (v := .int _ _) rfl rfl rfl (fun _ _ => ?_)
    exact bad _ h hE _
  have hE0 : outlineE l = 0 := by simpa using h
  obtain ⟨hl2, hl16, hlines⟩ := outline_good hE0
  obtain ⟨ade, ce', hv, _, _, hbe, hecell⟩ := hl.edge' (by omega)
  injection hv with e1 e2 e3
  subst e1 e3
  obtain ⟨adc, cc', hv, _, _, hbc, hccell'⟩ := hcs.spot' (by omega)
  injection hv with e1 e2 e3
  subst e1 e3
  have hin : ∀ x ∈ l, x.1.size ≤ maxLen ∧ x.2.length ≤ 40 ∧ ∀ p ∈ x.2, inI64 p.1 ∧ inI64 p.2 := fun x hx => by
    obtain ⟨u, hu⟩ := hl.edges_in x hx
    obtain ⟨i, hi, rfl⟩ := List.getElem_of_mem hx
    obtain ⟨_, _, _, hs, _⟩ := hecell i hi
    have := hlines i hi
    rw [gE_get hi] at this hs
    refine ⟨?_, this.2, hu.spots_in⟩
    obtain ⟨_, _, _, _, _, h3⟩ := hl
    obtain ⟨_, _, _, _, _, _, _, h4, _⟩ := h3 i hi
    exact h4
  focus (refine gc_skip ?_; refine gx_next ?_; refine gc_seq ?_; refine gc_region ?_; refine gM rfl rfl (by conv => (lhs; whnf)) ?_; refine gO ?_; refine gc_seq ?_; refine gc_seq ?_; refine gc_region ?_; refine gM rfl rfl (by conv => (lhs; whnf)) ?_; refine gO ?_; refine gc_block ?_)
  refine gc_own0 132 2 (gc_lineso ?_)
  refine gc_loop (σ := Nat × Option Addr × Nat × List (Option Addr × Nat)) [54, 55, 56, 59, 60, 61, 62, 63, 64, 65, 66, 67, 68, 69, 70, 71, 11, 12, 72, 73, 74, 75, 76, 77, 78, 79, 80, 81, 82, 83, 84, 85, 86, 87, 88, 89, 90, 91, 92, 93, 94, 95, 96, 97, 98, 9, 57, 58, 10] (fun s => [(9, .slice s.2.1 s.1 s.2.2.1), (10, .int .i64 s.1)])
    (fun s => [Own s.2.1 s.1 s.2.2.1 132 2 (rowO (l.take s.1) s.2.2.2), LinesO ((l.take s.1).map (·.2)) s.2.2.2, Box bp 80 #[.string nm, .slice (some ade) l.length ce, .int .i64 g, .slice An nn cn, .slice (some adc) cs.length cc, .slice Aw nw cw, .bool m]])
    (fun s => s.1 ≤ l.length ∧ s.2.2.2.length = s.1) (fun s => l.length - s.1) (0, none, 0, []) ⟨Nat.zero_le _, rfl⟩ ⟨rfl, rfl, trivial⟩ (.cons (.there .here) (.cons .here (.cons .here .nil))) ?_
  rintro ⟨k, A, c2, vs⟩ base ⟨hk, hbs⟩
  dsimp only at hk hbs ⊢
  focus (refine gc_seq ?_; refine gc_seq ?_; refine gc_region ?_; refine gM rfl rfl (by conv => (lhs; whnf)) ?_; refine gM rfl rfl (by conv => (lhs; whnf)) ?_; refine gC rfl rfl rfl rfl rfl ?_; refine gO ?_)
  refine gc_if_dec rfl (fun h => ?_) (fun h => ?_)
  · have hlt : k < l.length := by omega
    have hkc : k < cs.length := by omega
    have hkm : (k + 1) % cs.length < cs.length := Nat.mod_lt _ (by omega)
    have hcc0 := hccell' k hkc
    have hcc1 := hccell' _ hkm
    obtain ⟨A1, c1, hce, hsz, hc1, hm1, hsl⟩ := hecell k hlt
    obtain ⟨hn2, hn40⟩ := hlines k hlt
    focus (refine gc_skip ?_; refine gx_next ?_; refine gc_seq ?_; refine gc_block ?_; refine gc_seq ?_)
    refine gc_blockJ (P := Tryz.prog) Nat 16 (fun i => ([[], [0], [], [0, 1, 2], [0, 1, 2, 3], [], [5], [], [7], [], [7, 8, 9], [5, 6, 7, 8, 9, 10], [5, 6, 7, 8, 9, 10, 11], [], [], [0, 1, 2, 3, 4, 13, 14]] : List (List Nat)).getD i []) (fun i' γ => match i' with
      | 0 => .pointer (some ⟨bp, 4, none⟩)
      | 1 => .slice (some adc) cs.length cc
      | 2 => .int .i64 k
      | 3 => .pointer (some (adc.add (k * 2)))
      | 4 => .agg #[.int .i64 (gS cs k).1, .int .i64 (gS cs k).2]
      | 5 => .pointer (some ⟨bp, 4, none⟩)
      | 6 => .slice (some adc) cs.length cc
      | 7 => .int .i64 k
      | 8 => .int .i64 ((k : Int) + 1)
      | 9 => .int .i64 l.length
      | 10 => .int .i64 (((k + 1) % cs.length : Nat) : Int)
      | 11 => .pointer (some (adc.add (((k + 1) % cs.length) * 2)))
      | 12 => .agg #[.int .i64 (gS cs ((k + 1) % cs.length)).1, .int .i64 (gS cs ((k + 1) % cs.length)).2]
      | 13 => .pointer (some ⟨γ 13, 0, none⟩)
      | 14 => .pointer (some ⟨γ 14, 0, none⟩)
      | _ => undef) (fun ls β w' => (ls 15 = true → ls 13 = true) ∧ St w ((if ls 14 = true then [Box (β 14) 130 #[.int .i64 0, .int .i64 0]] else []) ++ ((if ls 13 = true then [Box (β 13) 130 (if ls 15 = true then #[.int .i64 (gS cs k).1, .int .i64 (gS cs k).2] else #[.int .i64 0, .int .i64 0])] else []) ++ [Own A k c2 132 2 (rowO (l.take k) vs), LinesO ((l.take k).map (·.2)) vs, Box bp 80 #[.string nm, .slice (some ade) l.length ce, .int .i64 g, .slice An nn cn, .slice (some adc) cs.length cc, .slice Aw nw cw, .bool m]])) w') rfl (by kernel_rfl) (fun w' s => ⟨fun h => (by cases h), by simp only [Bool.false_eq_true, if_false, List.nil_append]; exact s⟩) ?_ ?_
    · intro i' o ls β w' hi' hik hls hpl hJ2
      have hS0 : St w [Own A k c2 132 2 (rowO (l.take k) vs), LinesO ((l.take k).map (·.2)) vs, Box bp 80 #[.string nm, .slice (some ade) l.length ce, .int .i64 g, .slice An nn cn, .slice (some adc) cs.length cc, .slice Aw nw cw, .bool m]] w' := hJ2.2.behind.behind
      obtain rfl | rfl | rfl | rfl | rfl | rfl | rfl | rfl | rfl | rfl | rfl | rfl | rfl | rfl | rfl | rfl : i' = 0 ∨ i' = 1 ∨ i' = 2 ∨ i' = 3 ∨ i' = 4 ∨ i' = 5 ∨ i' = 6 ∨ i' = 7 ∨ i' = 8 ∨ i' = 9 ∨ i' = 10 ∨ i' = 11 ∨ i' = 12 ∨ i' = 13 ∨ i' = 14 ∨ i' = 15 := by omega
      · cases hi'
        exact detG (w_field rfl rfl rfl) rfl hS0 (fun w2 hx => ⟨default, rfl, hJ2.1, St.ext hJ2.2 hx⟩)
      · cases hi'
        exact detG (w_load_box (b := bp) (i := 4) rfl rfl rfl (.there (.there .here)) rfl) rfl hS0 (fun w2 hx => ⟨default, rfl, hJ2.1, St.ext hJ2.2 hx⟩)
      · cases hi'
        exact detG (det_m (v := .int .i64 (k : Int)) rfl rfl rfl) rfl hS0 (fun w2 hx => ⟨default, rfl, hJ2.1, St.ext hJ2.2 hx⟩)
      · cases hi'
        exact detG (w_index (m := k) rfl rfl rfl rfl rfl hkc) rfl hS0 (fun w2 hx => ⟨default, rfl, hJ2.1, St.ext hJ2.2 hx⟩)
      · cases hi'
        exact detG (w_load_elem (cs := [.int .i64 (gS cs k).1, .int .i64 (gS cs k).2]) rfl rfl rfl hbc hcc0 rfl) rfl hS0 (fun w2 hx => ⟨default, rfl, hJ2.1, St.ext hJ2.2 hx⟩)
      · cases hi'
        exact detG (w_field rfl rfl rfl) rfl hS0 (fun w2 hx => ⟨default, rfl, hJ2.1, St.ext hJ2.2 hx⟩)
      · cases hi'
        exact detG (w_load_box (b := bp) (i := 4) rfl rfl rfl (.there (.there .here)) rfl) rfl hS0 (fun w2 hx => ⟨default, rfl, hJ2.1, St.ext hJ2.2 hx⟩)
      · cases hi'
        exact detG (det_m (v := .int .i64 (k : Int)) rfl rfl rfl) rfl hS0 (fun w2 hx => ⟨default, rfl, hJ2.1, St.ext hJ2.2 hx⟩)
      · cases hi'
        exact detG (det_ar (r := (k : Int) + 1) rfl rfl rfl rfl rfl (by omega)) rfl hS0 (fun w2 hx => ⟨default, rfl, hJ2.1, St.ext hJ2.2 hx⟩)
      · cases hi'
        exact detG (det_m (v := .int .i64 (l.length : Int)) rfl rfl rfl) rfl hS0 (fun w2 hx => ⟨default, rfl, hJ2.1, St.ext hJ2.2 hx⟩)
      · cases hi'
        exact detG (det_eq (c' := .int .i64 (((k + 1) % cs.length : Nat) : Int)) (det_rem (i := (k : Int) + 1) (j := (l.length : Int)) rfl rfl rfl rfl (by omega) (by omega)) (congrArg (Value.int .i64) (by rw [hlen]; simp))) rfl hS0 (fun w2 hx => ⟨default, rfl, hJ2.1, St.ext hJ2.2 hx⟩)
      · cases hi'
        exact detG (w_index (m := (k + 1) % cs.length) rfl rfl rfl rfl rfl hkm) rfl hS0 (fun w2 hx => ⟨default, rfl, hJ2.1, St.ext hJ2.2 hx⟩)
      · cases hi'
        exact detG (w_load_elem (cs := [.int .i64 (gS cs ((k + 1) % cs.length)).1, .int .i64 (gS cs ((k + 1) % cs.length)).2]) rfl rfl rfl hbc hcc1 rfl) rfl hS0 (fun w2 hx => ⟨default, rfl, hJ2.1, St.ext hJ2.2 hx⟩)
      · cases hi'
        obtain ⟨hz, hS⟩ := hJ2
        have h15 : ls 15 = false := by
          cases h : ls 15 with
          | false => rfl
          | true => have := hz h; rw [hls] at this; cases this
        rw [hls] at hS
        refine ⟨rfl, (stepG_alloc (z := .agg #[.int .i64 0, .int .i64 0]) hS).mono fun u w2 hu => ?_⟩
        obtain ⟨b, hu, s2⟩ := hu
        refine ⟨b, hu, fun _ => rfl, ?_⟩
        show St w ((if ls 14 = true then [Box (β 14) 130 #[.int .i64 0, .int .i64 0]] else []) ++ ([Box b 130 (if ls 15 = true then #[.int .i64 (gS cs k).1, .int .i64 (gS cs k).2] else #[.int .i64 0, .int .i64 0])] ++ [Own A k c2 132 2 (rowO (l.take k) vs), LinesO ((l.take k).map (·.2)) vs, Box bp 80 #[.string nm, .slice (some ade) l.length ce, .int .i64 g, .slice An nn cn, .slice (some adc) cs.length cc, .slice Aw nw cw, .bool m]])) w2
        rw [h15]
        cases h14 : ls 14 with
        | false => rw [h14] at s2; exact s2
        | true => rw [h14] at s2; exact St.sub (.cons (.there .here) (Sub.all _)) s2
      · cases hi'
        obtain ⟨hz, hS⟩ := hJ2
        rw [hls] at hS
        refine ⟨rfl, (stepG_alloc (z := .agg #[.int .i64 0, .int .i64 0]) hS).mono fun u w2 hu => ?_⟩
        obtain ⟨b, hu, s2⟩ := hu
        exact ⟨b, hu, hz, s2⟩
      · cases hi'
        obtain ⟨hz, hS⟩ := hJ2
        have h13 : ls 13 = true := hpl 13 (by decide)
        rw [hls, h13] at hS
        cases h14 : ls 14 with
        | false =>
          rw [h14] at hS
          refine ⟨rfl, (stepG_store (b := β 13) (cs := #[.int .i64 0, .int .i64 0]) (vs := #[.int .i64 (gS cs k).1, .int .i64 (gS cs k).2]) rfl rfl rfl rfl .here rfl hS).mono fun u w2 hu => ?_⟩
          refine ⟨default, hu.1, fun _ => h13, ?_⟩
          show St w ((if ls 14 = true then [Box (β 14) 130 #[.int .i64 0, .int .i64 0]] else []) ++ ((if ls 13 = true then [Box (β 13) 130 #[.int .i64 (gS cs k).1, .int .i64 (gS cs k).2]] else []) ++ [Own A k c2 132 2 (rowO (l.take k) vs), LinesO ((l.take k).map (·.2)) vs, Box bp 80 #[.string nm, .slice (some ade) l.length ce, .int .i64 g, .slice An nn cn, .slice (some adc) cs.length cc, .slice Aw nw cw, .bool m]])) w2
          rw [h14, h13]
          exact hu.2
        | true =>
          rw [h14] at hS
          refine ⟨rfl, (stepG_store (b := β 13) (cs := #[.int .i64 0, .int .i64 0]) (vs := #[.int .i64 (gS cs k).1, .int .i64 (gS cs k).2]) rfl rfl rfl rfl (.there .here) rfl hS).mono fun u w2 hu => ?_⟩
          refine ⟨default, hu.1, fun _ => h13, ?_⟩
          show St w ((if ls 14 = true then [Box (β 14) 130 #[.int .i64 0, .int .i64 0]] else []) ++ ((if ls 13 = true then [Box (β 13) 130 #[.int .i64 (gS cs k).1, .int .i64 (gS cs k).2]] else []) ++ [Own A k c2 132 2 (rowO (l.take k) vs), LinesO ((l.take k).map (·.2)) vs, Box bp 80 #[.string nm, .slice (some ade) l.length ce, .int .i64 g, .slice An nn cn, .slice (some adc) cs.length cc, .slice Aw nw cw, .bool m]])) w2
          rw [h14, h13]
          exact St.sub (.cons (.there .here) (Sub.all _)) hu.2
    · intro ls β w' hall2 hJ2
      obtain ⟨_, hS⟩ := hJ2
      rw [hall2 13 (by decide), hall2 14 (by decide), hall2 15 (by decide)] at hS
      have hJ3 : St w (Box (β 14) 130 #[.int .i64 0, .int .i64 0] :: Box (β 13) 130 #[.int .i64 (gS cs k).1, .int .i64 (gS cs k).2] :: [Own A k c2 132 2 (rowO (l.take k) vs), LinesO ((l.take k).map (·.2)) vs, Box bp 80 #[.string nm, .slice (some ade) l.length ce, .int .i64 g, .slice An nn cn, .slice (some adc) cs.length cc, .slice Aw nw cw, .bool m]]) w' := hS
      refine GW.h (P := Tryz.prog) ?_ w' hJ3
      refine w_store_all (b := β 14) (cs := #[.int .i64 0, .int .i64 0]) (vs := #[.int .i64 (gS cs ((k + 1) % cs.length)).1, .int .i64 (gS cs ((k + 1) % cs.length)).2]) rfl rfl rfl rfl rfl .here rfl ?_
      focus (refine gO ?_)
      have hG : ∀ (L : List Res) (w' : World), St w L w' → OkM Tryz.prog 110 [.agg #[.string (gE l k).1, .slice A1 (gE l k).2.length c1], .agg #[.int .i64 0, .int .i64 0], .agg #[.int .i64 0, .int .i64 0]].toArray w'
          (fun x : Nat × Option Addr × Nat => .agg #[.string (gE l k).1, .slice x.2.1 (gE l k).2.length x.2.2]) (fun x => [Own x.2.1 (gE l k).2.length x.2.2 130 2 ((gE l k).2.flatMap encS)]) := fun L w' s => by
        have h := r_graded0_ok w' (gE l k).1 A1 c1 (gE l k).2 (hsl.later s) hn2 hn40
        unfold OkM at h ⊢
        exact h.mono fun r w2 hx ⟨x, q1, q2⟩ => ⟨(0, x), q1, q2⟩
      refine gc_block_draw (Nat × Option Addr × Nat) 26 (fun i => ([[], [], [1], [], [1, 2, 3], [1, 2, 3, 4], [], [], [7], [6, 7, 8], [], [], [11], [10, 11, 12], [6, 7, 8, 9, 10, 11, 12, 13], [], [], [16], [15, 16, 17], [], [], [20], [19, 20, 21], [15, 16, 17, 18, 19, 20, 21, 22], [1, 2, 3, 4, 5, 6, 7, 8, 9, 10, 11, 12, 13, 14, 15, 16, 17, 18, 19, 20, 21, 22, 23], [1, 2, 3, 4, 5, 6, 7, 8, 9, 10, 11, 12, 13, 14, 15, 16, 17, 18, 19, 20, 21, 22, 23, 24]] : List (List Nat)).getD i []) rfl (by kernel_rfl) ?_
      focus (apply gb_d; (intro γ; exact det_m rfl rfl (by conv => (lhs; whnf))); (intros; rfl); (intros; rfl); apply gb_d; (intro γ; exact w_field rfl rfl rfl); (intros; rfl); (intros; rfl); apply gb_d; (intro γ; exact w_load_box rfl rfl rfl (.there (.there (.there (.there .here)))) rfl); (intros; rfl); (intros; rfl); apply gb_d; (intro γ; exact det_m rfl rfl (by conv => (lhs; whnf))); (intros; rfl); (intros; rfl); apply gb_d; (intro γ; exact w_index rfl rfl rfl rfl (by with_reducible exact rfl) (by omega)); (intros; rfl); (intros; rfl); apply gb_d; (intro γ; exact w_load_elem rfl rfl rfl (by assumption) (by assumption) (by rfl)); (intros; rfl); (intros; rfl); apply gb_d; (intro γ; exact det_m rfl rfl (by conv => (lhs; whnf))); (intros; rfl); (intros; rfl); apply gb_d; (intro γ; exact w_field rfl rfl rfl); (intros; rfl); (intros; rfl); apply gb_d; (intro γ; exact w_load_box rfl rfl rfl (.there .here) rfl); (intros; rfl); (intros; rfl); apply gb_d; (intro γ; exact det_ar rfl rfl rfl rfl rfl (by omega)); (intros; rfl); (intros; rfl); apply gb_d; (intro γ; exact det_m rfl rfl (by conv => (lhs; whnf))); (intros; rfl); (intros; rfl); apply gb_d; (intro γ; exact w_field rfl rfl rfl); (intros; rfl); (intros; rfl); apply gb_d; (intro γ; exact w_load_box rfl rfl rfl (.there .here) rfl); (intros; rfl); (intros; rfl); apply gb_d; (intro γ; exact det_ar rfl rfl rfl rfl rfl (by omega)); (intros; rfl); (intros; rfl); apply gb_d; (intro γ; exact det_eq (c' := .agg #[.int .i64 0, .int .i64 0]) (w_build (cells := #[.int .i64 (0 * (gS cs k).1), .int .i64 (0 * (gS cs k).2)]) rfl rfl (by rfl)) (by rw [Int.zero_mul, Int.zero_mul])); (intros; rfl); (intros; rfl); apply gb_d; (intro γ; exact det_m rfl rfl (by conv => (lhs; whnf))); (intros; rfl); (intros; rfl); apply gb_d; (intro γ; exact w_field rfl rfl rfl); (intros; rfl); (intros; rfl); apply gb_d; (intro γ; exact w_load_box rfl rfl rfl .here rfl); (intros; rfl); (intros; rfl); apply gb_d; (intro γ; exact det_ar rfl rfl rfl rfl rfl (by omega)); (intros; rfl); (intros; rfl); apply gb_d; (intro γ; exact det_m rfl rfl (by conv => (lhs; whnf))); (intros; rfl); (intros; rfl); apply gb_d; (intro γ; exact w_field rfl rfl rfl); (intros; rfl); (intros; rfl); apply gb_d; (intro γ; exact w_load_box rfl rfl rfl .here rfl); (intros; rfl); (intros; rfl); apply gb_d; (intro γ; exact det_ar rfl rfl rfl rfl rfl (by omega)); (intros; rfl); (intros; rfl); apply gb_d; (intro γ; exact det_eq (c' := .agg #[.int .i64 0, .int .i64 0]) (w_build (cells := #[.int .i64 (0 * (gS cs ((k + 1) % cs.length)).1), .int .i64 (0 * (gS cs ((k + 1) % cs.length)).2)]) rfl rfl (by rfl)) (by rw [Int.zero_mul, Int.zero_mul])); (intros; rfl); (intros; rfl))
      refine gb_call (l := fun _ => [.agg #[.string (gE l k).1, .slice A1 (gE l k).2.length c1], .agg #[.int .i64 0, .int .i64 0], .agg #[.int .i64 0, .int .i64 0]]) (fun _ (x : Nat × Option Addr × Nat) => .agg #[.string (gE l k).1, .slice x.2.1 (gE l k).2.length x.2.2]) (fun _ (x : Nat × Option Addr × Nat) => [Own x.2.1 (gE l k).2.length x.2.2 130 2 ((gE l k).2.flatMap encS)]) (fun _ => rfl) (fun _ w s => hG _ w s) (fun _ => rfl) (fun _ _ => ⟨rfl, rfl⟩) (fun _ => ⟨rfl, rfl⟩) ?_
      refine gb_bslice1 (fun (γ : Nat → Nat × Option Addr × Nat) => .agg #[.string (gE l k).1, .slice (γ 24).2.1 (gE l k).2.length (γ 24).2.2]) (fun b => (b, none, 0)) (·.1) (fun _ => rfl) (fun _ => rfl) (fun _ => rfl) (fun _ => rfl) rfl rfl (fun _ _ => rfl) (fun _ => rfl) ?_
      refine GB.nil (fun δ => ?_)
      have hr1 : rowO (l.take (k + 1)) (vs ++ [(δ 24).2]) = rowO (l.take k) vs ++ encO (gE l k, (δ 24).2) := by rw [List.take_succ_eq_append_getElem hlt, gE_get hlt]; exact rowO_snoc (by rw [List.length_take]; omega)
      have hr2 : (l.take (k + 1)).map (·.2) = (l.take k).map (·.2) ++ [(gE l k).2] := by rw [List.take_succ_eq_append_getElem hlt, gE_get hlt, List.map_append]; rfl
      refine gw_append (news := encO (gE l k, (δ 24).2)) rfl rfl rfl (.there (.there (.there (.there .here)))) rfl (fun w' s _ => ?_) (fun u hu => ?_) (by unfold maxLen; omega) (by omega) (by decide) rfl (fun A2 c3 => ?_)
      · refine ⟨⟨(δ 25).1, 0, none⟩, rfl, fun j u hu => ?_⟩
        have hbx := Box.cell (s.pick (.there .here)).head j
        rw [add_zero]
        refine Eq.trans hbx ?_
        change (#[Value.string (gE l k).1, Value.slice (δ 24).2.1 (gE l k).2.length (δ 24).2.2] : Array Value)[j]? = some u
        rw [List.getElem?_toArray]
        exact hu
      · simp only [encO, List.mem_cons, List.not_mem_nil, or_false] at hu
        rcases hu with rfl | rfl <;> rfl
      · focus (refine gM rfl rfl (by conv => (lhs; whnf)) ?_; refine gw_nil ?_; refine gx_block ?_; refine gx_next ?_; refine gc_region ?_; refine gM rfl rfl (by conv => (lhs; whnf)) ?_; apply gw_d; exact det_ar rfl rfl rfl rfl rfl (by omega); refine gM rfl rfl (by conv => (lhs; whnf)) ?_; refine gw_nil ?_)
        refine gx_roundE (k + 1, A2, c3, vs ++ [(δ 24).2]) ⟨hlt, by simp [hbs]⟩ (by dsimp only; omega) (by repeat (first | exact Keeps.refl | refine Keeps.upd rfl ?_ | refine Keeps.sets rfl ?_ | refine Keeps.havoc rfl ?_)) ⟨rfl, rfl, trivial⟩ ?_
        dsimp only
        rw [hr1, hr2]
        refine Ent.trans (Sub.ent (.cons .here (.cons .here (.cons (.there (.there (.there .here))) (.cons (.there (.there (.there .here))) .nil))))) (Ent.cons LinesO.snoc ?_)
        intro q hq b hb
        rw [List.mem_cons, List.mem_singleton] at hq
        rcases hq with rfl | rfl
        · obtain ⟨i, y, m', hy, hm', ho⟩ := hb
          rcases at_snoc (by rw [List.length_map, List.length_take]; omega) hy hm' with ⟨q1, q2⟩ | ⟨rfl, rfl⟩
          · exact ⟨_, List.mem_cons_of_mem _ List.mem_cons_self, ⟨i, y, m', q1, q2, ho⟩⟩
          · exact ⟨_, List.mem_cons_self, ho⟩
        · exact ⟨_, List.mem_cons_of_mem _ (List.mem_cons_of_mem _ List.mem_cons_self), hb⟩
  · obtain rfl : k = l.length := by omega
    rw [List.take_length]
    refine gc_ent (deep_edgesO rfl hin) ?_
    focus (refine gc_exit ?_; refine gx_then_exit ?_; refine gx_then_exit ?_; refine gx_block_exit ?_; refine gx_next ?_; refine gc_seq ?_; refine gc_seq ?_; refine gc_region ?_; refine gM rfl rfl (by conv => (lhs; whnf)) ?_; apply gw_d; exact w_call rfl rfl (fun w s => r_outline_ok w _ l (Sl.deep s .here)) rfl; refine gM rfl rfl (by conv => (lhs; whnf)) ?_; refine gN ?_; refine gM rfl rfl (by conv => (lhs; whnf)) ?_; refine gC rfl rfl rfl rfl rfl ?_; refine gO ?_)
    refine gc_if_dec rfl (fun h => absurd hE0 h) (fun _ => ?_)
    focus (refine gc_skip ?_; refine gx_next ?_; refine gc_seq ?_; refine gc_region ?_; refine gM rfl rfl (by conv => (lhs; whnf)) ?_; refine gM rfl rfl (by conv => (lhs; whnf)) ?_; refine gM rfl rfl (by conv => (lhs; whnf)) ?_; refine gO ?_; refine gc_ret ?_)
    refine gx_ret2 (u := .slice _ _ _) (v := .int _ _) rfl rfl rfl (fun w' s => ?_)
    exact ⟨(A, c2, _), by rw [hE, hE0, if_pos rfl], by rw [hE, hE0, if_pos rfl]; exact (s.sub (.cons .here .nil)).sep⟩
end Go.Proofs.YtckhibfbdnoigaaGreat

/- Contracts: square roots and lengths of polylines by the chapter's own rule (reference 10). -/
namespace Go.Proofs.YtckhibfbdnoigaaGreat
open Go.RowKit
set_option maxRecDepth 100000
set_option maxHeartbeats 4000000

theorem r_root_ok (w : World) (n : Nat) (hn : n ≤ 9223372036854775807) : Ok Tryz.prog 194 [.int .i64 (n : Int)].toArray w fun r _ => r = .int .i64 (isq n : Int) := by
  have hw64 : IntKind.u64.wrap (n : Int) = (n : Int) := by
    have : IntKind.u64.wrap (n : Int) = (n : Int) % 18446744073709551616 := rfl
    rw [this]
    omega
  have h32 : isq n < 0 + 2 ^ 32 := by
    have h1 := (isq_spec n).1
    refine Nat.lt_of_not_le fun h => ?_
    have h2 : (0 + 2 ^ 32) * (0 + 2 ^ 32) ≤ isq n * isq n := Nat.mul_le_mul h h
    have h3 : (0 + 2 ^ 32) * (0 + 2 ^ 32) = 18446744073709551616 := rfl
    omega
  refine ok_enter Tryz.func194 rfl Tryz.ntmps194 rfl ?_
  focus (refine gc_seq ?_; refine gc_region ?_; refine gM rfl rfl (by conv => (lhs; whnf)) ?_; refine gN ?_; refine gM rfl rfl (by conv => (lhs; whnf)) ?_; refine gO ?_; refine gc_seq ?_; refine gc_seq ?_; refine gc_region ?_; refine gM rfl rfl (by conv => (lhs; whnf)) ?_; refine gO ?_; refine gc_block ?_)
  refine gc_loop (σ := Nat × Nat) [6, 7, 10, 11, 12, 13, 14, 15, 5, 16, 17, 18, 19, 20, 21, 22, 23, 3, 8, 9, 4] (fun s => [(3, .int .i64 (s.2 : Int)), (4, .int .i64 ((s.1 : Int) - 1))]) (fun _ => []) (fun s => s.1 ≤ 32 ∧ s.2 ≤ isq n ∧ isq n < s.2 + 2 ^ s.1 ∧ s.2 + 2 ^ s.1 ≤ 4294967296) (fun s => s.1) (32, 0) ⟨Nat.le_refl _, Nat.zero_le _, h32, by decide⟩ ⟨rfl, rfl, trivial⟩ .nil ?_
  rintro ⟨j, out⟩ base ⟨hj, hI1, hI2, hI3⟩
  dsimp only at hj hI1 hI2 hI3 ⊢
  focus (refine gc_seq ?_; refine gc_seq ?_; refine gc_region ?_; refine gM rfl rfl (by conv => (lhs; whnf)) ?_; refine gC rfl rfl rfl rfl rfl ?_; refine gO ?_)
  refine gc_if_dec rfl (fun h => ?_) (fun h => ?_)
  · obtain ⟨k, rfl⟩ : ∃ k, j = k + 1 := ⟨j - 1, by omega⟩
    have hp : (2 : Nat) ^ (k + 1) = 2 ^ k + 2 ^ k := by rw [Nat.pow_succ]; omega
    have hp0 : 0 < (2 : Nat) ^ k := Nat.two_pow_pos _
    have hcv : IntKind.u64.wrap (((k + 1 : Nat) : Int) - 1) = (k : Int) := by
      have : IntKind.u64.wrap (((k + 1 : Nat) : Int) - 1) = (((k + 1 : Nat) : Int) - 1) % 18446744073709551616 := rfl
      rw [this]
      omega
    have hshl : IntKind.i64.wrap (1 * 2 ^ (min ((k : Int)).toNat IntKind.i64.bits)) = ((2 ^ k : Nat) : Int) := by
      have e1 : ((k : Int)).toNat = k := by omega
      have e2 : IntKind.i64.bits = 64 := rfl
      rw [e1, e2, Nat.min_eq_left (by omega), Int.one_mul, two_pow_cast, IntKind.wrap_i64]
      omega
    have hct : IntKind.u64.wrap ((out : Int) + ((2 ^ k : Nat) : Int)) = ((out + 2 ^ k : Nat) : Int) := by
      have : IntKind.u64.wrap ((out : Int) + ((2 ^ k : Nat) : Int)) = ((out : Int) + ((2 ^ k : Nat) : Int)) % 18446744073709551616 := rfl
      rw [this]
      omega
    have hback : IntKind.i64.wrap ((out + 2 ^ k : Nat) : Int) = ((out + 2 ^ k : Nat) : Int) := by
      rw [IntKind.wrap_i64]
      omega
    have hsq : (out + 2 ^ k) * (out + 2 ^ k) < 18446744073709551616 := by
      have : (out + 2 ^ k) * (out + 2 ^ k) ≤ 4294967295 * 4294967295 := Nat.mul_le_mul (by omega) (by omega)
      omega
    focus (refine gc_skip ?_; refine gx_next ?_; refine gc_seq ?_; refine gc_block ?_; refine gc_seq ?_; refine gc_region ?_; refine gM rfl rfl (by conv => (lhs; whnf)) ?_; refine gM rfl rfl (by conv => (lhs; whnf)) ?_; apply gw_d; exact det_conv rfl rfl rfl hcv; apply gw_d; exact det_shl rfl rfl rfl rfl (by omega) hshl; apply gw_d; exact det_ar rfl rfl rfl rfl rfl (by omega); apply gw_d; exact det_conv rfl rfl rfl hct; refine gM rfl rfl (by conv => (lhs; whnf)) ?_; refine gN ?_; refine gM rfl rfl (by conv => (lhs; whnf)) ?_; refine gM rfl rfl (by conv => (lhs; whnf)) ?_; apply gw_d; exact det_eq (c' := .int .u64 (((out + 2 ^ k) * (out + 2 ^ k) : Nat) : Int)) (det_mulU (i := out + 2 ^ k) (j := out + 2 ^ k) rfl rfl rfl rfl) (by rw [Nat.mod_eq_of_lt hsq]); refine gM rfl rfl (by conv => (lhs; whnf)) ?_; apply gw_d; exact det_conv rfl rfl rfl hw64; refine gC rfl rfl rfl rfl rfl ?_; refine gO ?_)
    refine gc_if_dec rfl (fun h2 => ?_) (fun h2 => ?_)
    · have hle : out + 2 ^ k ≤ isq n := le_isq (by omega)
      focus (refine gc_region ?_; refine gM rfl rfl (by conv => (lhs; whnf)) ?_; apply gw_d; exact det_conv rfl rfl rfl hback; refine gM rfl rfl (by conv => (lhs; whnf)) ?_; refine gw_nil ?_; refine gx_block ?_; refine gx_next ?_; refine gc_region ?_; refine gM rfl rfl (by conv => (lhs; whnf)) ?_; apply gw_d; exact det_ar rfl rfl rfl rfl rfl (by omega); refine gM rfl rfl (by conv => (lhs; whnf)) ?_; refine gw_nil ?_)
      exact gx_round (k, out + 2 ^ k) ⟨by dsimp only; omega, hle, by dsimp only; omega, by dsimp only; omega⟩ (by dsimp only; omega) (by repeat (first | exact Keeps.refl | refine Keeps.upd rfl ?_ | refine Keeps.sets rfl ?_ | refine Keeps.havoc rfl ?_)) ⟨rfl, congrArg (Value.int .i64) (show ((k + 1 : Nat) : Int) - 1 - 1 = (k : Int) - 1 by omega), trivial⟩ .nil
    · have hlt : isq n < out + 2 ^ k := by
        refine Nat.lt_of_not_le fun h3 => h2 ?_
        have h4 := Nat.mul_le_mul h3 h3
        have h5 := (isq_spec n).1
        omega
      focus (refine gc_skip ?_; refine gx_block ?_; refine gx_next ?_; refine gc_region ?_; refine gM rfl rfl (by conv => (lhs; whnf)) ?_; apply gw_d; exact det_ar rfl rfl rfl rfl rfl (by omega); refine gM rfl rfl (by conv => (lhs; whnf)) ?_; refine gw_nil ?_)
      exact gx_round (k, out) ⟨by dsimp only; omega, hI1, hlt, by dsimp only; omega⟩ (by dsimp only; omega) (by repeat (first | exact Keeps.refl | refine Keeps.upd rfl ?_ | refine Keeps.sets rfl ?_ | refine Keeps.havoc rfl ?_)) ⟨rfl, congrArg (Value.int .i64) (show ((k + 1 : Nat) : Int) - 1 - 1 = (k : Int) - 1 by omega), trivial⟩ .nil
  · obtain rfl : j = 0 := by omega
    rw [Nat.pow_zero] at hI2
    focus (refine gc_exit ?_; refine gx_then_exit ?_; refine gx_then_exit ?_; refine gx_block_exit ?_; refine gx_next ?_; refine gc_seq ?_; refine gc_region ?_; refine gM rfl rfl (by conv => (lhs; whnf)) ?_; refine gM rfl rfl (by conv => (lhs; whnf)) ?_; refine gO ?_; refine gc_ret ?_)
    refine gx_ret1 (v := .int _ _) rfl rfl (fun _ _ => ?_)
    congr 1
    omega

theorem r_segment_ok (w : World) (p q : Int × Int) (hp : nearP p) (hq : nearP q) : Ok Tryz.prog 168 [.agg #[.int .i64 p.1, .int .i64 p.2], .agg #[.int .i64 q.1, .int .i64 q.2]].toArray w fun r _ => r = .int .i64 (segL p q) := by
  obtain ⟨p1, p2⟩ := hp
  obtain ⟨q1, q2⟩ := hq
  have s1 := sq_range (d := q.1 - p.1) (by omega)
  have s2 := sq_range (d := q.2 - p.2) (by omega)
  have hv : ((segN p q : Nat) : Int) = 1000000 * ((q.1 - p.1) * (q.1 - p.1) + (q.2 - p.2) * (q.2 - p.2)) := by
    unfold segN
    omega
  have hR : ∀ (L : List Res) (w' : World), St w L w' → Ok Tryz.prog 194 [.int .i64 (1000000 * ((q.1 - p.1) * (q.1 - p.1) + (q.2 - p.2) * (q.2 - p.2)))].toArray w' fun r _ => r = .int .i64 (segL p q) := fun L w' _ => by
    have := r_root_ok w' (segN p q) (by omega)
    rw [hv] at this
    exact this
  refine ok_enter Tryz.func168 rfl Tryz.ntmps168 rfl ?_
  focus (refine gc_seq ?_; refine gc_region ?_; refine gw_boxd (v := .agg _) rfl rfl (fun _ => ?_); refine gw_boxd (v := .agg _) rfl rfl (fun _ => ?_); refine gM rfl rfl (by conv => (lhs; whnf)) ?_; refine gO ?_; refine gc_seq ?_)
  refine gc_draw 11 (by kernel_rfl) (by kernel_rfl) ?_
  focus (apply gd_d; exact w_field rfl rfl rfl; apply gd_d; exact w_load_box rfl rfl rfl .here rfl; apply gd_d; exact w_field rfl rfl rfl; apply gd_d; exact w_load_box rfl rfl rfl (.there .here) rfl; apply gd_d; exact det_ar rfl rfl rfl rfl rfl (by omega); apply gd_d; exact w_field rfl rfl rfl; apply gd_d; exact w_load_box rfl rfl rfl .here rfl; apply gd_d; exact w_field rfl rfl rfl; apply gd_d; exact w_load_box rfl rfl rfl (.there .here) rfl; apply gd_d; exact det_ar rfl rfl rfl rfl rfl (by omega); apply gd_d; exact det_m rfl rfl (by conv => (lhs; whnf)); refine gd_nil ?_; refine gM rfl rfl (by conv => (lhs; whnf)) ?_; refine gN ?_; refine gM rfl rfl (by conv => (lhs; whnf)) ?_; refine gM rfl rfl (by conv => (lhs; whnf)) ?_; apply gw_d; exact det_ar rfl rfl rfl rfl rfl (by omega); refine gM rfl rfl (by conv => (lhs; whnf)) ?_; refine gM rfl rfl (by conv => (lhs; whnf)) ?_; apply gw_d; exact det_ar rfl rfl rfl rfl rfl (by omega); apply gw_d; exact det_ar rfl rfl rfl rfl rfl (by omega); apply gw_d; exact det_ar rfl rfl rfl rfl rfl (by omega); apply gw_d; exact w_call rfl rfl (hR _) rfl; refine gM rfl rfl (by conv => (lhs; whnf)) ?_; refine gO ?_; refine gc_ret ?_)
  exact gx_ret1 (v := .int .i64 (segL p q)) rfl rfl (fun _ _ => rfl)

theorem r_total_ok (w : World) (v : Value) (l : List (Int × Int)) (hl : Sl rSpot w w.heap.size v l) (hp : plineE l = 0) : Ok Tryz.prog 141 [v].toArray w fun r _ => r = .int .i64 (lenL l) := by
  have hG := line_good hp
  have h2 := hG.two
  have h40 := hG.le
  obtain ⟨ad, c, rfl, hc, hm, hb, hcell⟩ := hl.spot' (by omega)
  refine ok_enter Tryz.func141 rfl Tryz.ntmps141 rfl ?_
  focus (refine gc_seq ?_; refine gc_region ?_; refine gM rfl rfl (by conv => (lhs; whnf)) ?_; refine gN ?_; refine gM rfl rfl (by conv => (lhs; whnf)) ?_; refine gO ?_; refine gc_seq ?_; refine gc_seq ?_; refine gc_region ?_; refine gM rfl rfl (by conv => (lhs; whnf)) ?_; refine gO ?_; refine gc_block ?_)
  refine gc_loopK (σ := Nat) [5, 6, 7, 8, 11, 12, 13, 14, 15, 16, 17, 18, 19, 20, 21, 22, 3, 9, 10, 4] (fun k => [(4, .int .i64 (k + 1 : Nat)), (3, .int .i64 (lenS l k))]) (fun k => k ≤ l.length - 1) (fun k => l.length - k) 0 (Nat.zero_le _) ⟨rfl, rfl, trivial⟩ ?_
  rintro k base hk
  focus (refine gc_seq ?_; refine gc_seq ?_; refine gc_region ?_; refine gM rfl rfl (by conv => (lhs; whnf)) ?_; refine gM rfl rfl (by conv => (lhs; whnf)) ?_; refine gL rfl rfl rfl ?_; refine gC rfl rfl rfl rfl rfl ?_; refine gO ?_)
  refine gc_if_dec rfl (fun h => ?_) (fun h => ?_)
  · have hk1 : k + 1 < l.length := by omega
    have hr := lenS_range hG k (by omega)
    have hsr := segL_range (hG.near k (by omega)) (hG.near (k + 1) hk1)
    have hc0 := hcell k (by omega)
    have hc1 := hcell (k + 1) hk1
    have hsg : ∀ (L : List Res) (w' : World), St w L w' → Ok Tryz.prog 168 [.agg #[.int .i64 (gS l k).1, .int .i64 (gS l k).2], .agg #[.int .i64 (gS l (k + 1)).1, .int .i64 (gS l (k + 1)).2]].toArray w' fun r _ => r = .int .i64 (segL (gS l k) (gS l (k + 1))) := fun L w' _ => r_segment_ok w' _ _ (hG.near k (by omega)) (hG.near (k + 1) hk1)
    focus (refine gc_skip ?_; refine gx_next ?_; refine gc_seq ?_; refine gc_block ?_)
    refine gc_draw 12 (by kernel_rfl) (by kernel_rfl) ?_
    focus (apply gd_d; exact det_m rfl rfl (by conv => (lhs; whnf)); apply gd_d; exact det_m rfl rfl (by conv => (lhs; whnf)); apply gd_d; exact det_m rfl rfl (by conv => (lhs; whnf)); apply gd_d; exact det_ar rfl rfl rfl rfl rfl (by omega); apply gd_d; exact w_index (m := k) rfl rfl rfl rfl (by omega) (by omega); apply gd_d; exact w_load_elem rfl rfl rfl (by assumption) (by assumption) (by rfl); apply gd_d; exact det_m rfl rfl (by conv => (lhs; whnf)); apply gd_d; exact det_m rfl rfl (by conv => (lhs; whnf)); apply gd_d; exact w_index (m := k + 1) rfl rfl rfl rfl rfl (by omega); apply gd_d; exact w_load_elem rfl rfl rfl (by assumption) (by assumption) (by rfl); apply gd_d; exact w_call rfl rfl (hsg _) rfl; apply gd_d; exact det_ar rfl rfl rfl rfl rfl (by omega); refine gd_nil ?_; refine gM rfl rfl (by conv => (lhs; whnf)) ?_; refine gw_nil ?_; refine gx_block ?_; refine gx_next ?_; refine gc_region ?_; refine gM rfl rfl (by conv => (lhs; whnf)) ?_; apply gw_d; exact det_ar rfl rfl rfl rfl rfl (by omega); refine gM rfl rfl (by conv => (lhs; whnf)) ?_; refine gw_nil ?_)
    exact gx_round (k + 1) (by omega) (by omega) (by repeat (first | exact Keeps.refl | refine Keeps.upd rfl ?_ | refine Keeps.sets rfl ?_ | refine Keeps.havoc rfl ?_)) ⟨rfl, rfl, trivial⟩ (Sub.all _)
  · obtain rfl : k = l.length - 1 := by omega
    focus (refine gc_exit ?_; refine gx_then_exit ?_; refine gx_then_exit ?_; refine gx_block_exit ?_; refine gx_next ?_; refine gc_seq ?_; refine gc_region ?_; refine gM rfl rfl (by conv => (lhs; whnf)) ?_; refine gM rfl rfl (by conv => (lhs; whnf)) ?_; refine gO ?_; refine gc_ret ?_)
    refine gx_ret1 (v := .int _ _) rfl rfl (fun _ _ => ?_)
    rfl

theorem r_length_ok (w : World) (v : Value) (l : List (Int × Int)) (hl : Sl rSpot w w.heap.size v l) (hp : plineE l = 0) : Ok Tryz.prog 111 [v].toArray w fun r _ => r = .tuple #[.int .i64 (lenL l), .int .i64 0] := by
  have hC : ∀ (L : List Res) (w' : World), St w L w' → Ok Tryz.prog 137 [v].toArray w' fun r _ => r = .int .i64 0 := fun L w' s => by
    have := r_polyline_ok w' v l (hl.later s)
    rw [hp] at this
    exact this
  obtain ⟨A, c, rfl, hc, hm⟩ := len_small hl
  refine ok_enter Tryz.func111 rfl Tryz.ntmps111 rfl ?_
  focus (refine gc_seq ?_; refine gc_region ?_; refine gM rfl rfl (by conv => (lhs; whnf)) ?_; refine gM rfl rfl (by conv => (lhs; whnf)) ?_; refine gO ?_; refine gc_seq ?_; refine gc_seq ?_; refine gc_region ?_; refine gM rfl rfl (by conv => (lhs; whnf)) ?_; apply gw_d; exact w_call rfl rfl (hC _) rfl; refine gM rfl rfl (by conv => (lhs; whnf)) ?_; refine gN ?_; refine gM rfl rfl (by conv => (lhs; whnf)) ?_; refine gC rfl rfl rfl rfl rfl ?_; refine gO ?_)
  refine gc_if_dec rfl (fun h => absurd rfl h) (fun _ => ?_)
  focus (refine gc_skip ?_; refine gx_next ?_; refine gc_seq ?_; refine gc_region ?_; refine gM rfl rfl (by conv => (lhs; whnf)) ?_; apply gw_d; exact w_call rfl rfl (fun w s => r_total_ok w _ l (hl.later s) hp) rfl; refine gM rfl rfl (by conv => (lhs; whnf)) ?_; refine gM rfl rfl (by conv => (lhs; whnf)) ?_; refine gO ?_; refine gc_ret ?_)
  refine gx_ret2 (u := .int _ _) (v := .int _ _) rfl rfl rfl (fun _ _ => ?_)
  rfl
end Go.Proofs.YtckhibfbdnoigaaGreat

/- Contracts: corresponding places by the chapter's own rule (reference 22), at equal lengths. -/
namespace Go.Proofs.YtckhibfbdnoigaaGreat
open Go.RowKit
set_option maxRecDepth 100000
set_option maxHeartbeats 4000000

theorem r_share_ok (w : World) (a c : Nat) (hac : a ≤ c) (hc : 1 ≤ c) (hc40 : c ≤ 1099511627776) : Ok Tryz.prog 142 [.int .i64 (a : Int), .int .i64 (c : Int), .int .i64 (c : Int)].toArray w fun r _ => r = .int .i64 (a : Int) := by
  have hq1 : (c : Int) / (c : Int) = 1 := Int.ediv_self (by omega)
  have hr0 : (c : Int) % (c : Int) = 0 := Int.emod_self
  have hz1 : (0 : Int) / (c : Int) = 0 := Int.zero_ediv _
  have hz2 : (0 : Int) % (c : Int) = 0 := Int.zero_emod _
  refine ok_enter Tryz.func142 rfl Tryz.ntmps142 rfl ?_
  focus (refine gc_seq ?_; refine gc_region ?_; refine gM rfl rfl (by conv => (lhs; whnf)) ?_; refine gO ?_; refine gc_seq ?_)
  refine gc_draw 7 (by kernel_rfl) (by kernel_rfl) ?_
  focus (apply gd_d; exact det_m rfl rfl (by conv => (lhs; whnf)); apply gd_d; exact det_m rfl rfl (by conv => (lhs; whnf)); apply gd_d; exact det_quo rfl rfl rfl rfl (by omega) (by omega) (by omega); apply gd_d; exact det_m rfl rfl (by conv => (lhs; whnf)); apply gd_d; exact det_m rfl rfl (by conv => (lhs; whnf)); apply gd_d; exact det_rem rfl rfl rfl rfl (by omega) (by omega); apply gd_d; exact det_m rfl rfl (by conv => (lhs; whnf)); refine gd_nil ?_; refine gM rfl rfl (by conv => (lhs; whnf)) ?_; refine gN ?_; refine gM rfl rfl (by conv => (lhs; whnf)) ?_; refine gM rfl rfl (by conv => (lhs; whnf)) ?_)
  rw [hq1, hr0]
  focus (apply gw_d; exact det_ar rfl rfl rfl rfl rfl (by omega); refine gM rfl rfl (by conv => (lhs; whnf)) ?_; refine gN ?_; refine gM rfl rfl (by conv => (lhs; whnf)) ?_; refine gM rfl rfl (by conv => (lhs; whnf)) ?_; refine gO ?_; refine gc_seq ?_; refine gc_seq ?_; refine gc_region ?_; refine gM rfl rfl (by conv => (lhs; whnf)) ?_; refine gO ?_; refine gc_block ?_)
  refine gc_loop (σ := Nat × Int × Int) [22, 23, 26, 27, 28, 29, 10, 11, 30, 31, 32, 33, 34, 35, 36, 37, 38, 39, 40, 41, 42, 43, 44, 45, 46, 24, 25, 12] (fun s => [(10, .int .i64 s.2.1), (11, .int .i64 s.2.2), (12, .int .i64 ((s.1 : Int) - 1))]) (fun _ => []) (fun s => s.1 ≤ 41 ∧ s.2.1 = 0 ∧ s.2.2 = 0) (fun s => s.1) (41, 0, 0) ⟨Nat.le_refl _, rfl, rfl⟩ ⟨rfl, rfl, rfl, trivial⟩ .nil ?_
  rintro ⟨j, q, lf⟩ base ⟨hj, hq, hlf⟩
  dsimp only at hj hq hlf ⊢
  focus (refine gc_seq ?_; refine gc_seq ?_; refine gc_region ?_; refine gM rfl rfl (by conv => (lhs; whnf)) ?_; refine gC rfl rfl rfl rfl rfl ?_; refine gO ?_)
  refine gc_if_dec rfl (fun h => ?_) (fun h => ?_)
  · obtain ⟨k, rfl⟩ : ∃ k, j = k + 1 := ⟨j - 1, by omega⟩
    have hcv : IntKind.u64.wrap (((k + 1 : Nat) : Int) - 1) = (k : Int) := by
      have : IntKind.u64.wrap (((k + 1 : Nat) : Int) - 1) = (((k + 1 : Nat) : Int) - 1) % 18446744073709551616 := rfl
      rw [this]
      omega
    have hsh : (a : Int).fdiv (2 ^ (min ((k : Int)).toNat IntKind.i64.bits)) = ((a / 2 ^ (min k 64) : Nat) : Int) := by
      have e1 : ((k : Int)).toNat = k := by omega
      have e2 : IntKind.i64.bits = 64 := rfl
      rw [e1, e2, two_pow_cast, Int.fdiv_eq_ediv_of_nonneg _ (Int.natCast_nonneg _)]
      rfl
    generalize a / 2 ^ (min k 64) = z at hsh
    have e0 : 2 * lf + 0 = 0 := by omega
    have e1 : 2 * lf = 0 := by omega
    have g1 : (2 * lf + 0) / (c : Int) = 0 := by rw [e0]; exact hz1
    have g2 : (2 * lf) / (c : Int) = 0 := by rw [e1]; exact hz1
    have g3 : (2 * lf + 0) % (c : Int) = 0 := by rw [e0]; exact hz2
    have g4 : (2 * lf) % (c : Int) = 0 := by rw [e1]; exact hz2
    focus (refine gc_skip ?_; refine gx_next ?_; refine gc_seq ?_; refine gc_block ?_; refine gc_seq ?_; refine gc_region ?_; refine gM rfl rfl (by conv => (lhs; whnf)) ?_; apply gw_d; exact det_ar rfl rfl rfl rfl rfl (by omega); refine gM rfl rfl (by conv => (lhs; whnf)) ?_; apply gw_d; exact det_ar rfl rfl rfl rfl rfl (by omega); refine gM rfl rfl (by conv => (lhs; whnf)) ?_; refine gM rfl rfl (by conv => (lhs; whnf)) ?_; refine gO ?_; refine gc_seq ?_; refine gc_seq ?_; refine gc_region ?_; refine gM rfl rfl (by conv => (lhs; whnf)) ?_; refine gM rfl rfl (by conv => (lhs; whnf)) ?_; apply gw_d; exact det_conv rfl rfl rfl hcv; apply gw_d; exact det_shr rfl rfl rfl rfl (by omega) hsh; apply gw_d; exact det_rem rfl rfl rfl rfl (by omega) (by omega); refine gC rfl rfl rfl rfl rfl ?_; refine gO ?_; refine gc_if_dec rfl (fun _ => ?_) (fun _ => ?_); refine gc_region ?_; refine gM rfl rfl (by conv => (lhs; whnf)) ?_; refine gM rfl rfl (by conv => (lhs; whnf)) ?_; apply gw_d; exact det_ar rfl rfl rfl rfl rfl (by omega); refine gM rfl rfl (by conv => (lhs; whnf)) ?_; refine gN ?_; refine gM rfl rfl (by conv => (lhs; whnf)) ?_; refine gM rfl rfl (by conv => (lhs; whnf)) ?_; refine gM rfl rfl (by conv => (lhs; whnf)) ?_; apply gw_d; exact det_quo rfl rfl rfl rfl (by omega) (by omega) (by omega); apply gw_d; exact det_ar rfl rfl rfl rfl rfl (by omega); refine gM rfl rfl (by conv => (lhs; whnf)) ?_; refine gO ?_; refine gc_region ?_; refine gM rfl rfl (by conv => (lhs; whnf)) ?_; refine gM rfl rfl (by conv => (lhs; whnf)) ?_; apply gw_d; exact det_rem rfl rfl rfl rfl (by omega) (by omega); refine gM rfl rfl (by conv => (lhs; whnf)) ?_; refine gw_nil ?_; refine gx_block ?_; refine gx_next ?_; refine gc_region ?_; refine gM rfl rfl (by conv => (lhs; whnf)) ?_; apply gw_d; exact det_ar rfl rfl rfl rfl rfl (by omega); refine gM rfl rfl (by conv => (lhs; whnf)) ?_; refine gw_nil ?_; rotate_left; refine gc_skip ?_; refine gx_next ?_; refine gc_seq ?_; refine gc_region ?_; refine gM rfl rfl (by conv => (lhs; whnf)) ?_; refine gM rfl rfl (by conv => (lhs; whnf)) ?_; refine gM rfl rfl (by conv => (lhs; whnf)) ?_; apply gw_d; exact det_quo rfl rfl rfl rfl (by omega) (by omega) (by omega); apply gw_d; exact det_ar rfl rfl rfl rfl rfl (by omega); refine gM rfl rfl (by conv => (lhs; whnf)) ?_; refine gO ?_; refine gc_region ?_; refine gM rfl rfl (by conv => (lhs; whnf)) ?_; refine gM rfl rfl (by conv => (lhs; whnf)) ?_; apply gw_d; exact det_rem rfl rfl rfl rfl (by omega) (by omega); refine gM rfl rfl (by conv => (lhs; whnf)) ?_; refine gw_nil ?_; refine gx_block ?_; refine gx_next ?_; refine gc_region ?_; refine gM rfl rfl (by conv => (lhs; whnf)) ?_; apply gw_d; exact det_ar rfl rfl rfl rfl rfl (by omega); refine gM rfl rfl (by conv => (lhs; whnf)) ?_; refine gw_nil ?_; rotate_left)
    all_goals exact gx_round (k, _, _) ⟨by dsimp only; omega, by dsimp only; omega, by dsimp only; omega⟩ (by dsimp only; omega) (by repeat (first | exact Keeps.refl | refine Keeps.upd rfl ?_ | refine Keeps.sets rfl ?_ | refine Keeps.havoc rfl ?_)) ⟨rfl, rfl, congrArg (Value.int .i64) (show ((k + 1 : Nat) : Int) - 1 - 1 = (k : Int) - 1 by omega), trivial⟩ .nil
  · focus (refine gc_exit ?_; refine gx_then_exit ?_; refine gx_then_exit ?_; refine gx_block_exit ?_; refine gx_next ?_; refine gc_seq ?_; refine gc_seq ?_; refine gc_region ?_; refine gM rfl rfl (by conv => (lhs; whnf)) ?_; apply gw_d; exact det_ar rfl rfl rfl rfl rfl (by omega); refine gM rfl rfl (by conv => (lhs; whnf)) ?_; refine gC rfl rfl rfl rfl rfl ?_; refine gO ?_)
    refine gc_if_dec rfl (fun h => by omega) (fun _ => ?_)
    focus (refine gc_skip ?_; refine gx_next ?_; refine gc_seq ?_; refine gc_region ?_; refine gM rfl rfl (by conv => (lhs; whnf)) ?_; refine gM rfl rfl (by conv => (lhs; whnf)) ?_; apply gw_d; exact det_ar rfl rfl rfl rfl rfl (by omega); refine gM rfl rfl (by conv => (lhs; whnf)) ?_; refine gO ?_; refine gc_ret ?_)
    refine gx_ret1 (v := .int _ _) rfl rfl (fun _ _ => ?_)
    congr 1
    omega

theorem r_partner_bad (w : World) (L a : Int) (_hL : 1 ≤ L ∧ L ≤ 1099511627776) (h : a < 0 ∨ a > L) : Ok Tryz.prog 112 [.int .i64 L, .int .i64 L, .bool false, .int .i64 a].toArray w fun r _ => r = .tuple #[.int .i64 0, .int .i64 3] := by
  refine ok_enter Tryz.func112 rfl Tryz.ntmps112 rfl ?_
  focus (refine gc_seq ?_; refine gc_region ?_; refine gM rfl rfl (by conv => (lhs; whnf)) ?_; refine gM rfl rfl (by conv => (lhs; whnf)) ?_; refine gO ?_; refine gc_seq ?_; refine gc_seq ?_; refine gc_region ?_; refine gM rfl rfl (by conv => (lhs; whnf)) ?_; refine gC rfl rfl rfl rfl rfl ?_; refine gM rfl rfl (by conv => (lhs; whnf)) ?_; refine gw_guard_dec rfl rfl (fun _ => ?_) (fun _ => ?_); refine gU rfl ?_; refine gU rfl ?_; apply gw_d; exact det_pick_t (v := .bool _) rfl rfl rfl rfl; refine gM rfl rfl (by conv => (lhs; whnf)) ?_; refine gU rfl ?_; refine gU rfl ?_; apply gw_d; exact det_pick_t (v := .bool _) rfl rfl rfl rfl; refine gM rfl rfl (by conv => (lhs; whnf)) ?_; refine gU rfl ?_; refine gU rfl ?_; apply gw_d; exact det_pick_t (v := .bool _) rfl rfl rfl rfl; refine gM rfl rfl (by conv => (lhs; whnf)) ?_; refine gU rfl ?_; refine gU rfl ?_; apply gw_d; exact det_pick_t (v := .bool _) rfl rfl rfl rfl; refine gM rfl rfl (by conv => (lhs; whnf)) ?_; refine gU rfl ?_; refine gU rfl ?_; refine gU rfl ?_; apply gw_d; exact det_pick_t (v := .bool _) rfl rfl rfl rfl; refine gO ?_; refine gc_if_true rfl ?_; refine gc_seq ?_; refine gc_region ?_; refine gM rfl rfl (by conv => (lhs; whnf)) ?_; refine gM rfl rfl (by conv => (lhs; whnf)) ?_; refine gO ?_; refine gc_ret ?_; refine gx_then_ret ?_; rotate_left; refine gM rfl rfl (by conv => (lhs; whnf)) ?_; refine gC rfl rfl rfl rfl rfl ?_; apply gw_d; exact det_pick_f (v := .bool _) rfl rfl rfl rfl; refine gM rfl rfl (by conv => (lhs; whnf)) ?_; refine gw_guard_dec rfl rfl (fun _ => ?_) (fun _ => ?_); refine gU rfl ?_; refine gU rfl ?_; apply gw_d; exact det_pick_t (v := .bool _) rfl rfl rfl rfl; refine gM rfl rfl (by conv => (lhs; whnf)) ?_; refine gU rfl ?_; refine gU rfl ?_; apply gw_d; exact det_pick_t (v := .bool _) rfl rfl rfl rfl; refine gM rfl rfl (by conv => (lhs; whnf)) ?_; refine gU rfl ?_; refine gU rfl ?_; apply gw_d; exact det_pick_t (v := .bool _) rfl rfl rfl rfl; refine gM rfl rfl (by conv => (lhs; whnf)) ?_; refine gU rfl ?_; refine gU rfl ?_; refine gU rfl ?_; apply gw_d; exact det_pick_t (v := .bool _) rfl rfl rfl rfl; refine gO ?_; refine gc_if_true rfl ?_; refine gc_seq ?_; refine gc_region ?_; refine gM rfl rfl (by conv => (lhs; whnf)) ?_; refine gM rfl rfl (by conv => (lhs; whnf)) ?_; refine gO ?_; refine gc_ret ?_; refine gx_then_ret ?_; rotate_left; refine gM rfl rfl (by conv => (lhs; whnf)) ?_; refine gC rfl rfl rfl rfl rfl ?_; apply gw_d; exact det_pick_f (v := .bool _) rfl rfl rfl rfl; refine gM rfl rfl (by conv => (lhs; whnf)) ?_; refine gw_guard_dec rfl rfl (fun _ => ?_) (fun _ => ?_); refine gU rfl ?_; refine gU rfl ?_; apply gw_d; exact det_pick_t (v := .bool _) rfl rfl rfl rfl; refine gM rfl rfl (by conv => (lhs; whnf)) ?_; refine gU rfl ?_; refine gU rfl ?_; apply gw_d; exact det_pick_t (v := .bool _) rfl rfl rfl rfl; refine gM rfl rfl (by conv => (lhs; whnf)) ?_; refine gU rfl ?_; refine gU rfl ?_; refine gU rfl ?_; apply gw_d; exact det_pick_t (v := .bool _) rfl rfl rfl rfl; refine gO ?_; refine gc_if_true rfl ?_; refine gc_seq ?_; refine gc_region ?_; refine gM rfl rfl (by conv => (lhs; whnf)) ?_; refine gM rfl rfl (by conv => (lhs; whnf)) ?_; refine gO ?_; refine gc_ret ?_; refine gx_then_ret ?_; rotate_left; refine gM rfl rfl (by conv => (lhs; whnf)) ?_; refine gC rfl rfl rfl rfl rfl ?_; apply gw_d; exact det_pick_f (v := .bool _) rfl rfl rfl rfl; refine gM rfl rfl (by conv => (lhs; whnf)) ?_; refine gw_guard_dec rfl rfl (fun _ => ?_) (fun _ => ?_); refine gU rfl ?_; refine gU rfl ?_; apply gw_d; exact det_pick_t (v := .bool _) rfl rfl rfl rfl; refine gM rfl rfl (by conv => (lhs; whnf)) ?_; refine gU rfl ?_; refine gU rfl ?_; refine gU rfl ?_; apply gw_d; exact det_pick_t (v := .bool _) rfl rfl rfl rfl; refine gO ?_; refine gc_if_true rfl ?_; refine gc_seq ?_; refine gc_region ?_; refine gM rfl rfl (by conv => (lhs; whnf)) ?_; refine gM rfl rfl (by conv => (lhs; whnf)) ?_; refine gO ?_; refine gc_ret ?_; refine gx_then_ret ?_; rotate_left; refine gM rfl rfl (by conv => (lhs; whnf)) ?_; refine gC rfl rfl rfl rfl rfl ?_; apply gw_d; exact det_pick_f (v := .bool _) rfl rfl rfl rfl; refine gM rfl rfl (by conv => (lhs; whnf)) ?_; refine gw_guard_dec rfl rfl (fun _ => ?_) (fun _ => ?_); refine gU rfl ?_; refine gU rfl ?_; refine gU rfl ?_; apply gw_d; exact det_pick_t (v := .bool _) rfl rfl rfl rfl; refine gO ?_; refine gc_if_true rfl ?_; refine gc_seq ?_; refine gc_region ?_; refine gM rfl rfl (by conv => (lhs; whnf)) ?_; refine gM rfl rfl (by conv => (lhs; whnf)) ?_; refine gO ?_; refine gc_ret ?_; refine gx_then_ret ?_; rotate_left; refine gM rfl rfl (by conv => (lhs; whnf)) ?_; refine gM rfl rfl (by conv => (lhs; whnf)) ?_; refine gC rfl rfl rfl rfl rfl ?_; apply gw_d; exact det_pick_f (v := .bool _) rfl rfl rfl rfl; refine gO ?_; refine gc_if_dec rfl (fun _ => ?_) (fun _ => ?_); refine gc_seq ?_; refine gc_region ?_; refine gM rfl rfl (by conv => (lhs; whnf)) ?_; refine gM rfl rfl (by conv => (lhs; whnf)) ?_; refine gO ?_; refine gc_ret ?_; refine gx_then_ret ?_; rotate_left; refine gc_skip ?_; refine gx_next ?_; refine gc_seq ?_; refine gc_region ?_; refine gM rfl rfl (by conv => (lhs; whnf)) ?_; refine gM rfl rfl (by conv => (lhs; whnf)) ?_; refine gM rfl rfl (by conv => (lhs; whnf)) ?_; rotate_left)
  all_goals first | (refine gx_ret2 (u := .int _ _) (v := .int _ _) rfl rfl rfl (fun _ _ => ?_); rfl) | skip
  all_goals (exfalso; omega)
theorem r_partner_ok (w : World) (L a : Nat) (hL : 1 ≤ L ∧ L ≤ 1099511627776) (h : a ≤ L) : Ok Tryz.prog 112 [.int .i64 (L : Int), .int .i64 (L : Int), .bool false, .int .i64 (a : Int)].toArray w fun r _ => r = .tuple #[.int .i64 (a : Int), .int .i64 0] := by
  refine ok_enter Tryz.func112 rfl Tryz.ntmps112 rfl ?_
  focus (refine gc_seq ?_; refine gc_region ?_; refine gM rfl rfl (by conv => (lhs; whnf)) ?_; refine gM rfl rfl (by conv => (lhs; whnf)) ?_; refine gO ?_; refine gc_seq ?_; refine gc_seq ?_; refine gc_region ?_; refine gM rfl rfl (by conv => (lhs; whnf)) ?_; refine gC rfl rfl rfl rfl rfl ?_; refine gM rfl rfl (by conv => (lhs; whnf)) ?_; refine gw_guard_dec rfl rfl (fun _ => ?_) (fun _ => ?_); refine gU rfl ?_; refine gU rfl ?_; apply gw_d; exact det_pick_t (v := .bool _) rfl rfl rfl rfl; refine gM rfl rfl (by conv => (lhs; whnf)) ?_; refine gU rfl ?_; refine gU rfl ?_; apply gw_d; exact det_pick_t (v := .bool _) rfl rfl rfl rfl; refine gM rfl rfl (by conv => (lhs; whnf)) ?_; refine gU rfl ?_; refine gU rfl ?_; apply gw_d; exact det_pick_t (v := .bool _) rfl rfl rfl rfl; refine gM rfl rfl (by conv => (lhs; whnf)) ?_; refine gU rfl ?_; refine gU rfl ?_; apply gw_d; exact det_pick_t (v := .bool _) rfl rfl rfl rfl; refine gM rfl rfl (by conv => (lhs; whnf)) ?_; refine gU rfl ?_; refine gU rfl ?_; refine gU rfl ?_; apply gw_d; exact det_pick_t (v := .bool _) rfl rfl rfl rfl; refine gO ?_; refine gc_if_true rfl ?_; refine gc_seq ?_; refine gc_region ?_; refine gM rfl rfl (by conv => (lhs; whnf)) ?_; refine gM rfl rfl (by conv => (lhs; whnf)) ?_; refine gO ?_; refine gc_ret ?_; refine gx_then_ret ?_; rotate_left; refine gM rfl rfl (by conv => (lhs; whnf)) ?_; refine gC rfl rfl rfl rfl rfl ?_; apply gw_d; exact det_pick_f (v := .bool _) rfl rfl rfl rfl; refine gM rfl rfl (by conv => (lhs; whnf)) ?_; refine gw_guard_dec rfl rfl (fun _ => ?_) (fun _ => ?_); refine gU rfl ?_; refine gU rfl ?_; apply gw_d; exact det_pick_t (v := .bool _) rfl rfl rfl rfl; refine gM rfl rfl (by conv => (lhs; whnf)) ?_; refine gU rfl ?_; refine gU rfl ?_; apply gw_d; exact det_pick_t (v := .bool _) rfl rfl rfl rfl; refine gM rfl rfl (by conv => (lhs; whnf)) ?_; refine gU rfl ?_; refine gU rfl ?_; apply gw_d; exact det_pick_t (v := .bool _) rfl rfl rfl rfl; refine gM rfl rfl (by conv => (lhs; whnf)) ?_; refine gU rfl ?_; refine gU rfl ?_; refine gU rfl ?_; apply gw_d; exact det_pick_t (v := .bool _) rfl rfl rfl rfl; refine gO ?_; refine gc_if_true rfl ?_; refine gc_seq ?_; refine gc_region ?_; refine gM rfl rfl (by conv => (lhs; whnf)) ?_; refine gM rfl rfl (by conv => (lhs; whnf)) ?_; refine gO ?_; refine gc_ret ?_; refine gx_then_ret ?_; rotate_left; refine gM rfl rfl (by conv => (lhs; whnf)) ?_; refine gC rfl rfl rfl rfl rfl ?_; apply gw_d; exact det_pick_f (v := .bool _) rfl rfl rfl rfl; refine gM rfl rfl (by conv => (lhs; whnf)) ?_; refine gM rfl rfl (by conv => (lhs; whnf)) ?_; refine gC rfl rfl rfl rfl rfl ?_; apply gw_d; exact det_pick_f (v := .bool _) rfl rfl rfl rfl; refine gM rfl rfl (by conv => (lhs; whnf)) ?_; refine gw_guard_dec rfl rfl (fun _ => ?_) (fun _ => ?_); refine gU rfl ?_; refine gU rfl ?_; apply gw_d; exact det_pick_t (v := .bool _) rfl rfl rfl rfl; refine gM rfl rfl (by conv => (lhs; whnf)) ?_; refine gU rfl ?_; refine gU rfl ?_; refine gU rfl ?_; apply gw_d; exact det_pick_t (v := .bool _) rfl rfl rfl rfl; refine gO ?_; refine gc_if_true rfl ?_; refine gc_seq ?_; refine gc_region ?_; refine gM rfl rfl (by conv => (lhs; whnf)) ?_; refine gM rfl rfl (by conv => (lhs; whnf)) ?_; refine gO ?_; refine gc_ret ?_; refine gx_then_ret ?_; rotate_left; refine gM rfl rfl (by conv => (lhs; whnf)) ?_; refine gC rfl rfl rfl rfl rfl ?_; apply gw_d; exact det_pick_f (v := .bool _) rfl rfl rfl rfl; refine gM rfl rfl (by conv => (lhs; whnf)) ?_; refine gM rfl rfl (by conv => (lhs; whnf)) ?_; refine gM rfl rfl (by conv => (lhs; whnf)) ?_; refine gC rfl rfl rfl rfl rfl ?_; apply gw_d; exact det_pick_f (v := .bool _) rfl rfl rfl rfl; refine gO ?_; refine gc_if_dec rfl (fun _ => ?_) (fun _ => ?_); refine gc_seq ?_; refine gc_region ?_; refine gM rfl rfl (by conv => (lhs; whnf)) ?_; refine gM rfl rfl (by conv => (lhs; whnf)) ?_; refine gO ?_; refine gc_ret ?_; refine gx_then_ret ?_; rotate_left; refine gc_skip ?_; refine gx_next ?_; refine gc_seq ?_; refine gc_region ?_; refine gM rfl rfl (by conv => (lhs; whnf)) ?_; refine gM rfl rfl (by conv => (lhs; whnf)) ?_; refine gM rfl rfl (by conv => (lhs; whnf)) ?_; apply gw_d; exact w_call rfl rfl (fun w' _ => r_share_ok w' a L h hL.1 hL.2) rfl; refine gM rfl rfl (by conv => (lhs; whnf)) ?_; refine gO ?_; refine gc_seq ?_; refine gc_seq ?_; refine gc_region ?_; refine gM rfl rfl (by conv => (lhs; whnf)) ?_; refine gO ?_; refine gc_if_false rfl ?_; refine gc_skip ?_; refine gx_next ?_; refine gc_seq ?_; refine gc_region ?_; refine gM rfl rfl (by conv => (lhs; whnf)) ?_; refine gM rfl rfl (by conv => (lhs; whnf)) ?_; refine gM rfl rfl (by conv => (lhs; whnf)) ?_; refine gO ?_; refine gc_ret ?_; rotate_left)
  all_goals first | (exfalso; omega) | skip
  refine gx_ret2 (u := .int _ _) (v := .int _ _) rfl rfl rfl (fun _ _ => ?_)
  rfl
end Go.Proofs.YtckhibfbdnoigaaGreat

/- Contracts: the places of notches by the chapter's own rule (reference 23). -/
namespace Go.Proofs.YtckhibfbdnoigaaGreat
open Go.RowKit
set_option maxRecDepth 100000
set_option maxHeartbeats 8000000

theorem r_placed_ok (w : World) (nm : ByteArray) (g : Int) (m : Bool) (Ae An Ac Aw : Option Addr) (ce cn cc nw cw : Nat) (l : List Edg) (cs ns : List (Int × Int))
    (hl : Sl rEdge w w.heap.size (.slice Ae l.length ce) l) (hns : Sl rSpot w w.heap.size (.slice An ns.length cn) ns) (hcs : Sl rSpot w w.heap.size (.slice Ac cs.length cc) cs) :
    OkM Tryz.prog 84 [.agg #[.string nm, .slice Ae l.length ce, .int .i64 g, .slice An ns.length cn, .slice Ac cs.length cc, .slice Aw nw cw, .bool m], .int .i64 0].toArray w
      (fun x : Option Addr × Nat × Nat => .tuple #[.slice x.1 x.2.1 x.2.2, .int .i64 (placedE l cs ns)]) (fun _ => []) := by
  unfold OkM
  refine ok_enter Tryz.func84 rfl Tryz.ntmps84 rfl ?_
  focus (refine gc_seq ?_; refine gc_region ?_; refine gw_boxd (v := .agg _) rfl rfl (fun _ => ?_); refine gM rfl rfl (by conv => (lhs; whnf)) ?_; refine gM rfl rfl (by conv => (lhs; whnf)) ?_; refine gN ?_; apply gw_d; exact w_load_boxN rfl rfl rfl .here rfl; refine gM rfl rfl (by conv => (lhs; whnf)) ?_)
  refine gw_callm rfl (fun w s => r_graded_ok w nm g m _ _ _ _ _ _ _ _ _ _ l cs (hl.later s) (hcs.later s)) rfl (fun x => ?_)
  focus (refine gM rfl rfl (by conv => (lhs; whnf)) ?_; apply gw_d; exact det_extract rfl rfl rfl (by conv => (lhs; whnf)); apply gw_d; exact det_extract rfl rfl rfl (by conv => (lhs; whnf)); refine gM rfl rfl (by conv => (lhs; whnf)) ?_; refine gM rfl rfl (by conv => (lhs; whnf)) ?_; refine gO ?_; refine gc_seq ?_; refine gc_seq ?_; refine gc_region ?_; refine gM rfl rfl (by conv => (lhs; whnf)) ?_; refine gC rfl rfl rfl rfl rfl ?_; refine gO ?_)
  refine gc_if_dec rfl (fun h => ?_) (fun h => ?_)
  · have hE : placedE l cs ns = gradedE l cs := by unfold placedE; rw [if_pos h]
    focus (refine gc_seq ?_; refine gc_region ?_; refine gM rfl rfl (by conv => (lhs; whnf)) ?_; refine gM rfl rfl (by conv => (lhs; whnf)) ?_; refine gM rfl rfl (by conv => (lhs; whnf)) ?_; refine gO ?_; refine gc_ret ?_; refine gx_then_ret ?_)
    refine gx_ret2 (u := .slice _ _ _) (v := .int _ _) rfl rfl rfl (fun _ _ => ?_)
    exact ⟨(none, 0, 0), by rw [hE], trivial⟩
  have h0 : gradedE l cs = 0 := by simpa using h
  rw [if_pos h0]
  simp only [if_pos h0]
  focus (refine gc_skip ?_; refine gx_next ?_; refine gc_seq ?_; refine gc_seq ?_; refine gc_region ?_; refine gF rfl rfl rfl ?_; apply gw_d; exact w_load_box rfl rfl rfl (.there .here) rfl; refine gL rfl rfl rfl ?_; refine gC rfl rfl rfl rfl rfl ?_; refine gO ?_)
  refine gc_if_dec rfl (fun h => ?_) (fun h16 => ?_)
  · have hE : placedE l cs ns = 5 := by unfold placedE; rw [if_neg (by rw [h0]; decide), if_pos (by omega)]
    focus (refine gc_seq ?_; refine gc_region ?_; refine gM rfl rfl (by conv => (lhs; whnf)) ?_; refine gM rfl rfl (by conv => (lhs; whnf)) ?_; refine gO ?_; refine gc_ret ?_; refine gx_then_ret ?_)
    refine gx_ret2 (u := .slice _ _ _) (v := .int _ _) rfl rfl rfl (fun _ _ => ?_)
    exact ⟨(none, 0, 0), by rw [hE], trivial⟩
  have hE : placedE l cs ns = firstE (notchF l ns) ns.length := by unfold placedE; rw [if_neg (by rw [h0]; decide), if_neg (by omega)]
  rw [hE]
  focus (refine gc_skip ?_; refine gx_next ?_; refine gc_seq ?_; refine gc_region ?_; refine gM rfl rfl (by conv => (lhs; whnf)) ?_; refine gO ?_; refine gc_seq ?_; refine gc_seq ?_; refine gc_region ?_; refine gM rfl rfl (by conv => (lhs; whnf)) ?_; refine gO ?_; refine gc_block ?_)
  rename_i bp
  refine gc_own0 3 1 ?_
  refine gc_loop (σ := Nat × Option Addr × Nat × List Int) [30, 31, 32, 33, 34, 37, 38, 39, 40, 41, 10, 42, 43, 44, 45, 46, 47, 48, 49, 50, 51, 52, 4, 5, 54, 55, 56, 57, 58, 59, 60, 61, 53, 62, 63, 11, 12, 65, 66, 67, 68, 69, 70, 71, 64, 72, 73, 13, 14, 75, 76, 77, 78, 79, 74, 80, 81, 15, 16, 82, 83, 84, 85, 86, 87, 88, 8, 35, 36, 9] (fun s => [(9, .int .i64 s.1), (8, .slice s.2.1 s.2.2.2.length s.2.2.1)]) (fun s => [Own s.2.1 s.2.2.2.length s.2.2.1 3 1 (s.2.2.2.map (Value.int .i64)), Deep x.2.2 rEdge (.slice x.1 l.length x.2.1) l, Box bp 80 #[.string nm, .slice Ae l.length ce, .int .i64 g, .slice An ns.length cn, .slice Ac cs.length cc, .slice Aw nw cw, .bool m]]) (fun s => s.1 ≤ ns.length ∧ s.2.2.2.length = s.1 ∧ firstE (notchF l ns) s.1 = 0) (fun s => ns.length - s.1) (0, none, 0, []) ⟨Nat.zero_le _, rfl, rfl⟩ ⟨rfl, rfl, trivial⟩ (.cons .here (.cons .here (.cons .here .nil))) ?_
  rintro ⟨k, A, c, pls⟩ base ⟨hk, hpl, hI⟩
  dsimp only at hk hpl hI ⊢
  focus (refine gc_seq ?_; refine gc_seq ?_; refine gc_region ?_; refine gM rfl rfl (by conv => (lhs; whnf)) ?_; refine gF rfl rfl rfl ?_; apply gw_d; exact w_load_box rfl rfl rfl (.there (.there .here)) rfl; refine gL rfl rfl rfl ?_; refine gC rfl rfl rfl rfl rfl ?_; refine gO ?_)
  refine gc_if_dec rfl (fun h2 => ?_) (fun h2 => ?_)
  · have hkn : k < ns.length := by omega
    obtain ⟨adn, _, hv, _, _, hbn, hncell⟩ := hns.spot' (by omega)
    injection hv with e1 e2 e3
    subst e1 e3
    have hcn := hncell k hkn
    have hF : notchF l ns k = if (gS ns k).1 < 0 ∨ (gS ns k).1 ≥ l.length then 3 else if (gS ns k).2 < 0 ∨ (gS ns k).2 > lenL (gE l (gS ns k).1.toNat).2 then 3 else 0 := by
      unfold notchF
      rw [List.getElem?_eq_getElem hkn, gS_get hkn]
    have hstop : notchF l ns k = 3 → firstE (notchF l ns) ns.length = 3 := fun h3 => by
      have := firstE_stop hI (by rw [h3]; decide) hkn
      rw [this, h3]
    generalize gS ns k = nk at *
    focus (refine gc_skip ?_; refine gx_next ?_; refine gc_seq ?_; refine gc_block ?_; refine gc_seq ?_; refine gc_region ?_; refine gF rfl rfl rfl ?_; apply gw_d; exact w_load_box rfl rfl rfl (.there (.there .here)) rfl; refine gM rfl rfl (by conv => (lhs; whnf)) ?_; apply gw_d; exact w_index rfl rfl rfl rfl (by with_reducible exact rfl) (by omega); apply gw_d; exact w_load_elem rfl rfl rfl (by assumption) (by assumption) (by rfl); refine w_alloc rfl (fun _ => ?_); refine w_store_all rfl rfl rfl rfl rfl .here rfl ?_; refine gO ?_; refine gc_seq ?_; refine gc_seq ?_; refine gc_region ?_; refine gF rfl rfl rfl ?_; apply gw_d; exact w_load_box rfl rfl rfl .here rfl; refine gC rfl rfl rfl rfl rfl ?_; refine gM rfl rfl (by conv => (lhs; whnf)) ?_)
    by_cases hc : nk.1 < 0 ∨ nk.1 ≥ l.length
    · rw [if_pos hc] at hF
      rw [hstop hF]
      focus (refine gw_guard_dec rfl rfl (fun _ => ?_) (fun _ => ?_); refine gU rfl ?_; refine gU rfl ?_; refine gU rfl ?_; refine gU rfl ?_; refine gU rfl ?_; refine gU rfl ?_; apply gw_d; exact det_pick_t (v := .bool _) rfl rfl rfl rfl; refine gO ?_; refine gc_if_true rfl ?_; refine gc_seq ?_; refine gc_region ?_; refine gM rfl rfl (by conv => (lhs; whnf)) ?_; refine gM rfl rfl (by conv => (lhs; whnf)) ?_; refine gO ?_; refine gc_ret ?_; refine gx_then_ret ?_; refine gx_block_ret ?_; refine gx_then_ret ?_; refine gx_then_ret ?_; refine gx_block_ret ?_; refine gx_then_ret ?_; rotate_left; refine gF rfl rfl rfl ?_; apply gw_d; exact w_load_box rfl rfl rfl .here rfl; refine gF rfl rfl rfl ?_; apply gw_d; exact w_load_box rfl rfl rfl (.there (.there (.there .here))) rfl; refine gL rfl rfl rfl ?_; refine gC rfl rfl rfl rfl rfl ?_; apply gw_d; exact det_pick_f (v := .bool _) rfl rfl rfl rfl; refine gO ?_; refine gc_if_dec rfl (fun _ => ?_) (fun _ => ?_); refine gc_seq ?_; refine gc_region ?_; refine gM rfl rfl (by conv => (lhs; whnf)) ?_; refine gM rfl rfl (by conv => (lhs; whnf)) ?_; refine gO ?_; refine gc_ret ?_; refine gx_then_ret ?_; refine gx_block_ret ?_; refine gx_then_ret ?_; refine gx_then_ret ?_; refine gx_block_ret ?_; refine gx_then_ret ?_; rotate_left; refine gc_skip ?_; refine gx_next ?_; refine gc_seq ?_; refine gc_region ?_; refine gF rfl rfl rfl ?_; apply gw_d; exact w_load_box rfl rfl rfl (.there (.there (.there .here))) rfl; refine gF rfl rfl rfl ?_; apply gw_d; exact w_load_box rfl rfl rfl .here rfl; rotate_left)
      all_goals first | (exfalso; omega) | skip
      all_goals (refine gx_ret2 (u := .slice _ _ _) (v := .int _ _) rfl rfl rfl (fun _ _ => ?_); exact ⟨(none, 0, 0), rfl, trivial⟩)
    rw [if_neg hc] at hF
    obtain ⟨ed, hed⟩ : ∃ ed : Nat, nk.1 = (ed : Int) := ⟨nk.1.toNat, by omega⟩
    have hel : ed < l.length := by omega
    obtain ⟨ade, _, hv, _, _, hbe, hecell⟩ := hl.edge' (by omega)
    injection hv with e1 e2 e3
    subst e1 e3
    obtain ⟨A', c', hcE, _, _, _, hline⟩ := hecell ed hel
    have hcE1 := hcE 1 _ rfl
    have hLen : ∀ (L : List Res) (w' : World), St w L w' → Ok Tryz.prog 111 [.slice A' (gE l ed).2.length c'].toArray w' fun r _ => r = .tuple #[.int .i64 (lenL (gE l ed).2), .int .i64 0] := fun L w' s => r_length_ok w' _ _ (hline.later s) (edges_lines h0 ed hel)
    focus (refine gw_guard_dec rfl rfl (fun _ => ?_) (fun _ => ?_); refine gU rfl ?_; refine gU rfl ?_; refine gU rfl ?_; refine gU rfl ?_; refine gU rfl ?_; refine gU rfl ?_; apply gw_d; exact det_pick_t (v := .bool _) rfl rfl rfl rfl; refine gO ?_; refine gc_if_true rfl ?_; refine gc_seq ?_; refine gc_region ?_; refine gM rfl rfl (by conv => (lhs; whnf)) ?_; refine gM rfl rfl (by conv => (lhs; whnf)) ?_; refine gO ?_; refine gc_ret ?_; refine gx_then_ret ?_; refine gx_block_ret ?_; refine gx_then_ret ?_; refine gx_then_ret ?_; refine gx_block_ret ?_; refine gx_then_ret ?_; rotate_left; refine gF rfl rfl rfl ?_; apply gw_d; exact w_load_box rfl rfl rfl .here rfl; refine gF rfl rfl rfl ?_; apply gw_d; exact w_load_box rfl rfl rfl (.there (.there (.there .here))) rfl; refine gL rfl rfl rfl ?_; refine gC rfl rfl rfl rfl rfl ?_; apply gw_d; exact det_pick_f (v := .bool _) rfl rfl rfl rfl; refine gO ?_; refine gc_if_dec rfl (fun _ => ?_) (fun _ => ?_); refine gc_seq ?_; refine gc_region ?_; refine gM rfl rfl (by conv => (lhs; whnf)) ?_; refine gM rfl rfl (by conv => (lhs; whnf)) ?_; refine gO ?_; refine gc_ret ?_; refine gx_then_ret ?_; refine gx_block_ret ?_; refine gx_then_ret ?_; refine gx_then_ret ?_; refine gx_block_ret ?_; refine gx_then_ret ?_; rotate_left; refine gc_skip ?_; refine gx_next ?_; refine gc_seq ?_; refine gc_region ?_; refine gF rfl rfl rfl ?_; apply gw_d; exact w_load_box rfl rfl rfl (.there (.there (.there .here))) rfl; refine gF rfl rfl rfl ?_; apply gw_d; exact w_load_box rfl rfl rfl .here rfl; apply gw_d; exact w_index (m := ed) rfl rfl rfl rfl hed hel; refine gF rfl rfl rfl ?_; apply gw_d; exact w_load_fld rfl rfl rfl (by assumption) (by assumption); apply gw_d; exact w_call rfl rfl (hLen _) rfl; refine gM rfl rfl (by conv => (lhs; whnf)) ?_; apply gw_d; exact det_extract rfl rfl rfl (by conv => (lhs; whnf)); apply gw_d; exact det_extract rfl rfl rfl (by conv => (lhs; whnf)); refine gM rfl rfl (by conv => (lhs; whnf)) ?_; refine gM rfl rfl (by conv => (lhs; whnf)) ?_; refine gN ?_; refine gM rfl rfl (by conv => (lhs; whnf)) ?_; refine gF rfl rfl rfl ?_; apply gw_d; exact w_load_box rfl rfl rfl .here rfl; rotate_left)
    all_goals first | (exfalso; omega) | skip
    refine gw_ent (K := Deep x.2.2 rEdge (.slice x.1 l.length x.2.1) l :: Box _ _ _ :: Own _ _ _ _ _ _ :: Box _ _ _ :: []) (Sub.ent (.cons (.there (.there .here)) (.cons .here (.cons .here (.cons .here .nil))))) ?_
    refine gw_pick (fun w' s => deep_at (i := ed) hel w w' s) (fun a ha => ?_)
    obtain ⟨x1, x2, xS⟩ := x
    dsimp only at ha ⊢
    subst ha
    have hLen2 : ∀ (L : List Res) (w' : World), St w (DeepAt xS (.slice (some a.1) l.length x2) l ed a :: L) w' → Ok Tryz.prog 111 [.slice a.2.1 (gE l ed).2.length a.2.2].toArray w' fun r _ => r = .tuple #[.int .i64 (lenL (gE l ed).2), .int .i64 0] := fun L w' s => r_length_ok w' _ _ (SlS.grow (fun b hb => (s.sep.fp _ List.mem_cons_self b hb).2) s.head.2.2.2.2) (edges_lines h0 ed hel)
    have hcd : ∀ (L : List Res) (w' : World), St w (DeepAt xS (.slice (some a.1) l.length x2) l ed a :: L) w' → w'.cell? ((a.1.add (ed * 2)).add 1) = some (.slice a.2.1 (gE l ed).2.length a.2.2) := fun L w' s => by rw [add_add]; exact s.head.2.2.2.1 1 _ rfl
    have hlr := lenL_range (line_good (edges_lines h0 ed hel))
    focus (apply gw_d; exact w_index (m := ed) rfl rfl rfl rfl hed hel; refine gF rfl rfl rfl ?_; apply gw_d; exact det_load rfl rfl rfl (fun w' s => run_loadVar1 CNotAgg.h (hcd _ w' s)); apply gw_d; exact w_call rfl rfl (hLen2 _) rfl; refine gM rfl rfl (by conv => (lhs; whnf)) ?_; apply gw_d; exact det_extract rfl rfl rfl (by conv => (lhs; whnf)); apply gw_d; exact det_extract rfl rfl rfl (by conv => (lhs; whnf)); refine gM rfl rfl (by conv => (lhs; whnf)) ?_; refine gM rfl rfl (by conv => (lhs; whnf)) ?_; refine gN ?_; refine gM rfl rfl (by conv => (lhs; whnf)) ?_; refine gM rfl rfl (by conv => (lhs; whnf)) ?_; refine gF rfl rfl rfl ?_; apply gw_d; exact w_load_box rfl rfl rfl (.there .here) rfl)
    all_goals first | (exfalso; omega) | skip
    have htn : nk.1.toNat = ed := by omega
    rw [htn] at hF
    by_cases hat : nk.2 < 0 ∨ nk.2 > lenL (gE l ed).2
    · rw [if_pos hat] at hF
      rw [hstop hF]
      focus (apply gw_d; exact w_call rfl rfl (fun w' _ => r_partner_bad w' _ _ (by omega) hat) rfl; refine gM rfl rfl (by conv => (lhs; whnf)) ?_; apply gw_d; exact det_extract rfl rfl rfl (by conv => (lhs; whnf)); apply gw_d; exact det_extract rfl rfl rfl (by conv => (lhs; whnf)); refine gM rfl rfl (by conv => (lhs; whnf)) ?_; refine gM rfl rfl (by conv => (lhs; whnf)) ?_; refine gO ?_; refine gc_seq ?_; refine gc_seq ?_; refine gc_region ?_; refine gM rfl rfl (by conv => (lhs; whnf)) ?_; refine gC rfl rfl rfl rfl rfl ?_; refine gO ?_; refine gc_if_dec rfl (fun _ => ?_) (fun _ => ?_); refine gc_seq ?_; refine gc_region ?_; refine gM rfl rfl (by conv => (lhs; whnf)) ?_; refine gM rfl rfl (by conv => (lhs; whnf)) ?_; refine gM rfl rfl (by conv => (lhs; whnf)) ?_; refine gO ?_; refine gc_ret ?_; refine gx_then_ret ?_; refine gx_block_ret ?_; refine gx_then_ret ?_; refine gx_then_ret ?_; refine gx_block_ret ?_; refine gx_then_ret ?_; rotate_left; refine gc_skip ?_; refine gx_next ?_; refine gc_region ?_; refine gM rfl rfl (by conv => (lhs; whnf)) ?_; refine gM rfl rfl (by conv => (lhs; whnf)) ?_; rotate_left)
      all_goals first | (exfalso; omega) | skip
      all_goals (refine gx_ret2 (u := .slice _ _ _) (v := .int _ _) rfl rfl rfl (fun _ _ => ?_); exact ⟨(none, 0, 0), rfl, trivial⟩)
    rw [if_neg hat] at hF
    obtain ⟨LN, hLN⟩ : ∃ n : Nat, lenL (gE l ed).2 = (n : Int) := ⟨(lenL (gE l ed).2).toNat, by omega⟩
    obtain ⟨aN, haN⟩ : ∃ n : Nat, nk.2 = (n : Int) := ⟨nk.2.toNat, by omega⟩
    rw [hLN, haN]
    focus (skip)
    focus (apply gw_d; exact w_call rfl rfl (fun w' _ => r_partner_ok w' LN aN (by omega) (by omega)) rfl; refine gM rfl rfl (by conv => (lhs; whnf)) ?_; apply gw_d; exact det_extract rfl rfl rfl (by conv => (lhs; whnf)); apply gw_d; exact det_extract rfl rfl rfl (by conv => (lhs; whnf)); refine gM rfl rfl (by conv => (lhs; whnf)) ?_; refine gM rfl rfl (by conv => (lhs; whnf)) ?_; refine gO ?_; refine gc_seq ?_; refine gc_seq ?_; refine gc_region ?_; refine gM rfl rfl (by conv => (lhs; whnf)) ?_; refine gC rfl rfl rfl rfl rfl ?_; refine gO ?_; refine gc_if_dec rfl (fun _ => ?_) (fun _ => ?_); refine gc_seq ?_; refine gc_region ?_; refine gM rfl rfl (by conv => (lhs; whnf)) ?_; refine gM rfl rfl (by conv => (lhs; whnf)) ?_; refine gM rfl rfl (by conv => (lhs; whnf)) ?_; refine gO ?_; refine gc_ret ?_; refine gx_then_ret ?_; refine gx_block_ret ?_; refine gx_then_ret ?_; refine gx_then_ret ?_; refine gx_block_ret ?_; refine gx_then_ret ?_; rotate_left; refine gc_skip ?_; refine gx_next ?_; refine gc_region ?_; refine gM rfl rfl (by conv => (lhs; whnf)) ?_; refine gM rfl rfl (by conv => (lhs; whnf)) ?_; rotate_left)
    all_goals first | (exfalso; omega) | skip
    refine gw_bslice1 (v := .int .i64 (aN : Int)) rfl rfl rfl rfl rfl (fun bb => ?_)
    refine gw_append (news := [.int .i64 (aN : Int)]) rfl rfl rfl (.there (.there (.there .here))) rfl (fun w' s _ => ?_) (fun u hu => ?_) (by unfold maxLen; omega) (by omega) (by decide) rfl (fun A3 c3 => ?_)
    · refine ⟨⟨bb, 0, none⟩, rfl, fun i u hu => ?_⟩
      rw [add_zero]
      refine (Box.cell s.head i).trans ?_
      change (#[Value.int .i64 (aN : Int)] : Array Value)[i]? = some u
      rw [List.getElem?_toArray]
      exact hu
    · rw [List.mem_singleton] at hu
      subst hu
      rfl
    · focus (refine gM rfl rfl (by conv => (lhs; whnf)) ?_; refine gw_nil ?_; refine gx_block ?_; refine gx_next ?_; refine gc_region ?_; refine gM rfl rfl (by conv => (lhs; whnf)) ?_; apply gw_d; exact det_ar rfl rfl rfl rfl rfl (by omega); refine gM rfl rfl (by conv => (lhs; whnf)) ?_; refine gw_nil ?_)
      refine gx_roundE (k + 1, A3, c3, pls ++ [(aN : Int)]) ⟨hkn, by simp [hpl], firstE_snoc hI hF⟩ (by dsimp only; omega) (by repeat (first | exact Keeps.refl | refine Keeps.upd rfl ?_ | refine Keeps.sets rfl ?_ | refine Keeps.havoc rfl ?_)) ⟨rfl, by rw [List.length_append]; rfl, trivial⟩ ?_
      dsimp only
      rw [List.length_append, List.map_append]
      exact Ent.trans (Sub.ent (.cons (.there (.there .here)) (.cons .here (.cons (.there (.there .here)) .nil)))) (Ent.trans (fun w0 w s => s.same (q := Deep xS rEdge (.slice (some a.1) l.length x2) l) (fun b hb => hb) s.head.1) (Sub.ent (.cons (.there .here) (.cons .here (.cons .here .nil)))))
  · obtain rfl : k = ns.length := by omega
    focus (refine gc_exit ?_; refine gx_then_exit ?_; refine gx_then_exit ?_; refine gx_block_exit ?_; refine gx_next ?_; refine gc_seq ?_; refine gc_region ?_; refine gM rfl rfl (by conv => (lhs; whnf)) ?_; refine gM rfl rfl (by conv => (lhs; whnf)) ?_; refine gM rfl rfl (by conv => (lhs; whnf)) ?_; refine gO ?_; refine gc_ret ?_)
    refine gx_ret2 (u := .slice _ _ _) (v := .int _ _) rfl rfl rfl (fun _ _ => ?_)
    exact ⟨(A, pls.length, c), by rw [hI], trivial⟩
end Go.Proofs.YtckhibfbdnoigaaGreat

/- Contracts: styles. -/
namespace Go.Proofs.YtckhibfbdnoigaaGreat
open Go.RowKit
set_option maxRecDepth 100000
set_option maxHeartbeats 1000000

def useE (s : Sty) (k : Nat) : Int := match s.uses[k]? with
  | some u => if u.1 < 0 ∨ u.1 ≥ s.pieces.length ∨ u.2.1 < 1 ∨ u.2.1 > 4 then 3 else 0
  | none => 0
def seamE (s : Sty) (k : Nat) : Int := match s.seams[k]? with
  | some u => if isEdgeB s u.1 u.2.1 = true ∧ isEdgeB s u.2.2.1 u.2.2.2.1 = true then if u.2.2.2.2.2 < 0 then 1 else 0 else 3
  | none => 0
def pieceAt (s : Sty) (pl : Pc → Int) (k : Nat) : Int := match s.pieces[k]? with
  | some p => pieceE (s.pieces.take k) p (pl p)
  | none => 0
def styleE (s : Sty) (pl : Pc → Int) : Int := if ¬ wholeE s = 0 then wholeE s else if ¬ firstE (pieceAt s pl) s.pieces.length = 0 then firstE (pieceAt s pl) s.pieces.length else
  if ¬ firstE (useE s) s.uses.length = 0 then firstE (useE s) s.uses.length else firstE (seamE s) s.seams.length
def plE (p : Pc) : Int := placedE p.edges p.corners p.notches
def pl0 (p : Pc) : Int := gradedE p.edges p.corners
theorem plE_none {p : Pc} (h : p.notches = []) : plE p = pl0 p := by
  unfold plE pl0 placedE
  rw [h]
  by_cases h0 : gradedE p.edges p.corners = 0
  · rw [h0]; rfl
  · rw [if_pos h0]
theorem styleE_none {s : Sty} (hno : ∀ p ∈ s.pieces, p.notches = []) : styleE s plE = styleE s pl0 := by
  have : pieceAt s plE = pieceAt s pl0 := by
    funext k
    unfold pieceAt
    cases h : s.pieces[k]? with
    | none => rfl
    | some p => dsimp only; rw [plE_none (hno p (List.mem_of_getElem? h))]
  unfold styleE
  rw [this]

theorem style_ok (w : World) (v : Value) (s : Sty) (hs : StyV w w.heap.size v s) : Ok Tryz.prog 28 [v].toArray w fun r _ => r = .int .i64 (styleE s plE) := by
  have hs' := hs
  obtain ⟨As, cs, Am, cm, Ap, cp, Au, cu, Ae, ce, Ao, co, rfl, hnm, h1, h2, h3, h4, h5, h6⟩ := hs
  obtain ⟨_, _, hv, hpc, hpm⟩ := len_small h3
  injection hv with e1 e2 e3
  subst e1 e3
  obtain ⟨_, _, hv, huc, hum⟩ := len_small h4
  injection hv with e1 e2 e3
  subst e1 e3
  obtain ⟨_, _, hv, hec, hem⟩ := len_small h5
  injection hv with e1 e2 e3
  subst e1 e3
  refine ok_enter Tryz.func28 rfl Tryz.ntmps28 rfl ?_
  focus (refine gc_seq ?_; refine gc_region ?_; refine gw_boxd (v := .agg _) rfl rfl (fun _ => ?_); refine gM rfl rfl (by conv => (lhs; whnf)) ?_; refine gO ?_; refine gc_seq ?_; refine gc_seq ?_; refine gc_region ?_; apply gw_d; exact w_load_boxN rfl rfl rfl .here rfl; apply gw_d; exact w_call rfl rfl (fun w s => whole_ok w _ _ (hs'.later s)) rfl; refine gM rfl rfl (by conv => (lhs; whnf)) ?_; refine gN ?_; refine gM rfl rfl (by conv => (lhs; whnf)) ?_; refine gC rfl rfl rfl rfl rfl ?_; refine gO ?_)
  refine gc_if_dec rfl (fun h => ?_) (fun h => ?_)
  · focus (refine gc_seq ?_; refine gc_region ?_; refine gM rfl rfl (by conv => (lhs; whnf)) ?_; refine gM rfl rfl (by conv => (lhs; whnf)) ?_; refine gO ?_; refine gc_ret ?_; refine gx_then_ret ?_)
    refine gx_ret1 (v := .int _ _) rfl rfl (fun _ _ => ?_)
    unfold styleE
    rw [if_pos h]
  focus (refine gc_skip ?_; refine gx_next ?_; refine gc_seq ?_; refine gc_seq ?_; refine gc_region ?_; refine gF rfl rfl rfl ?_; apply gw_d; exact w_load_box rfl rfl rfl .here rfl; refine gL rfl rfl rfl ?_; refine gM rfl rfl (by conv => (lhs; whnf)) ?_; refine gO ?_; refine gc_block ?_)
  refine gc_loopK (σ := Nat) [20, 21, 22, 23, 5, 4, 24, 25, 26, 27, 28, 29, 6, 30, 31, 32, 2, 33, 19] (fun k => [(19, .int .i64 k)]) (fun k => k ≤ s.pieces.length ∧ firstE (pieceAt s plE) k = 0) (fun k => s.pieces.length - k) 0 ⟨Nat.zero_le _, rfl⟩ ⟨rfl, trivial⟩ ?_
  rintro k base ⟨hk, hI⟩
  focus (refine gc_seq ?_; refine gc_region ?_; refine gC rfl rfl rfl rfl rfl ?_; refine gO ?_; refine gc_seq ?_)
  refine gc_if_dec rfl (fun h9 => ?_) (fun h9 => ?_)
  · have hlt : k < s.pieces.length := by omega
    obtain ⟨ad, _, hv, _, _, hb, hcell⟩ := h3.at' 7 rfl (by omega)
    injection hv with e1 e2 e3
    subst e1 e3
    obtain ⟨cs', hce, Ae', ce', An', cn', Ac', cc', Aw', cw', rfl, ⟨q1, _⟩, q2, q3, q4, q5⟩ := hcell k hlt
    unfold maxLen at q1
    have q2' : Sl rEdge w w.heap.size (.slice Ae' s.pieces[k].edges.length ce') s.pieces[k].edges := q2
    have q3' : Sl rSpot w w.heap.size (.slice An' s.pieces[k].notches.length cn') s.pieces[k].notches := q3
    have q4' : Sl rSpot w w.heap.size (.slice Ac' s.pieces[k].corners.length cc') s.pieces[k].corners := q4
    have q5' : Sl rInt w w.heap.size (.slice Aw' s.pieces[k].widths.length cw') s.pieces[k].widths := q5
    have q6' := h3.take (m := k) (by omega)
    focus (refine gc_skip ?_; refine gx_next ?_; refine gc_seq ?_; refine gc_block ?_; refine gc_seq ?_; refine gc_region ?_; refine gM rfl rfl (by conv => (lhs; whnf)) ?_; apply gw_d; exact w_index rfl rfl rfl rfl (by with_reducible exact rfl) (by omega); apply gw_d; exact w_load_elem rfl rfl rfl (by assumption) (by assumption) (by rfl); refine w_alloc rfl (fun _ => ?_); refine gM rfl rfl (by conv => (lhs; whnf)) ?_; refine w_store_all rfl rfl rfl rfl rfl .here rfl ?_; refine gO ?_; refine gc_seq ?_)
    refine gc_draw 6 (by kernel_rfl) (by kernel_rfl) ?_
    have hC : ∀ (L : List Res) (w' : World), St w L w' → Ok Tryz.prog 54 [.slice (some ad) k cp, .agg #[.string s.pieces[k].name, .slice Ae' s.pieces[k].edges.length ce', .int .i64 s.pieces[k].grain, .slice An' s.pieces[k].notches.length cn', .slice Ac' s.pieces[k].corners.length cc', .slice Aw' s.pieces[k].widths.length cw', .bool s.pieces[k].mt]].toArray w' fun r _ => r = .int .i64 (pieceE (s.pieces.take k) s.pieces[k] (plE s.pieces[k])) := fun L w s' => checkPiece_ok w (.slice (some ad) k cp) (s.pieces.take k) s.pieces[k] Ae' An' Ac' Aw' ce' cn' cc' cw' (q6'.later s') (q2'.later s') (q4'.later s') (q3'.later s') (q5'.later s') (by omega)
    focus (apply gd_d; exact w_field rfl rfl rfl; apply gd_d; exact w_load_box rfl rfl rfl (.there .here) rfl; apply gd_d; exact det_m rfl rfl (by conv => (lhs; whnf)); apply gd_d; exact w_cut_hi rfl rfl rfl rfl (by with_reducible exact rfl) (by omega); apply gd_d; exact w_load_boxN rfl rfl rfl .here rfl; apply gd_d; exact w_call rfl rfl (hC _) rfl; refine gd_nil ?_; refine gM rfl rfl (by conv => (lhs; whnf)) ?_; refine gN ?_; refine gM rfl rfl (by conv => (lhs; whnf)) ?_; refine gC rfl rfl rfl rfl rfl ?_; refine gO ?_)
    have hat : pieceAt s plE k = pieceE (s.pieces.take k) s.pieces[k] (plE s.pieces[k]) := by unfold pieceAt; rw [List.getElem?_eq_getElem hlt]
    refine gc_if_dec rfl (fun h => ?_) (fun h => ?_)
    · focus (refine gc_seq ?_; refine gc_region ?_; refine gM rfl rfl (by conv => (lhs; whnf)) ?_; refine gM rfl rfl (by conv => (lhs; whnf)) ?_; refine gO ?_; refine gc_ret ?_; refine gx_block_ret ?_; refine gx_then_ret ?_; refine gx_then_ret ?_; refine gx_block_ret ?_; refine gx_then_ret ?_)
      refine gx_ret1 (v := .int _ _) rfl rfl (fun _ _ => ?_)
      rw [← hat] at h ⊢
      unfold styleE
      rw [if_neg ‹_›, firstE_stop hI h hlt, if_pos h]
    · focus (refine gc_skip ?_; refine gx_block ?_; refine gx_next ?_; refine gc_region ?_; apply gw_d; exact det_ar rfl rfl rfl rfl rfl (by omega); refine gM rfl rfl (by conv => (lhs; whnf)) ?_; refine gw_nil ?_)
      exact gx_round (k + 1) ⟨by omega, firstE_snoc hI (by rw [hat]; simpa using h)⟩ (by omega) (by repeat (first | exact Keeps.refl | refine Keeps.upd rfl ?_ | refine Keeps.sets rfl ?_ | refine Keeps.havoc rfl ?_)) ⟨rfl, trivial⟩ Sub.tail
  obtain rfl : k = s.pieces.length := by omega
  focus (refine gc_exit ?_; refine gx_then_exit ?_; refine gx_then_exit ?_; refine gx_block_exit ?_; refine gx_next ?_; refine gc_seq ?_; refine gc_seq ?_; refine gc_region ?_; refine gF rfl rfl rfl ?_; apply gw_d; exact w_load_box rfl rfl rfl .here rfl; refine gL rfl rfl rfl ?_; refine gM rfl rfl (by conv => (lhs; whnf)) ?_; refine gO ?_; refine gc_block ?_)
  refine gc_loopK (σ := Nat) [38, 39, 40, 8, 41, 42, 43, 44, 45, 46, 47, 48, 49, 50, 51, 52, 53, 54, 55, 56, 57, 58, 59, 60, 61, 2, 62, 37] (fun k => [(37, .int .i64 k)]) (fun k => k ≤ s.uses.length ∧ firstE (useE s) k = 0) (fun k => s.uses.length - k) 0 ⟨Nat.zero_le _, rfl⟩ ⟨rfl, trivial⟩ ?_
  rintro k base2 ⟨hk2, hJ⟩
  focus (refine gc_seq ?_; refine gc_region ?_; refine gC rfl rfl rfl rfl rfl ?_; refine gO ?_; refine gc_seq ?_)
  refine gc_if_dec rfl (fun h8 => ?_) (fun h8 => ?_)
  · have hlt : k < s.uses.length := by omega
    obtain ⟨ad, _, hv, _, _, hb, hcell⟩ := h4.at' 3 rfl (by omega)
    injection hv with e1 e2 e3
    subst e1 e3
    obtain ⟨cs', hce, rfl, _⟩ := hcell k hlt
    have hat : useE s k = if s.uses[k].1 < 0 ∨ s.uses[k].1 ≥ s.pieces.length ∨ s.uses[k].2.1 < 1 ∨ s.uses[k].2.1 > 4 then 3 else 0 := by unfold useE; rw [List.getElem?_eq_getElem hlt]
    have hbad : (s.uses[k].1 < 0 ∨ s.uses[k].1 ≥ s.pieces.length ∨ s.uses[k].2.1 < 1 ∨ s.uses[k].2.1 > 4) → styleE s plE = 3 := fun h => by
      rw [if_pos h] at hat
      unfold styleE
      rw [if_neg ‹_›, if_neg (by rw [hI]; decide), firstE_stop hJ (by rw [hat]; decide) hlt, hat]
      exact if_pos (by decide)
    focus (refine gc_skip ?_; refine gx_next ?_; refine gc_seq ?_; refine gc_block ?_; refine gc_seq ?_; refine gc_region ?_; apply gw_d; exact w_index rfl rfl rfl rfl (by with_reducible exact rfl) (by omega); apply gw_d; exact w_load_elem rfl rfl rfl (by assumption) (by assumption) (by rfl); refine w_alloc rfl (fun _ => ?_); refine w_store_all rfl rfl rfl rfl rfl .here rfl ?_; refine gN ?_; refine gF rfl rfl rfl ?_; apply gw_d; exact w_load_box rfl rfl rfl .here rfl; refine gC rfl rfl rfl rfl rfl ?_; refine gM rfl rfl (by conv => (lhs; whnf)) ?_; refine gw_guard_dec rfl rfl (fun _ => ?_) (fun _ => ?_); refine gU rfl ?_; refine gU rfl ?_; refine gU rfl ?_; refine gU rfl ?_; refine gU rfl ?_; refine gU rfl ?_; apply gw_d; exact det_pick_t (v := .bool _) rfl rfl rfl rfl; refine gM rfl rfl (by conv => (lhs; whnf)) ?_; refine gU rfl ?_; refine gU rfl ?_; refine gU rfl ?_; apply gw_d; exact det_pick_t (v := .bool _) rfl rfl rfl rfl; refine gM rfl rfl (by conv => (lhs; whnf)) ?_; refine gU rfl ?_; refine gU rfl ?_; refine gU rfl ?_; apply gw_d; exact det_pick_t (v := .bool _) rfl rfl rfl rfl; refine gO ?_; refine gc_if_true rfl ?_; refine gc_seq ?_; refine gc_region ?_; refine gM rfl rfl (by conv => (lhs; whnf)) ?_; refine gO ?_; refine gc_ret ?_; refine gx_block_ret ?_; refine gx_then_ret ?_; refine gx_then_ret ?_; refine gx_block_ret ?_; refine gx_then_ret ?_; rotate_left; refine gF rfl rfl rfl ?_; apply gw_d; exact w_load_box rfl rfl rfl .here rfl; refine gF rfl rfl rfl ?_; apply gw_d; exact w_load_box rfl rfl rfl (.there .here) rfl; refine gL rfl rfl rfl ?_; refine gC rfl rfl rfl rfl rfl ?_; apply gw_d; exact det_pick_f (v := .bool _) rfl rfl rfl rfl; refine gM rfl rfl (by conv => (lhs; whnf)) ?_; refine gw_guard_dec rfl rfl (fun _ => ?_) (fun _ => ?_); refine gU rfl ?_; refine gU rfl ?_; refine gU rfl ?_; apply gw_d; exact det_pick_t (v := .bool _) rfl rfl rfl rfl; refine gM rfl rfl (by conv => (lhs; whnf)) ?_; refine gU rfl ?_; refine gU rfl ?_; refine gU rfl ?_; apply gw_d; exact det_pick_t (v := .bool _) rfl rfl rfl rfl; refine gO ?_; refine gc_if_true rfl ?_; refine gc_seq ?_; refine gc_region ?_; refine gM rfl rfl (by conv => (lhs; whnf)) ?_; refine gO ?_; refine gc_ret ?_; refine gx_block_ret ?_; refine gx_then_ret ?_; refine gx_then_ret ?_; refine gx_block_ret ?_; refine gx_then_ret ?_; rotate_left; refine gF rfl rfl rfl ?_; apply gw_d; exact w_load_box rfl rfl rfl .here rfl; refine gC rfl rfl rfl rfl rfl ?_; apply gw_d; exact det_pick_f (v := .bool _) rfl rfl rfl rfl; refine gM rfl rfl (by conv => (lhs; whnf)) ?_; refine gw_guard_dec rfl rfl (fun _ => ?_) (fun _ => ?_); refine gU rfl ?_; refine gU rfl ?_; refine gU rfl ?_; apply gw_d; exact det_pick_t (v := .bool _) rfl rfl rfl rfl; refine gO ?_; refine gc_if_true rfl ?_; refine gc_seq ?_; refine gc_region ?_; refine gM rfl rfl (by conv => (lhs; whnf)) ?_; refine gO ?_; refine gc_ret ?_; refine gx_block_ret ?_; refine gx_then_ret ?_; refine gx_then_ret ?_; refine gx_block_ret ?_; refine gx_then_ret ?_; rotate_left; refine gF rfl rfl rfl ?_; apply gw_d; exact w_load_box rfl rfl rfl .here rfl; refine gC rfl rfl rfl rfl rfl ?_; apply gw_d; exact det_pick_f (v := .bool _) rfl rfl rfl rfl; refine gO ?_; refine gc_if_dec rfl (fun _ => ?_) (fun _ => ?_); refine gc_seq ?_; refine gc_region ?_; refine gM rfl rfl (by conv => (lhs; whnf)) ?_; refine gO ?_; refine gc_ret ?_; refine gx_block_ret ?_; refine gx_then_ret ?_; refine gx_then_ret ?_; refine gx_block_ret ?_; refine gx_then_ret ?_; rotate_left; refine gc_skip ?_; refine gx_block ?_; refine gx_next ?_; refine gc_region ?_; apply gw_d; exact det_ar rfl rfl rfl rfl rfl (by omega); refine gM rfl rfl (by conv => (lhs; whnf)) ?_; refine gw_nil ?_; rotate_left)
    · refine gx_ret1 (v := .int _ _) rfl rfl (fun _ _ => ?_)
      rw [hbad (by omega)]
    · refine gx_ret1 (v := .int _ _) rfl rfl (fun _ _ => ?_)
      rw [hbad (by omega)]
    · refine gx_ret1 (v := .int _ _) rfl rfl (fun _ _ => ?_)
      rw [hbad (by omega)]
    · refine gx_ret1 (v := .int _ _) rfl rfl (fun _ _ => ?_)
      rw [hbad (by omega)]
    · exact gx_round (k + 1) ⟨by omega, firstE_snoc hJ (by rw [hat, if_neg (by omega)])⟩ (by omega) (by repeat (first | exact Keeps.refl | refine Keeps.upd rfl ?_ | refine Keeps.sets rfl ?_ | refine Keeps.havoc rfl ?_)) ⟨rfl, trivial⟩ Sub.tail
  obtain rfl : k = s.uses.length := by omega
  focus (refine gc_exit ?_; refine gx_then_exit ?_; refine gx_then_exit ?_; refine gx_block_exit ?_; refine gx_next ?_; refine gc_seq ?_; refine gc_seq ?_; refine gc_region ?_; refine gF rfl rfl rfl ?_; apply gw_d; exact w_load_box rfl rfl rfl .here rfl; refine gL rfl rfl rfl ?_; refine gM rfl rfl (by conv => (lhs; whnf)) ?_; refine gO ?_; refine gc_block ?_)
  refine gc_loopK (σ := Nat) [67, 68, 69, 10, 70, 71, 72, 73, 74, 75, 76, 77, 78, 79, 80, 81, 82, 83, 84, 85, 2, 86, 87, 88, 89, 66] (fun k => [(66, .int .i64 k)]) (fun k => k ≤ s.seams.length ∧ firstE (seamE s) k = 0) (fun k => s.seams.length - k) 0 ⟨Nat.zero_le _, rfl⟩ ⟨rfl, trivial⟩ ?_
  rintro k base3 ⟨hk3, hK⟩
  focus (refine gc_seq ?_; refine gc_region ?_; refine gC rfl rfl rfl rfl rfl ?_; refine gO ?_; refine gc_seq ?_)
  refine gc_if_dec rfl (fun h7 => ?_) (fun h7 => ?_)
  · have hlt : k < s.seams.length := by omega
    obtain ⟨ad, _, hv, _, _, hb, hcell⟩ := h5.at' 6 rfl (by omega)
    injection hv with e1 e2 e3
    subst e1 e3
    obtain ⟨cs', hce, rfl⟩ := hcell k hlt
    have hat : seamE s k = if isEdgeB s s.seams[k].1 s.seams[k].2.1 = true ∧ isEdgeB s s.seams[k].2.2.1 s.seams[k].2.2.2.1 = true then if s.seams[k].2.2.2.2.2 < 0 then 1 else 0 else 3 := by unfold seamE; rw [List.getElem?_eq_getElem hlt]
    have hstop : ∀ x : Int, seamE s k = x → ¬ x = 0 → styleE s plE = x := fun x hx h => by
      unfold styleE
      rw [if_neg ‹_›, if_neg (by rw [hI]; decide), if_neg (by rw [hJ]; decide), firstE_stop hK (by rw [hx]; exact h) hlt, hx]
    focus (refine gc_skip ?_; refine gx_next ?_; refine gc_seq ?_; refine gc_block ?_; refine gc_seq ?_; refine gc_region ?_; apply gw_d; exact w_index rfl rfl rfl rfl (by with_reducible exact rfl) (by omega); apply gw_d; exact w_load_elem rfl rfl rfl (by assumption) (by assumption) (by rfl); refine w_alloc rfl (fun _ => ?_); refine w_store_all rfl rfl rfl rfl rfl .here rfl ?_; refine gO ?_; refine gc_seq ?_; refine gc_seq ?_; refine gc_region ?_; apply gw_d; exact w_load_boxN rfl rfl rfl (.there .here) rfl; refine gF rfl rfl rfl ?_; apply gw_d; exact w_load_box rfl rfl rfl .here rfl; refine gF rfl rfl rfl ?_; apply gw_d; exact w_load_box rfl rfl rfl .here rfl; apply gw_d; exact w_call rfl rfl (fun w s => isEdge_ok w _ _ _ _ (hs'.later s)) rfl; apply gw_d; exact det_not_ rfl rfl rfl; refine gM rfl rfl (by conv => (lhs; whnf)) ?_; refine gw_guard rfl rfl (fun _ => ?_) (fun _ => ?_); refine gU rfl ?_; refine gU rfl ?_; refine gU rfl ?_; refine gU rfl ?_; refine gU rfl ?_; refine gU rfl ?_; refine gU rfl ?_; apply gw_d; exact det_pick_t (v := .bool _) rfl rfl rfl rfl; refine gO ?_; refine gc_if_true rfl ?_; refine gc_seq ?_; refine gc_region ?_; refine gM rfl rfl (by conv => (lhs; whnf)) ?_; refine gO ?_; refine gc_ret ?_; refine gx_then_ret ?_; refine gx_block_ret ?_; refine gx_then_ret ?_; refine gx_then_ret ?_; refine gx_block_ret ?_; refine gx_then_ret ?_; rotate_left; apply gw_d; exact w_load_boxN rfl rfl rfl (.there .here) rfl; refine gF rfl rfl rfl ?_; apply gw_d; exact w_load_box rfl rfl rfl .here rfl; refine gF rfl rfl rfl ?_; apply gw_d; exact w_load_box rfl rfl rfl .here rfl; apply gw_d; exact w_call rfl rfl (fun w s => isEdge_ok w _ _ _ _ (hs'.later s)) rfl; apply gw_d; exact det_not_ rfl rfl rfl; apply gw_d; exact det_pick_f (v := .bool _) rfl rfl rfl rfl; refine gO ?_; refine gc_if rfl (fun _ => ?_) (fun _ => ?_); refine gc_seq ?_; refine gc_region ?_; refine gM rfl rfl (by conv => (lhs; whnf)) ?_; refine gO ?_; refine gc_ret ?_; refine gx_then_ret ?_; refine gx_block_ret ?_; refine gx_then_ret ?_; refine gx_then_ret ?_; refine gx_block_ret ?_; refine gx_then_ret ?_; rotate_left; refine gc_skip ?_; refine gx_next ?_; refine gc_seq ?_; refine gc_region ?_; refine gF rfl rfl rfl ?_; apply gw_d; exact w_load_box rfl rfl rfl .here rfl; refine gC rfl rfl rfl rfl rfl ?_; refine gO ?_; refine gc_if_dec rfl (fun _ => ?_) (fun _ => ?_); refine gc_seq ?_; refine gc_region ?_; refine gM rfl rfl (by conv => (lhs; whnf)) ?_; refine gO ?_; refine gc_ret ?_; refine gx_block_ret ?_; refine gx_then_ret ?_; refine gx_then_ret ?_; refine gx_block_ret ?_; refine gx_then_ret ?_; rotate_left; refine gc_skip ?_; refine gx_block ?_; refine gx_next ?_; refine gc_region ?_; apply gw_d; exact det_ar rfl rfl rfl rfl rfl (by omega); refine gM rfl rfl (by conv => (lhs; whnf)) ?_; refine gw_nil ?_; rotate_left)
    · refine gx_ret1 (v := .int _ _) rfl rfl (fun _ _ => ?_)
      rename_i h _ _
      rw [hstop 3 (by rw [hat, if_neg (by simp at h; simp [h])]) (by decide)]
    · refine gx_ret1 (v := .int _ _) rfl rfl (fun _ _ => ?_)
      rename_i h _ _
      rw [hstop 3 (by rw [hat, if_neg (by simp at h; simp [h])]) (by decide)]
    · refine gx_ret1 (v := .int _ _) rfl rfl (fun _ _ => ?_)
      rw [hstop 1 (by rw [hat, if_pos (by simp_all), if_pos (by assumption)]) (by decide)]
    · exact gx_round (k + 1) ⟨by omega, firstE_snoc hK (by rw [hat, if_pos (by simp_all), if_neg (by assumption)])⟩ (by omega) (by repeat (first | exact Keeps.refl | refine Keeps.upd rfl ?_ | refine Keeps.sets rfl ?_ | refine Keeps.havoc rfl ?_)) ⟨rfl, trivial⟩ Sub.tail
  obtain rfl : k = s.seams.length := by omega
  focus (refine gc_exit ?_; refine gx_then_exit ?_; refine gx_then_exit ?_; refine gx_block_exit ?_; refine gx_next ?_; refine gc_seq ?_; refine gc_region ?_; refine gM rfl rfl (by conv => (lhs; whnf)) ?_; refine gO ?_; refine gc_ret ?_)
  refine gx_ret1 (v := .int _ _) rfl rfl (fun _ _ => ?_)
  unfold styleE
  rw [if_neg ‹_›, if_neg (by rw [hI]; decide), if_neg (by rw [hJ]; decide), hK]
end Go.Proofs.YtckhibfbdnoigaaGreat

/- Contracts: the parts of styles by the chapter's own rule (references 18 and 25). -/
namespace Go.Proofs.YtckhibfbdnoigaaGreat
open Go.RowKit
set_option maxRecDepth 100000
set_option maxHeartbeats 4000000

theorem r_size_ok (w : World) (s : ByteArray) (hs : s.size ≤ 9223372036854775807) : Ok Tryz.prog 82 [.string s].toArray w fun r _ => r = .bool (sizeB' s) := by
  by_cases h0 : s.size = 0
  · have hE : (s.toList == (ByteArray.mk #[]).toList) = true := by rw [ba_empty]; exact decide_eq_true h0
    have hN : sizeB' s = false := by unfold sizeB'; simp [h0]
    rw [hN]
    refine ok_enter Tryz.func82 rfl Tryz.ntmps82 rfl ?_
    focus (refine gc_seq ?_; refine gc_region ?_; refine gM rfl rfl (by conv => (lhs; whnf)) ?_; refine gO ?_; refine gc_seq ?_; refine gc_seq ?_; refine gc_region ?_; refine gM rfl rfl (by conv => (lhs; whnf)) ?_; apply gw_d; exact det_seq rfl rfl rfl rfl; refine gM rfl rfl (by conv => (lhs; whnf)) ?_)
    refine gw_guard rfl rfl (fun _ => ?_) (fun h => by rw [hE] at h; cases h)
    focus (refine gU rfl ?_; refine gU rfl ?_; refine gU rfl ?_; apply gw_d; exact det_pick_t (v := .bool _) rfl rfl rfl rfl; refine gO ?_; refine gc_if_true rfl ?_; refine gc_seq ?_; refine gc_region ?_; refine gM rfl rfl (by conv => (lhs; whnf)) ?_; refine gO ?_; refine gc_ret ?_; refine gx_then_ret ?_)
    all_goals (refine gx_ret1 (v := .bool _) rfl rfl (fun _ _ => ?_); rfl)
  · have hE : (s.toList == (ByteArray.mk #[]).toList) = false := by rw [ba_empty]; exact decide_eq_false h0
    refine ok_enter Tryz.func82 rfl Tryz.ntmps82 rfl ?_
    focus (refine gc_seq ?_; refine gc_region ?_; refine gM rfl rfl (by conv => (lhs; whnf)) ?_; refine gO ?_; refine gc_seq ?_; refine gc_seq ?_; refine gc_region ?_; refine gM rfl rfl (by conv => (lhs; whnf)) ?_; apply gw_d; exact det_seq rfl rfl rfl rfl; refine gM rfl rfl (by conv => (lhs; whnf)) ?_)
    refine gw_guard rfl rfl (fun h => by rw [hE] at h; cases h) (fun _ => ?_)
    focus (refine gM rfl rfl (by conv => (lhs; whnf)) ?_; apply gw_d; exact w_len_str rfl rfl rfl; refine gC rfl rfl rfl rfl rfl ?_; apply gw_d; exact det_pick_f (v := .bool _) rfl rfl rfl rfl; refine gO ?_; refine gc_if_dec rfl (fun _ => ?_) (fun _ => ?_); refine gc_seq ?_; refine gc_region ?_; refine gM rfl rfl (by conv => (lhs; whnf)) ?_; refine gO ?_; refine gc_ret ?_; refine gx_then_ret ?_; rotate_left; refine gc_skip ?_; refine gx_next ?_; refine gc_seq ?_; refine gc_seq ?_; refine gc_region ?_; refine gM rfl rfl (by conv => (lhs; whnf)) ?_; refine gO ?_; refine gc_block ?_; rotate_left)
    · refine gx_ret1 (v := .bool _) rfl rfl (fun _ _ => ?_)
      rename_i h
      have h' : ¬ s.size ≤ 8 := by omega
      unfold sizeB'
      simp [h']
    rename_i h8
    refine gc_loop (σ := Nat) [11, 12, 13, 14, 17, 18, 19, 20, 21, 22, 23, 24, 25, 26, 27, 28, 29, 30, 31, 32, 33, 34, 35, 36, 37, 38, 39, 2, 15, 16, 3] (fun k => [(3, .int .i64 k)]) (fun _ => []) (fun k => k ≤ s.size ∧ (List.range k).all (fun i => sizeC (bAt s i)) = true) (fun k => s.size - k) 0 ⟨Nat.zero_le _, rfl⟩ ⟨rfl, trivial⟩ .nil ?_
    rintro k base ⟨hk, hI⟩
    focus (refine gc_seq ?_; refine gc_seq ?_; refine gc_region ?_; refine gM rfl rfl (by conv => (lhs; whnf)) ?_; refine gM rfl rfl (by conv => (lhs; whnf)) ?_; apply gw_d; exact w_len_str rfl rfl rfl; refine gC rfl rfl rfl rfl rfl ?_; refine gO ?_; refine gc_if_dec rfl (fun _ => ?_) (fun _ => ?_); refine gc_skip ?_; refine gx_next ?_; refine gc_seq ?_; refine gc_block ?_; refine gc_seq ?_; refine gc_region ?_; refine gM rfl rfl (by conv => (lhs; whnf)) ?_; refine gM rfl rfl (by conv => (lhs; whnf)) ?_; apply gw_d; exact w_sidx rfl rfl rfl rfl (by with_reducible exact rfl) (by omega); refine gC rfl rfl rfl rfl rfl ?_; refine gM rfl rfl (by conv => (lhs; whnf)) ?_; refine gw_guard_dec rfl rfl (fun _ => ?_) (fun _ => ?_); refine gM rfl rfl (by conv => (lhs; whnf)) ?_; refine gM rfl rfl (by conv => (lhs; whnf)) ?_; apply gw_d; exact w_sidx rfl rfl rfl rfl (by with_reducible exact rfl) (by omega); refine gC rfl rfl rfl rfl rfl ?_; apply gw_d; exact det_pick_t (v := .bool _) rfl rfl rfl rfl; refine gM rfl rfl (by conv => (lhs; whnf)) ?_; refine gw_guard_dec rfl rfl (fun _ => ?_) (fun _ => ?_); refine gU rfl ?_; refine gU rfl ?_; refine gU rfl ?_; refine gU rfl ?_; refine gU rfl ?_; refine gU rfl ?_; refine gU rfl ?_; refine gU rfl ?_; refine gU rfl ?_; refine gU rfl ?_; apply gw_d; exact det_pick_t (v := .bool _) rfl rfl rfl rfl; apply gw_d; exact det_not_ rfl rfl rfl; refine gO ?_; refine gc_if_false rfl ?_; refine gc_skip ?_; refine gx_block ?_; refine gx_next ?_; refine gc_region ?_; refine gM rfl rfl (by conv => (lhs; whnf)) ?_; apply gw_d; exact det_ar rfl rfl rfl rfl rfl (by omega); refine gM rfl rfl (by conv => (lhs; whnf)) ?_; refine gw_nil ?_; rotate_left; refine gM rfl rfl (by conv => (lhs; whnf)) ?_; refine gM rfl rfl (by conv => (lhs; whnf)) ?_; apply gw_d; exact w_sidx rfl rfl rfl rfl (by with_reducible exact rfl) (by omega); refine gC rfl rfl rfl rfl rfl ?_; refine gM rfl rfl (by conv => (lhs; whnf)) ?_; refine gw_guard_dec rfl rfl (fun _ => ?_) (fun _ => ?_); refine gM rfl rfl (by conv => (lhs; whnf)) ?_; refine gM rfl rfl (by conv => (lhs; whnf)) ?_; apply gw_d; exact w_sidx rfl rfl rfl rfl (by with_reducible exact rfl) (by omega); refine gC rfl rfl rfl rfl rfl ?_; apply gw_d; exact det_pick_t (v := .bool _) rfl rfl rfl rfl; apply gw_d; exact det_pick_f (v := .bool _) rfl rfl rfl rfl; apply gw_d; exact det_not_dec rfl rfl rfl; refine gO ?_; refine gc_if_dec rfl (fun _ => ?_) (fun _ => ?_); refine gc_seq ?_; refine gc_region ?_; refine gM rfl rfl (by conv => (lhs; whnf)) ?_; refine gO ?_; refine gc_ret ?_; refine gx_block_ret ?_; refine gx_then_ret ?_; refine gx_then_ret ?_; refine gx_block_ret ?_; refine gx_then_ret ?_; rotate_left; refine gc_skip ?_; refine gx_block ?_; refine gx_next ?_; refine gc_region ?_; refine gM rfl rfl (by conv => (lhs; whnf)) ?_; apply gw_d; exact det_ar rfl rfl rfl rfl rfl (by omega); refine gM rfl rfl (by conv => (lhs; whnf)) ?_; refine gw_nil ?_; rotate_left; refine gU rfl ?_; refine gU rfl ?_; refine gU rfl ?_; refine gU rfl ?_; apply gw_d; exact det_pick_f (v := .bool _) rfl rfl rfl rfl; apply gw_d; exact det_pick_f (v := .bool _) rfl rfl rfl rfl; apply gw_d; exact det_not_ rfl rfl rfl; refine gO ?_; refine gc_if_true rfl ?_; refine gc_seq ?_; refine gc_region ?_; refine gM rfl rfl (by conv => (lhs; whnf)) ?_; refine gO ?_; refine gc_ret ?_; refine gx_block_ret ?_; refine gx_then_ret ?_; refine gx_then_ret ?_; refine gx_block_ret ?_; refine gx_then_ret ?_; rotate_left; refine gU rfl ?_; refine gU rfl ?_; refine gU rfl ?_; refine gU rfl ?_; apply gw_d; exact det_pick_f (v := .bool _) rfl rfl rfl rfl; refine gM rfl rfl (by conv => (lhs; whnf)) ?_; refine gM rfl rfl (by conv => (lhs; whnf)) ?_; refine gM rfl rfl (by conv => (lhs; whnf)) ?_; apply gw_d; exact w_sidx rfl rfl rfl rfl (by with_reducible exact rfl) (by omega); refine gC rfl rfl rfl rfl rfl ?_; refine gM rfl rfl (by conv => (lhs; whnf)) ?_; refine gw_guard_dec rfl rfl (fun _ => ?_) (fun _ => ?_); refine gM rfl rfl (by conv => (lhs; whnf)) ?_; refine gM rfl rfl (by conv => (lhs; whnf)) ?_; apply gw_d; exact w_sidx rfl rfl rfl rfl (by with_reducible exact rfl) (by omega); refine gC rfl rfl rfl rfl rfl ?_; apply gw_d; exact det_pick_t (v := .bool _) rfl rfl rfl rfl; apply gw_d; exact det_pick_f (v := .bool _) rfl rfl rfl rfl; apply gw_d; exact det_not_dec rfl rfl rfl; refine gO ?_; refine gc_if_dec rfl (fun _ => ?_) (fun _ => ?_); refine gc_seq ?_; refine gc_region ?_; refine gM rfl rfl (by conv => (lhs; whnf)) ?_; refine gO ?_; refine gc_ret ?_; refine gx_block_ret ?_; refine gx_then_ret ?_; refine gx_then_ret ?_; refine gx_block_ret ?_; refine gx_then_ret ?_; rotate_left; refine gc_skip ?_; refine gx_block ?_; refine gx_next ?_; refine gc_region ?_; refine gM rfl rfl (by conv => (lhs; whnf)) ?_; apply gw_d; exact det_ar rfl rfl rfl rfl rfl (by omega); refine gM rfl rfl (by conv => (lhs; whnf)) ?_; refine gw_nil ?_; rotate_left; refine gU rfl ?_; refine gU rfl ?_; refine gU rfl ?_; refine gU rfl ?_; apply gw_d; exact det_pick_f (v := .bool _) rfl rfl rfl rfl; apply gw_d; exact det_pick_f (v := .bool _) rfl rfl rfl rfl; apply gw_d; exact det_not_ rfl rfl rfl; refine gO ?_; refine gc_if_true rfl ?_; refine gc_seq ?_; refine gc_region ?_; refine gM rfl rfl (by conv => (lhs; whnf)) ?_; refine gO ?_; refine gc_ret ?_; refine gx_block_ret ?_; refine gx_then_ret ?_; refine gx_then_ret ?_; refine gx_block_ret ?_; refine gx_then_ret ?_; rotate_left; refine gc_exit ?_; refine gx_then_exit ?_; refine gx_then_exit ?_; refine gx_block_exit ?_; refine gx_next ?_; refine gc_seq ?_; refine gc_region ?_; refine gM rfl rfl (by conv => (lhs; whnf)) ?_; refine gO ?_; refine gc_ret ?_; rotate_left)
    all_goals first
      | exact gx_round (k + 1) ⟨by omega, sizes_snoc hI (sizeC_yes (by omega))⟩ (by omega) (by repeat (first | exact Keeps.refl | refine Keeps.upd rfl ?_ | refine Keeps.sets rfl ?_ | refine Keeps.havoc rfl ?_)) ⟨rfl, trivial⟩ .nil
      | (refine gx_ret1 (v := .bool _) rfl rfl (fun _ _ => ?_); rw [sizeB_no (k := k) (by omega) (sizeC_no (by omega))])
      | skip
    refine gx_ret1 (v := .bool _) rfl rfl (fun _ _ => ?_)
    obtain rfl : k = s.size := by omega
    have h1 : 1 ≤ s.size := by omega
    have h2 : s.size ≤ 8 := by omega
    unfold sizeB'
    rw [hI]
    simp [h1, h2]

/-! ### Sizes and multiples -/
def sizedB (s : Sty) : Bool := nameB s.name && !decide (s.sizes.length = 0) && !(s.sizes.any fun x => !sizeB' x) && s.multiples.any (isI 0) && decide (s.multiples.length = s.sizes.length)
def longB (s : Sty) : Bool := decide (s.sizes.length > 12) || decide (s.pieces.length > 12) || decide (s.seams.length > 24) || decide (s.ops.length > 16) || decide (s.uses.length > 12)
theorem whole_eq (s : Sty) : wholeE s = if sizedB s = false then 1 else if dupL s.sizes s.sizes.length = true then 7 else if longB s = true then 5 else if s.multiples.any farM = true then 3 else 0 := by
  unfold wholeE
  cases hn : nameB s.name with
  | false => rw [if_pos (.inl (by simp)), if_pos (by unfold sizedB; rw [hn]; rfl)]
  | true =>
    by_cases h0 : s.sizes.length = 0
    · rw [if_pos (.inr h0), if_pos (by unfold sizedB; simp [h0])]
    · rw [if_neg (by simp [h0])]
      cases h1 : s.sizes.any fun x => !sizeB' x with
      | true => rw [if_pos rfl, if_pos (by unfold sizedB; simp [h1])]
      | false =>
        rw [if_neg (by decide)]
        cases h2 : s.multiples.any (isI 0) with
        | false => rw [if_pos (.inr rfl), if_pos (by unfold sizedB; simp [h2])]
        | true =>
          by_cases h3 : s.multiples.length = s.sizes.length
          · have hsz : sizedB s = true := by unfold sizedB; rw [hn, h1, h2, decide_eq_true h3, decide_eq_false h0]; rfl
            rw [if_neg (show ¬ (¬ s.multiples.length = s.sizes.length ∨ true = false) by simp [h3]), hsz, if_neg (show ¬ true = false by decide)]
            cases h4 : dupL s.sizes s.sizes.length with
            | true => rw [if_pos rfl, if_pos rfl]
            | false =>
              rw [if_neg (show ¬ false = true by decide), if_neg (show ¬ false = true by decide)]
              have hl : longB s = true ↔ (s.sizes.length > 12 ∨ s.pieces.length > 12 ∨ s.uses.length > 12) ∨ (s.seams.length > 24 ∨ s.ops.length > 16) := by
                unfold longB
                simp only [Bool.or_eq_true, decide_eq_true_eq]
                constructor
                · rintro ((((h | h) | h) | h) | h) <;> simp [h]
                · rintro ((h | h | h) | (h | h)) <;> simp [h]
              by_cases h5 : s.sizes.length > 12 ∨ s.pieces.length > 12 ∨ s.uses.length > 12
              · rw [if_pos h5, if_pos (hl.2 (.inl h5))]
              · rw [if_neg h5]
                by_cases h6 : s.seams.length > 24 ∨ s.ops.length > 16
                · rw [if_pos h6, if_pos (hl.2 (.inr h6))]
                · rw [if_neg h6, if_neg (fun h => (hl.1 h).elim h5 h6)]
          · rw [if_pos (.inl h3), if_pos (by unfold sizedB; simp [h3])]
theorem ba_eq_list (p q : ByteArray) : (p.toList == q.toList) = decide (p = q) := by
  rw [ba_toList, ba_toList]
  by_cases h : p = q
  · subst h; simp
  · have h2 : ¬ p.data = q.data := fun hc => h (by
      cases p; cases q
      simp only at hc
      rw [hc])
    simp [h, h2]
theorem any_take_snoc {α : Type} (f : α → Bool) {l : List α} {k : Nat} (hk : k < l.length) : (l.take (k + 1)).any f = ((l.take k).any f || f l[k]) := by
  rw [List.take_succ_eq_append_getElem hk, List.any_append]
  simp
theorem r_sized_ok (w : World) (v : Value) (s : Sty) (hs : StyV w w.heap.size v s) : Ok Tryz.prog 58 [v].toArray w fun r _ => r = .bool (sizedB s) := by
  obtain ⟨As, cs, Am, cm, Ap, cp, Au, cu, Ae, ce, Ao, co, rfl, hnm, h1, h2, h3, h4, h5, h6⟩ := hs
  unfold maxLen at hnm
  obtain ⟨_, _, hv, hsc, hsm, hscell⟩ := h1.str'
  injection hv with e1 e2 e3
  subst e1 e3
  obtain ⟨_, _, hv, hmc, hmm, hmcell⟩ := h2.int
  injection hv with e1 e2 e3
  subst e1 e3
  refine ok_enter Tryz.func58 rfl Tryz.ntmps58 rfl ?_
  focus (refine gc_seq ?_; refine gc_region ?_; refine gw_boxd (v := .agg _) rfl rfl (fun _ => ?_); refine gM rfl rfl (by conv => (lhs; whnf)) ?_; refine gO ?_; refine gc_seq ?_; refine gc_seq ?_; refine gc_region ?_; refine gF rfl rfl rfl ?_; apply gw_d; exact w_load_box rfl rfl rfl .here rfl; apply gw_d; exact w_call rfl rfl (fun w s => rname_ok w _ (by omega)) rfl; apply gw_d; exact det_not_ rfl rfl rfl; refine gM rfl rfl (by conv => (lhs; whnf)) ?_; refine gw_guard rfl rfl (fun _ => ?_) (fun _ => ?_); refine gU rfl ?_; refine gU rfl ?_; refine gU rfl ?_; refine gU rfl ?_; apply gw_d; exact det_pick_t (v := .bool _) rfl rfl rfl rfl; refine gO ?_; refine gc_if_true rfl ?_; refine gc_seq ?_; refine gc_region ?_; refine gM rfl rfl (by conv => (lhs; whnf)) ?_; refine gO ?_; refine gc_ret ?_; refine gx_then_ret ?_; rotate_left; refine gF rfl rfl rfl ?_; apply gw_d; exact w_load_box rfl rfl rfl .here rfl; refine gL rfl rfl rfl ?_; refine gC rfl rfl rfl rfl rfl ?_; apply gw_d; exact det_pick_f (v := .bool _) rfl rfl rfl rfl; refine gO ?_; refine gc_if_dec rfl (fun _ => ?_) (fun _ => ?_); refine gc_seq ?_; refine gc_region ?_; refine gM rfl rfl (by conv => (lhs; whnf)) ?_; refine gO ?_; refine gc_ret ?_; refine gx_then_ret ?_; rotate_left; refine gc_skip ?_; refine gx_next ?_; refine gc_seq ?_; refine gc_seq ?_; refine gc_region ?_; refine gM rfl rfl (by conv => (lhs; whnf)) ?_; refine gO ?_; refine gc_block ?_; rotate_left)
  · rename_i h
    refine gx_ret1 (v := .bool _) rfl rfl (fun _ _ => ?_)
    unfold sizedB
    rw [show nameB s.name = false by simpa using h]
    rfl
  · rename_i h
    refine gx_ret1 (v := .bool _) rfl rfl (fun _ _ => ?_)
    unfold sizedB
    rw [decide_eq_true (show s.sizes.length = 0 by omega)]
    simp
  rename_i hn h0
  have hn : nameB s.name = true := by simpa using hn
  have h0 : ¬ s.sizes.length = 0 := by omega
  refine gc_loopK (σ := Nat) [16, 17, 18, 19, 20, 23, 24, 25, 26, 27, 28, 29, 2, 21, 22, 3] (fun k => [(3, .int .i64 k)]) (fun k => k ≤ s.sizes.length ∧ ((s.sizes.take k).any fun x => !sizeB' x) = false) (fun k => s.sizes.length - k) 0 ⟨Nat.zero_le _, rfl⟩ ⟨rfl, trivial⟩ ?_
  rintro k base ⟨hk, hI⟩
  focus (refine gc_seq ?_; refine gc_seq ?_; refine gc_region ?_; refine gM rfl rfl (by conv => (lhs; whnf)) ?_; refine gF rfl rfl rfl ?_; apply gw_d; exact w_load_box rfl rfl rfl .here rfl; refine gL rfl rfl rfl ?_; refine gC rfl rfl rfl rfl rfl ?_; refine gO ?_)
  refine gc_if_dec rfl (fun h => ?_) (fun h => ?_)
  · have hlt : k < s.sizes.length := by omega
    obtain ⟨ad, rfl, hb, hce, hsz⟩ := hscell k hlt
    focus (refine gc_skip ?_; refine gx_next ?_; refine gc_seq ?_; refine gc_block ?_; refine gc_seq ?_; refine gc_region ?_; refine gF rfl rfl rfl ?_; apply gw_d; exact w_load_box rfl rfl rfl .here rfl; refine gM rfl rfl (by conv => (lhs; whnf)) ?_; apply gw_d; exact w_index rfl rfl rfl rfl (by with_reducible exact rfl) (by omega); apply gw_d; exact w_load_at rfl rfl rfl (by assumption) (by assumption); apply gw_d; exact w_call rfl rfl (fun w s => r_size_ok w _ hsz) rfl; apply gw_d; exact det_not_ rfl rfl rfl; refine gO ?_)
    refine gc_if rfl (fun h => ?_) (fun h => ?_)
    · focus (refine gc_seq ?_; refine gc_region ?_; refine gM rfl rfl (by conv => (lhs; whnf)) ?_; refine gO ?_; refine gc_ret ?_; refine gx_block_ret ?_; refine gx_then_ret ?_; refine gx_then_ret ?_; refine gx_block_ret ?_; refine gx_then_ret ?_)
      refine gx_ret1 (v := .bool _) rfl rfl (fun _ _ => ?_)
      unfold sizedB
      rw [show (s.sizes.any fun x => !sizeB' x) = true from any_at hlt h]
      simp
    · focus (refine gc_skip ?_; refine gx_block ?_; refine gx_next ?_; refine gc_region ?_; refine gM rfl rfl (by conv => (lhs; whnf)) ?_; apply gw_d; exact det_ar rfl rfl rfl rfl rfl (by omega); refine gM rfl rfl (by conv => (lhs; whnf)) ?_; refine gw_nil ?_)
      exact gx_round (k + 1) ⟨by omega, take_any_snoc hlt hI h⟩ (by omega) (by repeat (first | exact Keeps.refl | refine Keeps.upd rfl ?_ | refine Keeps.sets rfl ?_ | refine Keeps.havoc rfl ?_)) ⟨rfl, trivial⟩ (Sub.all _)
  obtain rfl : k = s.sizes.length := by omega
  rw [List.take_length] at hI
  focus (refine gc_exit ?_; refine gx_then_exit ?_; refine gx_then_exit ?_; refine gx_block_exit ?_; refine gx_next ?_; refine gc_seq ?_; refine gc_region ?_; refine gM rfl rfl (by conv => (lhs; whnf)) ?_; refine gO ?_; refine gc_seq ?_; refine gc_seq ?_; refine gc_region ?_; refine gM rfl rfl (by conv => (lhs; whnf)) ?_; refine gO ?_; refine gc_block ?_)
  refine gc_loopK (σ := Nat) [30, 31, 32, 33, 34, 37, 38, 39, 40, 41, 42, 43, 44, 45, 4, 35, 36, 5] (fun k => [(5, .int .i64 k), (4, .bool ((s.multiples.take k).any (isI 0)))]) (fun k => k ≤ s.multiples.length) (fun k => s.multiples.length - k) 0 (Nat.zero_le _) ⟨rfl, rfl, trivial⟩ ?_
  rintro k base2 hk
  focus (refine gc_seq ?_; refine gc_seq ?_; refine gc_region ?_; refine gM rfl rfl (by conv => (lhs; whnf)) ?_; refine gF rfl rfl rfl ?_; apply gw_d; exact w_load_box rfl rfl rfl .here rfl; refine gL rfl rfl rfl ?_; refine gC rfl rfl rfl rfl rfl ?_; refine gO ?_)
  refine gc_if_dec rfl (fun h => ?_) (fun h => ?_)
  · have hlt : k < s.multiples.length := by omega
    obtain ⟨ad, rfl, hb, hce, _⟩ := hmcell k hlt
    have hsn := any_take_snoc (isI 0) hlt
    generalize (s.multiples.take k).any (isI 0) = b at hsn
    focus (refine gc_skip ?_; refine gx_next ?_; refine gc_seq ?_; refine gc_block ?_; refine gc_region ?_; refine gM rfl rfl (by conv => (lhs; whnf)) ?_; refine gM rfl rfl (by conv => (lhs; whnf)) ?_; refine gw_guard rfl rfl (fun _ => ?_) (fun _ => ?_); refine gU rfl ?_; refine gU rfl ?_; refine gU rfl ?_; refine gU rfl ?_; refine gU rfl ?_; refine gU rfl ?_; apply gw_d; exact det_pick_t (v := .bool _) rfl rfl rfl rfl; refine gM rfl rfl (by conv => (lhs; whnf)) ?_; refine gw_nil ?_; refine gx_block ?_; refine gx_next ?_; refine gc_region ?_; refine gM rfl rfl (by conv => (lhs; whnf)) ?_; apply gw_d; exact det_ar rfl rfl rfl rfl rfl (by omega); refine gM rfl rfl (by conv => (lhs; whnf)) ?_; refine gw_nil ?_; rotate_left; refine gF rfl rfl rfl ?_; apply gw_d; exact w_load_box rfl rfl rfl .here rfl; refine gM rfl rfl (by conv => (lhs; whnf)) ?_; apply gw_d; exact w_index rfl rfl rfl rfl (by with_reducible exact rfl) (by omega); apply gw_d; exact w_load_at rfl rfl rfl (by assumption) (by assumption); refine gC rfl rfl rfl rfl rfl ?_; apply gw_d; exact det_pick_f (v := .bool _) rfl rfl rfl rfl; refine gM rfl rfl (by conv => (lhs; whnf)) ?_; refine gw_nil ?_; refine gx_block ?_; refine gx_next ?_; refine gc_region ?_; refine gM rfl rfl (by conv => (lhs; whnf)) ?_; apply gw_d; exact det_ar rfl rfl rfl rfl rfl (by omega); refine gM rfl rfl (by conv => (lhs; whnf)) ?_; refine gw_nil ?_; rotate_left)
    · rename_i h9
      exact gx_round (k + 1) hlt (by omega) (by repeat (first | exact Keeps.refl | refine Keeps.upd rfl ?_ | refine Keeps.sets rfl ?_ | refine Keeps.havoc rfl ?_)) ⟨rfl, by rw [hsn, h9]; rfl, trivial⟩ (Sub.all _)
    · rename_i h9
      refine gx_round (k + 1) hlt (by omega) (by repeat (first | exact Keeps.refl | refine Keeps.upd rfl ?_ | refine Keeps.sets rfl ?_ | refine Keeps.havoc rfl ?_)) ⟨rfl, ?_, trivial⟩ (Sub.all _)
      rw [hsn, h9]
      refine congrArg Value.bool ?_
      unfold isI
      simp [eq_comm]
  obtain rfl : k = s.multiples.length := by omega
  rw [List.take_length]
  cases hb : s.multiples.any (isI 0) with
  | false =>
    focus (refine gc_exit ?_; refine gx_then_exit ?_; refine gx_then_exit ?_; refine gx_block_exit ?_; refine gx_next ?_; refine gc_seq ?_; refine gc_region ?_; refine gM rfl rfl (by conv => (lhs; whnf)) ?_; refine gM rfl rfl (by conv => (lhs; whnf)) ?_; refine gU rfl ?_; refine gU rfl ?_; refine gU rfl ?_; refine gU rfl ?_; refine gU rfl ?_; refine gU rfl ?_; refine gU rfl ?_; apply gw_d; exact det_pick_f (v := .bool _) rfl rfl rfl rfl; refine gM rfl rfl (by conv => (lhs; whnf)) ?_; refine gO ?_; refine gc_ret ?_)
    refine gx_ret1 (v := .bool _) rfl rfl (fun _ _ => ?_)
    unfold sizedB
    rw [hb]
    simp
  | true =>
    focus (refine gc_exit ?_; refine gx_then_exit ?_; refine gx_then_exit ?_; refine gx_block_exit ?_; refine gx_next ?_; refine gc_seq ?_; refine gc_region ?_; refine gM rfl rfl (by conv => (lhs; whnf)) ?_; refine gM rfl rfl (by conv => (lhs; whnf)) ?_; refine gF rfl rfl rfl ?_; apply gw_d; exact w_load_box rfl rfl rfl .here rfl; refine gL rfl rfl rfl ?_; refine gF rfl rfl rfl ?_; apply gw_d; exact w_load_box rfl rfl rfl .here rfl; refine gL rfl rfl rfl ?_; refine gC rfl rfl rfl rfl rfl ?_; apply gw_d; exact det_pick_t (v := .bool _) rfl rfl rfl rfl; refine gM rfl rfl (by conv => (lhs; whnf)) ?_; refine gO ?_; refine gc_ret ?_)
    refine gx_ret1 (v := .bool _) rfl rfl (fun _ _ => ?_)
    unfold sizedB
    rw [hb, hn, hI, decide_eq_false h0]
    refine congrArg Value.bool ?_
    simp
    omega
theorem r_twiceS_ok (w : World) (v : Value) (l : List ByteArray) (hl : Sl rStr w w.heap.size v l) : Ok Tryz.prog 59 [v].toArray w fun r _ => r = .bool (dupL l l.length) := by
  obtain ⟨A, c, rfl, hc, hm, hcell⟩ := hl.str'
  refine ok_enter Tryz.func59 rfl Tryz.ntmps59 rfl ?_
  focus (refine gc_seq ?_; refine gc_region ?_; refine gM rfl rfl (by conv => (lhs; whnf)) ?_; refine gO ?_; refine gc_seq ?_; refine gc_seq ?_; refine gc_region ?_; refine gM rfl rfl (by conv => (lhs; whnf)) ?_; refine gO ?_; refine gc_block ?_)
  refine gc_loop (σ := Nat) [5, 6, 7, 8, 4, 11, 12, 13, 16, 17, 18, 19, 20, 21, 22, 23, 24, 2, 14, 15, 9, 10, 3] (fun k => [(3, .int .i64 k)]) (fun _ => []) (fun k => k ≤ l.length ∧ dupL l k = false) (fun k => l.length - k) 0 ⟨Nat.zero_le _, rfl⟩ ⟨rfl, trivial⟩ .nil ?_
  rintro k base ⟨hk, hI⟩
  focus (refine gc_seq ?_; refine gc_seq ?_; refine gc_region ?_; refine gM rfl rfl (by conv => (lhs; whnf)) ?_; refine gM rfl rfl (by conv => (lhs; whnf)) ?_; refine gL rfl rfl rfl ?_; refine gC rfl rfl rfl rfl rfl ?_; refine gO ?_)
  refine gc_if_dec rfl (fun h => ?_) (fun h => ?_)
  · have hlt : k < l.length := by omega
    obtain ⟨ad, rfl, hb, hce, hi⟩ := hcell k hlt
    focus (refine gc_skip ?_; refine gx_next ?_; refine gc_seq ?_; refine gc_block ?_; refine gc_seq ?_; refine gc_region ?_; refine gM rfl rfl (by conv => (lhs; whnf)) ?_; refine gO ?_; refine gc_block ?_)
    refine gc_loop (σ := Nat) [11, 12, 13, 16, 17, 18, 19, 20, 21, 22, 23, 24, 2, 14, 15, 4] (fun j => [(4, .int .i64 j)]) (fun _ => []) (fun j => j ≤ k ∧ hasB ((l.take k).take j) l[k] = false) (fun j => k - j) 0 ⟨Nat.zero_le _, rfl⟩ ⟨rfl, trivial⟩ .nil ?_
    rintro j base2 ⟨hj, hJ⟩
    focus (refine gc_seq ?_; refine gc_seq ?_; refine gc_region ?_; refine gM rfl rfl (by conv => (lhs; whnf)) ?_; refine gM rfl rfl (by conv => (lhs; whnf)) ?_; refine gC rfl rfl rfl rfl rfl ?_; refine gO ?_)
    refine gc_if_dec rfl (fun h2 => ?_) (fun h2 => ?_)
    · have hjk : j < k := by omega
      obtain ⟨ad2, ha2, hb2, hce2, _⟩ := hcell j (by omega)
      injection ha2 with ha2
      subst ha2
      have hjl : j < (l.take k).length := by rw [List.length_take]; omega
      have hgt : (l.take k)[j] = l[j] := List.getElem_take
      have heq : (l[k].toList == l[j].toList) = decide (l[j] = l[k]) := by
        rw [ba_eq_list]
        exact decide_eq_decide.2 eq_comm
      focus (refine gc_skip ?_; refine gx_next ?_; refine gc_seq ?_; refine gc_block ?_; refine gc_seq ?_)
      refine gc_draw 9 (by kernel_rfl) (by kernel_rfl) ?_
      focus (apply gd_d; exact det_m rfl rfl (by conv => (lhs; whnf)); apply gd_d; exact det_m rfl rfl (by conv => (lhs; whnf)); apply gd_d; exact w_index (m := k) rfl rfl rfl rfl rfl hlt; apply gd_d; exact w_load_at rfl rfl rfl (by assumption) (by assumption); apply gd_d; exact det_m rfl rfl (by conv => (lhs; whnf)); apply gd_d; exact det_m rfl rfl (by conv => (lhs; whnf)); apply gd_d; exact w_index (m := j) rfl rfl rfl rfl rfl (by omega); apply gd_d; exact w_load_at rfl rfl rfl (by assumption) (by assumption); apply gd_d; exact det_seq rfl rfl rfl rfl; refine gd_nil ?_; refine gO ?_)
      refine gc_if rfl (fun h3 => ?_) (fun h3 => ?_)
      · focus (refine gc_seq ?_; refine gc_region ?_; refine gM rfl rfl (by conv => (lhs; whnf)) ?_; refine gO ?_; refine gc_ret ?_; refine gx_block_ret ?_; refine gx_then_ret ?_; refine gx_then_ret ?_; refine gx_block_ret ?_; refine gx_block_ret ?_; refine gx_then_ret ?_; refine gx_then_ret ?_; refine gx_block_ret ?_; refine gx_then_ret ?_)
        refine gx_ret1 (v := .bool _) rfl rfl (fun _ _ => ?_)
        rw [heq] at h3
        have h4 : hasB (l.take k) l[k] = true := hasB_iff.2 (by rw [← of_decide_eq_true h3, ← hgt]; exact List.getElem_mem hjl)
        rw [dupL_yes hlt h4]
      · focus (refine gc_skip ?_; refine gx_block ?_; refine gx_next ?_; refine gc_region ?_; refine gM rfl rfl (by conv => (lhs; whnf)) ?_; apply gw_d; exact det_ar rfl rfl rfl rfl rfl (by omega); refine gM rfl rfl (by conv => (lhs; whnf)) ?_; refine gw_nil ?_)
        rw [heq] at h3
        exact gx_round (j + 1) ⟨hjk, take_any_snoc hjl hJ (by rw [hgt]; exact h3)⟩ (by omega) (by repeat (first | exact Keeps.refl | refine Keeps.upd rfl ?_ | refine Keeps.sets rfl ?_ | refine Keeps.havoc rfl ?_)) ⟨rfl, trivial⟩ .nil
    · obtain rfl : j = k := by omega
      have hJ' : hasB (l.take j) l[j] = false := by rw [List.take_of_length_le (by rw [List.length_take]; omega)] at hJ; exact hJ
      focus (refine gc_exit ?_; refine gx_then_exit ?_; refine gx_then_exit ?_; refine gx_block_exit ?_; refine gx_block ?_; refine gx_next ?_; refine gc_region ?_; refine gM rfl rfl (by conv => (lhs; whnf)) ?_; apply gw_d; exact det_ar rfl rfl rfl rfl rfl (by omega); refine gM rfl rfl (by conv => (lhs; whnf)) ?_; refine gw_nil ?_)
      exact gx_round (j + 1) ⟨hlt, dupL_snoc hlt hI hJ'⟩ (by omega) (by repeat (first | exact Keeps.refl | refine Keeps.upd rfl ?_ | refine Keeps.sets rfl ?_ | refine Keeps.havoc rfl ?_)) ⟨rfl, trivial⟩ .nil
  · obtain rfl : k = l.length := by omega
    focus (refine gc_exit ?_; refine gx_then_exit ?_; refine gx_then_exit ?_; refine gx_block_exit ?_; refine gx_next ?_; refine gc_seq ?_; refine gc_region ?_; refine gM rfl rfl (by conv => (lhs; whnf)) ?_; refine gO ?_; refine gc_ret ?_)
    refine gx_ret1 (v := .bool _) rfl rfl (fun _ _ => ?_)
    rw [hI]
theorem r_long_ok (w : World) (v : Value) (s : Sty) (hs : StyV w w.heap.size v s) : Ok Tryz.prog 60 [v].toArray w fun r _ => r = .bool (longB s) := by
  obtain ⟨As, cs, Am, cm, Ap, cp, Au, cu, Ae, ce, Ao, co, rfl, hnm, h1, h2, h3, h4, h5, h6⟩ := hs
  refine ok_enter Tryz.func60 rfl Tryz.ntmps60 rfl ?_
  focus (refine gc_seq ?_; refine gc_region ?_; refine gw_boxd (v := .agg _) rfl rfl (fun _ => ?_); refine gM rfl rfl (by conv => (lhs; whnf)) ?_; refine gN ?_; refine gF rfl rfl rfl ?_; apply gw_d; exact w_load_box rfl rfl rfl .here rfl; refine gL rfl rfl rfl ?_; refine gC rfl rfl rfl rfl rfl ?_; refine gM rfl rfl (by conv => (lhs; whnf)) ?_; refine gw_guard_dec rfl rfl (fun _ => ?_) (fun _ => ?_); refine gU rfl ?_; refine gU rfl ?_; refine gU rfl ?_; refine gU rfl ?_; apply gw_d; exact det_pick_t (v := .bool _) rfl rfl rfl rfl; refine gM rfl rfl (by conv => (lhs; whnf)) ?_; refine gU rfl ?_; refine gU rfl ?_; refine gU rfl ?_; refine gU rfl ?_; apply gw_d; exact det_pick_t (v := .bool _) rfl rfl rfl rfl; refine gM rfl rfl (by conv => (lhs; whnf)) ?_; refine gU rfl ?_; refine gU rfl ?_; refine gU rfl ?_; refine gU rfl ?_; apply gw_d; exact det_pick_t (v := .bool _) rfl rfl rfl rfl; refine gM rfl rfl (by conv => (lhs; whnf)) ?_; refine gU rfl ?_; refine gU rfl ?_; refine gU rfl ?_; refine gU rfl ?_; apply gw_d; exact det_pick_t (v := .bool _) rfl rfl rfl rfl; refine gM rfl rfl (by conv => (lhs; whnf)) ?_; refine gO ?_; refine gc_ret ?_; rotate_left; refine gF rfl rfl rfl ?_; apply gw_d; exact w_load_box rfl rfl rfl .here rfl; refine gL rfl rfl rfl ?_; refine gC rfl rfl rfl rfl rfl ?_; apply gw_d; exact det_pick_f (v := .bool _) rfl rfl rfl rfl; refine gM rfl rfl (by conv => (lhs; whnf)) ?_; refine gw_guard_dec rfl rfl (fun _ => ?_) (fun _ => ?_); refine gU rfl ?_; refine gU rfl ?_; refine gU rfl ?_; refine gU rfl ?_; apply gw_d; exact det_pick_t (v := .bool _) rfl rfl rfl rfl; refine gM rfl rfl (by conv => (lhs; whnf)) ?_; refine gU rfl ?_; refine gU rfl ?_; refine gU rfl ?_; refine gU rfl ?_; apply gw_d; exact det_pick_t (v := .bool _) rfl rfl rfl rfl; refine gM rfl rfl (by conv => (lhs; whnf)) ?_; refine gU rfl ?_; refine gU rfl ?_; refine gU rfl ?_; refine gU rfl ?_; apply gw_d; exact det_pick_t (v := .bool _) rfl rfl rfl rfl; refine gM rfl rfl (by conv => (lhs; whnf)) ?_; refine gO ?_; refine gc_ret ?_; rotate_left; refine gF rfl rfl rfl ?_; apply gw_d; exact w_load_box rfl rfl rfl .here rfl; refine gL rfl rfl rfl ?_; refine gC rfl rfl rfl rfl rfl ?_; apply gw_d; exact det_pick_f (v := .bool _) rfl rfl rfl rfl; refine gM rfl rfl (by conv => (lhs; whnf)) ?_; refine gw_guard_dec rfl rfl (fun _ => ?_) (fun _ => ?_); refine gU rfl ?_; refine gU rfl ?_; refine gU rfl ?_; refine gU rfl ?_; apply gw_d; exact det_pick_t (v := .bool _) rfl rfl rfl rfl; refine gM rfl rfl (by conv => (lhs; whnf)) ?_; refine gU rfl ?_; refine gU rfl ?_; refine gU rfl ?_; refine gU rfl ?_; apply gw_d; exact det_pick_t (v := .bool _) rfl rfl rfl rfl; refine gM rfl rfl (by conv => (lhs; whnf)) ?_; refine gO ?_; refine gc_ret ?_; rotate_left; refine gF rfl rfl rfl ?_; apply gw_d; exact w_load_box rfl rfl rfl .here rfl; refine gL rfl rfl rfl ?_; refine gC rfl rfl rfl rfl rfl ?_; apply gw_d; exact det_pick_f (v := .bool _) rfl rfl rfl rfl; refine gM rfl rfl (by conv => (lhs; whnf)) ?_; refine gw_guard_dec rfl rfl (fun _ => ?_) (fun _ => ?_); refine gU rfl ?_; refine gU rfl ?_; refine gU rfl ?_; refine gU rfl ?_; apply gw_d; exact det_pick_t (v := .bool _) rfl rfl rfl rfl; refine gM rfl rfl (by conv => (lhs; whnf)) ?_; refine gO ?_; refine gc_ret ?_; rotate_left; refine gF rfl rfl rfl ?_; apply gw_d; exact w_load_box rfl rfl rfl .here rfl; refine gL rfl rfl rfl ?_; refine gC rfl rfl rfl rfl rfl ?_; apply gw_d; exact det_pick_f (v := .bool _) rfl rfl rfl rfl; refine gM rfl rfl (by conv => (lhs; whnf)) ?_; refine gO ?_; refine gc_ret ?_; rotate_left)
  all_goals
    refine gx_ret1 (v := .bool _) rfl rfl (fun _ _ => ?_)
    refine congrArg Value.bool ?_
    unfold longB
    first
      | (rw [Bool.eq_iff_iff]; simp only [Bool.or_eq_true, decide_eq_true_eq]; omega)
      | (symm; simp only [Bool.or_eq_true, decide_eq_true_eq]; omega)
theorem r_inside_ok (w : World) (v : Value) (s : Sty) (p e : Int) (hs : StyV w w.heap.size v s) : Ok Tryz.prog 86 [v, .int .i64 p, .int .i64 e].toArray w fun r _ => r = .bool (isEdgeB s p e) := by
  obtain ⟨As, cs, Am, cm, Ap, cp, Au, cu, Ae, ce, Ao, co, rfl, hnm, h1, h2, h3, h4, h5, h6⟩ := hs
  obtain ⟨_, _, hv, hpc, hpm⟩ := len_small h3
  injection hv with e1 e2 e3
  subst e1 e3
  by_cases hp : 0 ≤ p ∧ p < (s.pieces.length : Int)
  · obtain ⟨k, rfl⟩ : ∃ k : Nat, p = k := ⟨p.toNat, by omega⟩
    have hk : k < s.pieces.length := by omega
    obtain ⟨ad, _, hv, _, _, hb, hcell⟩ := h3.at' 7 rfl (by omega)
    injection hv with e1 e2 e3
    subst e1 e3
    obtain ⟨cs, hce, Ae', ce', _, _, _, _, _, _, rfl, _, hed, _⟩ := hcell k hk
    have hce1 := hce 1 _ rfl
    have hg : isEdgeB s k e = (decide (0 ≤ e) && decide (e < s.pieces[k].edges.length)) := by
      unfold isEdgeB
      rw [Int.toNat_natCast, List.getElem?_eq_getElem hk]
      have h1 : (0 : Int) ≤ (k : Int) := by omega
      simp [h1, hp.2]
    rw [hg]
    refine ok_enter Tryz.func86 rfl Tryz.ntmps86 rfl ?_
    focus (refine gc_seq ?_; refine gc_region ?_; refine gw_boxd (v := .agg _) rfl rfl (fun _ => ?_); refine gM rfl rfl (by conv => (lhs; whnf)) ?_; refine gN ?_; refine gM rfl rfl (by conv => (lhs; whnf)) ?_; refine gC rfl rfl rfl rfl rfl ?_; refine gM rfl rfl (by conv => (lhs; whnf)) ?_; refine gM rfl rfl (by conv => (lhs; whnf)) ?_; refine gF rfl rfl rfl ?_; apply gw_d; exact w_load_box rfl rfl rfl .here rfl; refine gL rfl rfl rfl ?_; refine gC rfl rfl rfl rfl rfl ?_; apply gw_d; exact det_pick_t (v := .bool _) rfl rfl rfl rfl; refine gM rfl rfl (by conv => (lhs; whnf)) ?_; refine gw_guard_dec rfl rfl (fun _ => ?_) (fun _ => ?_); refine gM rfl rfl (by conv => (lhs; whnf)) ?_; refine gC rfl rfl rfl rfl rfl ?_; apply gw_d; exact det_pick_t (v := .bool _) rfl rfl rfl rfl; refine gM rfl rfl (by conv => (lhs; whnf)) ?_; refine gw_guard_dec rfl rfl (fun _ => ?_) (fun _ => ?_); refine gM rfl rfl (by conv => (lhs; whnf)) ?_; refine gF rfl rfl rfl ?_; apply gw_d; exact w_load_box rfl rfl rfl .here rfl; refine gM rfl rfl (by conv => (lhs; whnf)) ?_; apply gw_d; exact w_index rfl rfl rfl rfl (by with_reducible exact rfl) (by omega); refine gF rfl rfl rfl ?_; apply gw_d; exact w_load_fld rfl rfl rfl (by assumption) (by assumption); refine gL rfl rfl rfl ?_; refine gC rfl rfl rfl rfl rfl ?_; apply gw_d; exact det_pick_t (v := .bool _) rfl rfl rfl rfl; refine gM rfl rfl (by conv => (lhs; whnf)) ?_; refine gO ?_; refine gc_ret ?_; rotate_left; refine gU rfl ?_; refine gU rfl ?_; refine gU rfl ?_; refine gU rfl ?_; refine gU rfl ?_; refine gU rfl ?_; refine gU rfl ?_; refine gU rfl ?_; refine gU rfl ?_; apply gw_d; exact det_pick_f (v := .bool _) rfl rfl rfl rfl; refine gM rfl rfl (by conv => (lhs; whnf)) ?_; refine gO ?_; refine gc_ret ?_; rotate_left; refine gU rfl ?_; refine gU rfl ?_; apply gw_d; exact det_pick_f (v := .bool _) rfl rfl rfl rfl; refine gM rfl rfl (by conv => (lhs; whnf)) ?_; refine gU rfl ?_; refine gU rfl ?_; refine gU rfl ?_; refine gU rfl ?_; refine gU rfl ?_; refine gU rfl ?_; refine gU rfl ?_; refine gU rfl ?_; refine gU rfl ?_; apply gw_d; exact det_pick_f (v := .bool _) rfl rfl rfl rfl; refine gM rfl rfl (by conv => (lhs; whnf)) ?_; refine gO ?_; refine gc_ret ?_; rotate_left)
    all_goals first | (exfalso; omega) | (refine gx_ret1 (v := .bool _) rfl rfl (fun _ _ => ?_); simp [*])
  · have hg : isEdgeB s p e = false := by
      unfold isEdgeB
      by_cases h1 : 0 ≤ p
      · have h2 : ¬ p < (s.pieces.length : Int) := fun h => hp ⟨h1, h⟩
        simp [h2]
      · simp [h1]
    rw [hg]
    refine ok_enter Tryz.func86 rfl Tryz.ntmps86 rfl ?_
    focus (refine gc_seq ?_; refine gc_region ?_; refine gw_boxd (v := .agg _) rfl rfl (fun _ => ?_); refine gM rfl rfl (by conv => (lhs; whnf)) ?_; refine gN ?_; refine gM rfl rfl (by conv => (lhs; whnf)) ?_; refine gC rfl rfl rfl rfl rfl ?_; refine gM rfl rfl (by conv => (lhs; whnf)) ?_; refine gw_guard_dec rfl rfl (fun _ => ?_) (fun _ => ?_); refine gM rfl rfl (by conv => (lhs; whnf)) ?_; refine gF rfl rfl rfl ?_; apply gw_d; exact w_load_box rfl rfl rfl .here rfl; refine gL rfl rfl rfl ?_; refine gC rfl rfl rfl rfl rfl ?_; apply gw_d; exact det_pick_t (v := .bool _) rfl rfl rfl rfl; refine gM rfl rfl (by conv => (lhs; whnf)) ?_; refine gw_guard_dec rfl rfl (fun _ => ?_) (fun _ => ?_); refine gM rfl rfl (by conv => (lhs; whnf)) ?_; refine gC rfl rfl rfl rfl rfl ?_; apply gw_d; exact det_pick_t (v := .bool _) rfl rfl rfl rfl; refine gM rfl rfl (by conv => (lhs; whnf)) ?_; refine gw_guard_dec rfl rfl (fun _ => ?_) (fun _ => ?_); refine gM rfl rfl (by conv => (lhs; whnf)) ?_; refine gF rfl rfl rfl ?_; apply gw_d; exact w_load_box rfl rfl rfl .here rfl; refine gM rfl rfl (by conv => (lhs; whnf)) ?_; rotate_left; refine gU rfl ?_; refine gU rfl ?_; refine gU rfl ?_; refine gU rfl ?_; refine gU rfl ?_; refine gU rfl ?_; refine gU rfl ?_; refine gU rfl ?_; refine gU rfl ?_; apply gw_d; exact det_pick_f (v := .bool _) rfl rfl rfl rfl; refine gM rfl rfl (by conv => (lhs; whnf)) ?_; refine gO ?_; refine gc_ret ?_; rotate_left; refine gU rfl ?_; refine gU rfl ?_; apply gw_d; exact det_pick_f (v := .bool _) rfl rfl rfl rfl; refine gM rfl rfl (by conv => (lhs; whnf)) ?_; refine gU rfl ?_; refine gU rfl ?_; refine gU rfl ?_; refine gU rfl ?_; refine gU rfl ?_; refine gU rfl ?_; refine gU rfl ?_; refine gU rfl ?_; refine gU rfl ?_; apply gw_d; exact det_pick_f (v := .bool _) rfl rfl rfl rfl; refine gM rfl rfl (by conv => (lhs; whnf)) ?_; refine gO ?_; refine gc_ret ?_; rotate_left; refine gU rfl ?_; refine gU rfl ?_; refine gU rfl ?_; refine gU rfl ?_; refine gU rfl ?_; apply gw_d; exact det_pick_f (v := .bool _) rfl rfl rfl rfl; refine gM rfl rfl (by conv => (lhs; whnf)) ?_; refine gU rfl ?_; refine gU rfl ?_; apply gw_d; exact det_pick_f (v := .bool _) rfl rfl rfl rfl; refine gM rfl rfl (by conv => (lhs; whnf)) ?_; refine gU rfl ?_; refine gU rfl ?_; refine gU rfl ?_; refine gU rfl ?_; refine gU rfl ?_; refine gU rfl ?_; refine gU rfl ?_; refine gU rfl ?_; refine gU rfl ?_; apply gw_d; exact det_pick_f (v := .bool _) rfl rfl rfl rfl; refine gM rfl rfl (by conv => (lhs; whnf)) ?_; refine gO ?_; refine gc_ret ?_; rotate_left)
    all_goals first | (exfalso; omega) | (refine gx_ret1 (v := .bool _) rfl rfl (fun _ _ => ?_); rfl)
end Go.Proofs.YtckhibfbdnoigaaGreat
