/- Contracts: the places of notches. -/
import Derived.Test.YteiboodeepjanaaGreatN8
import Derived.Test.YteiboodeepjanaaGreatN4
import Derived.Test.YteiboodeepjanaaGreatC13
namespace Go.Proofs.YteiboodeepjanaaGreat
open Go.RowKit
set_option maxRecDepth 100000
set_option maxHeartbeats 8000000

def notchF (l : List Edg) (ns : List (Int × Int)) (k : Nat) : Int := match ns[k]? with
  | some n => if n.1 < 0 ∨ n.1 ≥ l.length then 3 else if n.2 < 0 ∨ n.2 > lenL (gE l n.1.toNat).2 then 3 else 0
  | none => 0
def placedE (l : List Edg) (cs ns : List (Int × Int)) : Int := if ¬ gradedE l cs = 0 then gradedE l cs else if ns.length > 16 then 5 else firstE (notchF l ns) ns.length
theorem edges_lines {l : List Edg} {cs : List (Int × Int)} (h : gradedE l cs = 0) : ∀ k, k < l.length → plineE (gE l k).2 = 0 := fun k hk => by
  unfold gradedE at h
  split at h
  · cases h
  split at h
  · cases h
  unfold outlineE at h
  split at h
  · cases h
  split at h
  · cases h
  split at h
  · rename_i h1
    have h2 := firstE_at h1 k hk
    unfold edgeE at h2
    split at h2
    · split at h2
      · cases h2
      · exact h2
    · cases h2
  · rename_i h1; exact absurd h h1
section
variable {P : Program} {ops : Array Oper} {Q : Exit → Act → World → Prop} {N : Nat} {w0 : World} {L : List Res} {rest : List Oper} {e : Env}
theorem gw_pick {α : Type} {φ : α → Prop} {K : α → List Res} (h : ∀ w, St w0 L w → ∃ a, φ a ∧ St w0 (K a) w) (k : ∀ a, φ a → GW P ops Q N w0 (K a) rest e) : GW P ops Q N w0 L rest e := ⟨fun w s => by
  obtain ⟨a, hp, ha⟩ := h w s
  exact (k a hp).h w ha⟩
end
/-- Edges that the function has made, with the cells of one of them known. -/
def DeepAt (S : Nat → Prop) (v : Value) (l : List Edg) (i : Nat) (a : Addr × Option Addr × Nat) : Res :=
  ⟨S, fun w => SlS rEdge w S v l ∧ S a.1.block ∧ v = .slice (some a.1) l.length (match v with | .slice _ _ c => c | _ => 0) ∧ (∀ j u, [Value.string (gE l i).1, Value.slice a.2.1 (gE l i).2.length a.2.2][j]? = some u → w.cell? (a.1.add (i * 2 + j)) = some u) ∧ SlS rSpot w S (.slice a.2.1 (gE l i).2.length a.2.2) (gE l i).2,
    fun _ _ h p => ⟨SlS.mono h p.1, p.2.1, p.2.2.1, fun j u hu => (cell_same (by rw [add_block]; exact h _ p.2.1)).trans (p.2.2.2.1 j u hu), SlS.mono h p.2.2.2.2⟩⟩
theorem deep_at {S : Nat → Prop} {A : Option Addr} {n c i : Nat} {l : List Edg} {L : List Res} (hi : i < l.length) (w0 w : World) (s : St w0 (Deep S rEdge (.slice A n c) l :: L) w) : ∃ a : Addr × Option Addr × Nat, A = some a.1 ∧ St w0 (DeepAt S (.slice A n c) l i a :: L) w := by
  have hd : SlS rEdge w S (.slice A n c) l := s.head
  have hd' := hd
  obtain ⟨A1, c1, hv, h1, h2, h3⟩ := hd
  obtain ⟨ad, cs, ha, hlt, hc, v2, rfl, hsz, hs2⟩ := h3 i hi
  have hs3 := hs2
  obtain ⟨A2, c2, rfl, _⟩ := hs2
  injection hv with e1 e2 e3
  subst e1 e2 e3 ha
  rw [← gE_get hi] at hc hs3
  exact ⟨(ad, A2, c2), rfl, s.same (fun b hb => hb) ⟨hd', hlt, rfl, hc, hs3⟩⟩
theorem placed_ok (w : World) (nm : ByteArray) (g : Int) (m : Bool) (Ae An Ac Aw : Option Addr) (ce cn cc nw cw : Nat) (l : List Edg) (cs ns : List (Int × Int))
    (hl : Sl rEdge w w.heap.size (.slice Ae l.length ce) l) (hns : Sl rSpot w w.heap.size (.slice An ns.length cn) ns) (hcs : Sl rSpot w w.heap.size (.slice Ac cs.length cc) cs) :
    OkM Tryz.prog 73 [.agg #[.string nm, .slice Ae l.length ce, .int .i64 g, .slice An ns.length cn, .slice Ac cs.length cc, .slice Aw nw cw, .bool m], .int .i64 0].toArray w
      (fun x : (Option Addr × Nat × Nat) × (Option Addr × Nat × Nat) => .tuple #[.slice x.1.1 x.1.2.1 x.1.2.2, .slice x.2.1 x.2.2.1 x.2.2.2, .int .i64 (placedE l cs ns)]) (fun _ => []) := by
  unfold OkM
  refine ok_enter Tryz.func73 rfl Tryz.ntmps73 rfl ?_
  focus (refine gc_seq ?_; refine gc_region ?_; refine gw_boxd (v := .agg _) rfl rfl (fun _ => ?_); apply gw_d; exact det_m rfl rfl (by conv => (lhs; whnf)); apply gw_d; exact det_m rfl rfl (by conv => (lhs; whnf)); apply gw_d; exact det_m rfl rfl (by conv => (lhs; whnf)); refine gw_nil ?_; refine gx_next ?_; refine gc_seq ?_; refine gc_region ?_; apply gw_d; exact w_load_boxN rfl rfl rfl .here rfl; apply gw_d; exact det_m rfl rfl (by conv => (lhs; whnf)))
  refine gw_callm rfl (fun w s => graded_ok w nm g m _ _ _ _ _ _ _ _ _ _ l cs (hl.later s) (hcs.later s)) rfl (fun x => ?_)
  focus (apply gw_d; exact det_m rfl rfl (by conv => (lhs; whnf)); apply gw_d; exact det_extract rfl rfl rfl (by conv => (lhs; whnf)); apply gw_d; exact det_extract rfl rfl rfl (by conv => (lhs; whnf)); apply gw_d; exact det_m rfl rfl (by conv => (lhs; whnf)); apply gw_d; exact det_m rfl rfl (by conv => (lhs; whnf)); refine gw_nil ?_; refine gx_next ?_; refine gc_seq ?_; refine gc_seq ?_; refine gc_region ?_; apply gw_d; exact det_m rfl rfl (by conv => (lhs; whnf)); apply gw_d; exact det_cmp rfl rfl rfl rfl rfl; refine gw_nil ?_; refine gx_next ?_)
  refine gc_if_dec rfl (fun h => ?_) (fun h => ?_)
  · have hE : placedE l cs ns = gradedE l cs := by unfold placedE; rw [if_pos h]
    focus (refine gc_seq ?_; refine gc_region ?_; apply gw_d; exact det_m rfl rfl (by conv => (lhs; whnf)); apply gw_d; exact det_m rfl rfl (by conv => (lhs; whnf)); apply gw_d; exact det_m rfl rfl (by conv => (lhs; whnf)); apply gw_d; exact det_m rfl rfl (by conv => (lhs; whnf)); refine gw_nil ?_; refine gx_next ?_; refine gc_ret ?_; refine gx_then_ret ?_)
    refine gx_ret3 (u := .slice _ _ _) (v := .slice _ _ _) (x := .int _ _) rfl rfl rfl rfl (fun _ _ => ?_)
    exact ⟨((none, 0, 0), (none, 0, 0)), by rw [hE], trivial⟩
  have h0 : gradedE l cs = 0 := by simpa using h
  rw [if_pos h0]
  simp only [if_pos h0]
  focus (refine gc_skip ?_; refine gx_next ?_; refine gc_seq ?_; refine gc_seq ?_; refine gc_region ?_; apply gw_d; exact w_field rfl rfl rfl; apply gw_d; exact w_load_box rfl rfl rfl (.there .here) rfl; apply gw_d; exact w_len rfl rfl rfl; apply gw_d; exact det_cmp rfl rfl rfl rfl rfl; refine gw_nil ?_; refine gx_next ?_)
  refine gc_if_dec rfl (fun h => ?_) (fun h16 => ?_)
  · have hE : placedE l cs ns = 5 := by unfold placedE; rw [if_neg (by rw [h0]; decide), if_pos (by omega)]
    focus (refine gc_seq ?_; refine gc_region ?_; apply gw_d; exact det_m rfl rfl (by conv => (lhs; whnf)); apply gw_d; exact det_m rfl rfl (by conv => (lhs; whnf)); apply gw_d; exact det_m rfl rfl (by conv => (lhs; whnf)); refine gw_nil ?_; refine gx_next ?_; refine gc_ret ?_; refine gx_then_ret ?_)
    refine gx_ret3 (u := .slice _ _ _) (v := .slice _ _ _) (x := .int _ _) rfl rfl rfl rfl (fun _ _ => ?_)
    exact ⟨((none, 0, 0), (none, 0, 0)), by rw [hE], trivial⟩
  have hE : placedE l cs ns = firstE (notchF l ns) ns.length := by unfold placedE; rw [if_neg (by rw [h0]; decide), if_neg (by omega)]
  rw [hE]
  focus (refine gc_skip ?_; refine gx_next ?_; refine gc_seq ?_; refine gc_region ?_; apply gw_d; exact det_m rfl rfl (by conv => (lhs; whnf)); refine gw_nil ?_; refine gx_next ?_; refine gc_seq ?_; refine gc_seq ?_; refine gc_region ?_; apply gw_d; exact w_field rfl rfl rfl; apply gw_d; exact w_load_box rfl rfl rfl (.there .here) rfl; apply gw_d; exact w_len rfl rfl rfl; apply gw_d; exact det_m rfl rfl (by conv => (lhs; whnf)); refine gw_nil ?_; refine gx_next ?_; refine gc_block ?_)
  rename_i bp
  refine gc_own0 3 1 ?_
  refine gc_loop (σ := Nat × Option Addr × Nat × List Int) [33, 34, 35, 11, 36, 37, 38, 39, 40, 41, 42, 43, 44, 45, 46, 4, 5, 6, 48, 49, 50, 51, 52, 53, 54, 55, 47, 56, 57, 12, 13, 58, 59, 60, 62, 63, 64, 65, 66, 67, 68, 61, 69, 70, 14, 71, 72, 73, 75, 76, 77, 78, 79, 74, 80, 81, 15, 82, 83, 84, 85, 86, 87, 88, 9, 89, 32] (fun s => [(32, .int .i64 s.1), (9, .slice s.2.1 s.2.2.2.length s.2.2.1)]) (fun s => [Own s.2.1 s.2.2.2.length s.2.2.1 3 1 (s.2.2.2.map (Value.int .i64)), Deep x.2.2 rEdge (.slice x.1 l.length x.2.1) l, Box bp 60 #[.string nm, .slice Ae l.length ce, .int .i64 g, .slice An ns.length cn, .slice Ac cs.length cc, .slice Aw nw cw, .bool m]]) (fun s => s.1 ≤ ns.length ∧ s.2.2.2.length = s.1 ∧ firstE (notchF l ns) s.1 = 0) (fun s => ns.length - s.1) (0, none, 0, []) ⟨Nat.zero_le _, rfl, rfl⟩ ⟨rfl, rfl, trivial⟩ (.cons .here (.cons .here (.cons .here .nil))) ?_
  rintro ⟨k, A, c, pls⟩ base ⟨hk, hpl, hI⟩
  dsimp only at hk hpl hI ⊢
  focus (refine gc_seq ?_; refine gc_region ?_; apply gw_d; exact det_cmp rfl rfl rfl rfl rfl; refine gw_nil ?_; refine gx_next ?_; refine gc_seq ?_)
  refine gc_if_dec rfl (fun h2 => ?_) (fun h2 => ?_)
  · have hkn : k < ns.length := by omega
    obtain ⟨adn, _, hv, _, _, hbn, hncell⟩ := hns.spot' (by omega)
    injection hv with e1 e2 e3
    subst e1 e3
    have hcn := hncell k hkn
    have hF : notchF l ns k = if (gS ns k).1 < 0 ∨ (gS ns k).1 ≥ l.length then 3 else if (gS ns k).2 < 0 ∨ (gS ns k).2 > lenL (gE l (gS ns k).1.toNat).2 then 3 else 0 := by
      unfold notchF
      rw [List.getElem?_eq_getElem hkn, gS_get hkn]
    have hstop : notchF l ns k = 3 → firstE (notchF l ns) ns.length = 3 := fun h3 => by
      have := firstE_stop hI (by rw [h3]; decide) hkn
      rw [this, h3]
    generalize gS ns k = nk at *
    focus (refine gc_skip ?_; refine gx_next ?_; refine gc_seq ?_; refine gc_block ?_; refine gc_seq ?_; refine gc_region ?_; apply gw_d; exact w_index rfl rfl rfl rfl (by with_reducible exact rfl) (by omega); apply gw_d; exact w_load_elem rfl rfl rfl (by assumption) (by assumption) (by rfl); refine w_alloc rfl (fun _ => ?_); refine w_store_all rfl rfl rfl rfl rfl .here rfl ?_; refine gw_nil ?_; refine gx_next ?_; refine gc_seq ?_; refine gc_seq ?_; refine gc_region ?_; apply gw_d; exact w_field rfl rfl rfl; apply gw_d; exact w_load_box rfl rfl rfl .here rfl; apply gw_d; exact det_cmp rfl rfl rfl rfl rfl; apply gw_d; exact det_m rfl rfl (by conv => (lhs; whnf)))
    by_cases hc : nk.1 < 0 ∨ nk.1 ≥ l.length
    · rw [if_pos hc] at hF
      rw [hstop hF]
      focus (refine gw_guard_dec rfl rfl (fun _ => ?_) (fun _ => ?_); apply gw_d; exact det_not rfl; apply gw_d; exact det_not rfl; apply gw_d; exact det_not rfl; apply gw_d; exact det_not rfl; apply gw_d; exact det_not rfl; apply gw_d; exact det_not rfl; apply gw_d; exact det_pick_t (v := .bool _) rfl rfl rfl rfl; refine gw_nil ?_; refine gx_next ?_; refine gc_if_true rfl ?_; refine gc_seq ?_; refine gc_region ?_; apply gw_d; exact det_m rfl rfl (by conv => (lhs; whnf)); apply gw_d; exact det_m rfl rfl (by conv => (lhs; whnf)); apply gw_d; exact det_m rfl rfl (by conv => (lhs; whnf)); refine gw_nil ?_; refine gx_next ?_; refine gc_ret ?_; refine gx_then_ret ?_; refine gx_block_ret ?_; refine gx_then_ret ?_; refine gx_then_ret ?_; refine gx_block_ret ?_; refine gx_then_ret ?_; rotate_left; apply gw_d; exact w_field rfl rfl rfl; apply gw_d; exact w_load_box rfl rfl rfl .here rfl; apply gw_d; exact w_field rfl rfl rfl; apply gw_d; exact w_load_box rfl rfl rfl (.there (.there (.there .here))) rfl; apply gw_d; exact w_len rfl rfl rfl; apply gw_d; exact det_cmp rfl rfl rfl rfl rfl; apply gw_d; exact det_pick_f (v := .bool _) rfl rfl rfl rfl; refine gw_nil ?_; refine gx_next ?_; refine gc_if_dec rfl (fun _ => ?_) (fun _ => ?_); refine gc_seq ?_; refine gc_region ?_; apply gw_d; exact det_m rfl rfl (by conv => (lhs; whnf)); apply gw_d; exact det_m rfl rfl (by conv => (lhs; whnf)); apply gw_d; exact det_m rfl rfl (by conv => (lhs; whnf)); refine gw_nil ?_; refine gx_next ?_; refine gc_ret ?_; refine gx_then_ret ?_; refine gx_block_ret ?_; refine gx_then_ret ?_; refine gx_then_ret ?_; refine gx_block_ret ?_; refine gx_then_ret ?_; rotate_left; refine gc_skip ?_; refine gx_next ?_; refine gc_seq ?_; refine gc_region ?_; apply gw_d; exact w_field rfl rfl rfl; apply gw_d; exact w_load_box rfl rfl rfl (.there (.there (.there .here))) rfl; apply gw_d; exact w_field rfl rfl rfl; apply gw_d; exact w_load_box rfl rfl rfl .here rfl; rotate_left)
      all_goals first | (exfalso; omega) | skip
      all_goals (refine gx_ret3 (u := .slice _ _ _) (v := .slice _ _ _) (x := .int _ _) rfl rfl rfl rfl (fun _ _ => ?_); exact ⟨((none, 0, 0), (none, 0, 0)), rfl, trivial⟩)
    rw [if_neg hc] at hF
    obtain ⟨ed, hed⟩ : ∃ ed : Nat, nk.1 = (ed : Int) := ⟨nk.1.toNat, by omega⟩
    have hel : ed < l.length := by omega
    obtain ⟨ade, _, hv, _, _, hbe, hecell⟩ := hl.edge' (by omega)
    injection hv with e1 e2 e3
    subst e1 e3
    obtain ⟨A', c', hcE, _, _, _, hline⟩ := hecell ed hel
    have hcE1 := hcE 1 _ rfl
    have hLen : ∀ (L : List Res) (w' : World), St w L w' → Ok Tryz.prog 91 [.slice A' (gE l ed).2.length c'].toArray w' fun r _ => r = .tuple #[.int .i64 (lenL (gE l ed).2), .int .i64 0] := fun L w' s => length_ok w' _ _ (hline.later s) (edges_lines h0 ed hel)
    focus (refine gw_guard_dec rfl rfl (fun _ => ?_) (fun _ => ?_); apply gw_d; exact det_not rfl; apply gw_d; exact det_not rfl; apply gw_d; exact det_not rfl; apply gw_d; exact det_not rfl; apply gw_d; exact det_not rfl; apply gw_d; exact det_not rfl; apply gw_d; exact det_pick_t (v := .bool _) rfl rfl rfl rfl; refine gw_nil ?_; refine gx_next ?_; refine gc_if_true rfl ?_; refine gc_seq ?_; refine gc_region ?_; apply gw_d; exact det_m rfl rfl (by conv => (lhs; whnf)); apply gw_d; exact det_m rfl rfl (by conv => (lhs; whnf)); apply gw_d; exact det_m rfl rfl (by conv => (lhs; whnf)); refine gw_nil ?_; refine gx_next ?_; refine gc_ret ?_; refine gx_then_ret ?_; refine gx_block_ret ?_; refine gx_then_ret ?_; refine gx_then_ret ?_; refine gx_block_ret ?_; refine gx_then_ret ?_; rotate_left; apply gw_d; exact w_field rfl rfl rfl; apply gw_d; exact w_load_box rfl rfl rfl .here rfl; apply gw_d; exact w_field rfl rfl rfl; apply gw_d; exact w_load_box rfl rfl rfl (.there (.there (.there .here))) rfl; apply gw_d; exact w_len rfl rfl rfl; apply gw_d; exact det_cmp rfl rfl rfl rfl rfl; apply gw_d; exact det_pick_f (v := .bool _) rfl rfl rfl rfl; refine gw_nil ?_; refine gx_next ?_; refine gc_if_dec rfl (fun _ => ?_) (fun _ => ?_); refine gc_seq ?_; refine gc_region ?_; apply gw_d; exact det_m rfl rfl (by conv => (lhs; whnf)); apply gw_d; exact det_m rfl rfl (by conv => (lhs; whnf)); apply gw_d; exact det_m rfl rfl (by conv => (lhs; whnf)); refine gw_nil ?_; refine gx_next ?_; refine gc_ret ?_; refine gx_then_ret ?_; refine gx_block_ret ?_; refine gx_then_ret ?_; refine gx_then_ret ?_; refine gx_block_ret ?_; refine gx_then_ret ?_; rotate_left; refine gc_skip ?_; refine gx_next ?_; refine gc_seq ?_; refine gc_region ?_; apply gw_d; exact w_field rfl rfl rfl; apply gw_d; exact w_load_box rfl rfl rfl (.there (.there (.there .here))) rfl; apply gw_d; exact w_field rfl rfl rfl; apply gw_d; exact w_load_box rfl rfl rfl .here rfl; apply gw_d; exact w_index (m := ed) rfl rfl rfl rfl hed hel; apply gw_d; exact w_field rfl rfl rfl; apply gw_d; exact w_load_fld rfl rfl rfl (by assumption) (by assumption); apply gw_d; exact w_call rfl rfl (hLen _) rfl; apply gw_d; exact det_m rfl rfl (by conv => (lhs; whnf)); apply gw_d; exact det_extract rfl rfl rfl (by conv => (lhs; whnf)); apply gw_d; exact det_extract rfl rfl rfl (by conv => (lhs; whnf)); apply gw_d; exact det_m rfl rfl (by conv => (lhs; whnf)); apply gw_d; exact det_m rfl rfl (by conv => (lhs; whnf)); refine gw_nil ?_; refine gx_next ?_; refine gc_seq ?_; refine gc_seq ?_; refine gc_region ?_; apply gw_d; exact det_m rfl rfl (by conv => (lhs; whnf)); apply gw_d; exact det_cmp rfl rfl rfl rfl rfl; refine gw_nil ?_; refine gx_next ?_; refine gc_if_dec rfl (fun _ => ?_) (fun _ => ?_); refine gc_seq ?_; refine gc_region ?_; apply gw_d; exact det_m rfl rfl (by conv => (lhs; whnf)); apply gw_d; exact det_m rfl rfl (by conv => (lhs; whnf)); apply gw_d; exact det_m rfl rfl (by conv => (lhs; whnf)); apply gw_d; exact det_m rfl rfl (by conv => (lhs; whnf)); refine gw_nil ?_; refine gx_next ?_; refine gc_ret ?_; refine gx_then_ret ?_; refine gx_block_ret ?_; refine gx_then_ret ?_; refine gx_then_ret ?_; refine gx_block_ret ?_; refine gx_then_ret ?_; rotate_left; refine gc_skip ?_; refine gx_next ?_; refine gc_seq ?_; refine gc_region ?_; apply gw_d; exact det_m rfl rfl (by conv => (lhs; whnf)); apply gw_d; exact w_field rfl rfl rfl; apply gw_d; exact w_load_box rfl rfl rfl .here rfl; rotate_left)
    all_goals first | (exfalso; omega) | skip
    refine gw_ent (K := Deep x.2.2 rEdge (.slice x.1 l.length x.2.1) l :: Box _ _ _ :: Own _ _ _ _ _ _ :: Box _ _ _ :: []) (Sub.ent (.cons (.there (.there .here)) (.cons .here (.cons .here (.cons .here .nil))))) ?_
    refine gw_pick (fun w' s => deep_at (i := ed) hel w w' s) (fun a ha => ?_)
    obtain ⟨x1, x2, xS⟩ := x
    dsimp only at ha ⊢
    subst ha
    have hLen2 : ∀ (L : List Res) (w' : World), St w (DeepAt xS (.slice (some a.1) l.length x2) l ed a :: L) w' → Ok Tryz.prog 91 [.slice a.2.1 (gE l ed).2.length a.2.2].toArray w' fun r _ => r = .tuple #[.int .i64 (lenL (gE l ed).2), .int .i64 0] := fun L w' s => length_ok w' _ _ (SlS.grow (fun b hb => (s.sep.fp _ List.mem_cons_self b hb).2) s.head.2.2.2.2) (edges_lines h0 ed hel)
    have hcd : ∀ (L : List Res) (w' : World), St w (DeepAt xS (.slice (some a.1) l.length x2) l ed a :: L) w' → w'.cell? ((a.1.add (ed * 2)).add 1) = some (.slice a.2.1 (gE l ed).2.length a.2.2) := fun L w' s => by rw [add_add]; exact s.head.2.2.2.1 1 _ rfl
    have hlr := lenL_range (line_good (edges_lines h0 ed hel))
    focus (apply gw_d; exact w_index (m := ed) rfl rfl rfl rfl hed hel; apply gw_d; exact w_field rfl rfl rfl; apply gw_d; exact det_load rfl rfl rfl (fun w' s => run_loadVar1 CNotAgg.h (hcd _ w' s)); apply gw_d; exact w_call rfl rfl (hLen2 _) rfl; apply gw_d; exact det_m rfl rfl (by conv => (lhs; whnf)); apply gw_d; exact det_extract rfl rfl rfl (by conv => (lhs; whnf)); apply gw_d; exact det_extract rfl rfl rfl (by conv => (lhs; whnf)); apply gw_d; exact det_m rfl rfl (by conv => (lhs; whnf)); apply gw_d; exact det_m rfl rfl (by conv => (lhs; whnf)); refine gw_nil ?_; refine gx_next ?_; refine gc_seq ?_; refine gc_seq ?_; refine gc_region ?_; apply gw_d; exact det_m rfl rfl (by conv => (lhs; whnf)); apply gw_d; exact det_cmp rfl rfl rfl rfl rfl; refine gw_nil ?_; refine gx_next ?_; refine gc_if_dec rfl (fun _ => ?_) (fun _ => ?_); refine gc_seq ?_; refine gc_region ?_; apply gw_d; exact det_m rfl rfl (by conv => (lhs; whnf)); apply gw_d; exact det_m rfl rfl (by conv => (lhs; whnf)); apply gw_d; exact det_m rfl rfl (by conv => (lhs; whnf)); apply gw_d; exact det_m rfl rfl (by conv => (lhs; whnf)); refine gw_nil ?_; refine gx_next ?_; refine gc_ret ?_; refine gx_then_ret ?_; refine gx_block_ret ?_; refine gx_then_ret ?_; refine gx_then_ret ?_; refine gx_block_ret ?_; refine gx_then_ret ?_; rotate_left; refine gc_skip ?_; refine gx_next ?_; refine gc_seq ?_; refine gc_region ?_; apply gw_d; exact det_m rfl rfl (by conv => (lhs; whnf)); apply gw_d; exact det_m rfl rfl (by conv => (lhs; whnf)); apply gw_d; exact w_field rfl rfl rfl; apply gw_d; exact w_load_box rfl rfl rfl (.there .here) rfl; rotate_left)
    all_goals first | (exfalso; omega) | skip
    have htn : nk.1.toNat = ed := by omega
    rw [htn] at hF
    by_cases hat : nk.2 < 0 ∨ nk.2 > lenL (gE l ed).2
    · rw [if_pos hat] at hF
      rw [hstop hF]
      focus (apply gw_d; exact w_call rfl rfl (fun w' _ => partner_bad w' _ _ (by omega) hat) rfl; apply gw_d; exact det_m rfl rfl (by conv => (lhs; whnf)); apply gw_d; exact det_extract rfl rfl rfl (by conv => (lhs; whnf)); apply gw_d; exact det_extract rfl rfl rfl (by conv => (lhs; whnf)); apply gw_d; exact det_m rfl rfl (by conv => (lhs; whnf)); apply gw_d; exact det_m rfl rfl (by conv => (lhs; whnf)); refine gw_nil ?_; refine gx_next ?_; refine gc_seq ?_; refine gc_seq ?_; refine gc_region ?_; apply gw_d; exact det_m rfl rfl (by conv => (lhs; whnf)); apply gw_d; exact det_cmp rfl rfl rfl rfl rfl; refine gw_nil ?_; refine gx_next ?_; refine gc_if_dec rfl (fun _ => ?_) (fun _ => ?_); refine gc_seq ?_; refine gc_region ?_; apply gw_d; exact det_m rfl rfl (by conv => (lhs; whnf)); apply gw_d; exact det_m rfl rfl (by conv => (lhs; whnf)); apply gw_d; exact det_m rfl rfl (by conv => (lhs; whnf)); apply gw_d; exact det_m rfl rfl (by conv => (lhs; whnf)); refine gw_nil ?_; refine gx_next ?_; refine gc_ret ?_; refine gx_then_ret ?_; refine gx_block_ret ?_; refine gx_then_ret ?_; refine gx_then_ret ?_; refine gx_block_ret ?_; refine gx_then_ret ?_; rotate_left; refine gc_skip ?_; refine gx_next ?_; refine gc_region ?_; apply gw_d; exact det_m rfl rfl (by conv => (lhs; whnf)); apply gw_d; exact det_m rfl rfl (by conv => (lhs; whnf)); rotate_left)
      all_goals first | (exfalso; omega) | skip
      all_goals (refine gx_ret3 (u := .slice _ _ _) (v := .slice _ _ _) (x := .int _ _) rfl rfl rfl rfl (fun _ _ => ?_); exact ⟨((none, 0, 0), (none, 0, 0)), rfl, trivial⟩)
    rw [if_neg hat] at hF
    obtain ⟨LN, hLN⟩ : ∃ n : Nat, lenL (gE l ed).2 = (n : Int) := ⟨(lenL (gE l ed).2).toNat, by omega⟩
    obtain ⟨aN, haN⟩ : ∃ n : Nat, nk.2 = (n : Int) := ⟨nk.2.toNat, by omega⟩
    rw [hLN, haN]
    focus (skip)
    refine gw_callm rfl (fun w s => partner_ok w LN aN (by omega) (by omega)) rfl (fun p => ?_)
    focus (apply gw_d; exact det_m rfl rfl (by conv => (lhs; whnf)); apply gw_d; exact det_extract rfl rfl rfl (by conv => (lhs; whnf)); apply gw_d; exact det_extract rfl rfl rfl (by conv => (lhs; whnf)); apply gw_d; exact det_m rfl rfl (by conv => (lhs; whnf)); apply gw_d; exact det_m rfl rfl (by conv => (lhs; whnf)); refine gw_nil ?_; refine gx_next ?_; refine gc_seq ?_; refine gc_seq ?_; refine gc_region ?_; apply gw_d; exact det_m rfl rfl (by conv => (lhs; whnf)); apply gw_d; exact det_cmp rfl rfl rfl rfl rfl; refine gw_nil ?_; refine gx_next ?_; refine gc_if_dec rfl (fun _ => ?_) (fun _ => ?_); refine gc_seq ?_; refine gc_region ?_; apply gw_d; exact det_m rfl rfl (by conv => (lhs; whnf)); apply gw_d; exact det_m rfl rfl (by conv => (lhs; whnf)); apply gw_d; exact det_m rfl rfl (by conv => (lhs; whnf)); apply gw_d; exact det_m rfl rfl (by conv => (lhs; whnf)); refine gw_nil ?_; refine gx_next ?_; refine gc_ret ?_; refine gx_then_ret ?_; refine gx_block_ret ?_; refine gx_then_ret ?_; refine gx_then_ret ?_; refine gx_block_ret ?_; refine gx_then_ret ?_; rotate_left; refine gc_skip ?_; refine gx_next ?_; refine gc_region ?_; apply gw_d; exact det_m rfl rfl (by conv => (lhs; whnf)); apply gw_d; exact det_m rfl rfl (by conv => (lhs; whnf)); rotate_left)
    all_goals first | (exfalso; omega) | skip
    refine gw_bslice1 (v := .int .i64 p) rfl rfl rfl rfl rfl (fun bb => ?_)
    refine gw_append (news := [.int .i64 p]) rfl rfl rfl (.there (.there (.there .here))) rfl (fun w' s _ => ?_) (fun u hu => ?_) (by unfold maxLen; omega) (by omega) (by decide) rfl (fun A3 c3 => ?_)
    · refine ⟨⟨bb, 0, none⟩, rfl, fun i u hu => ?_⟩
      rw [add_zero]
      refine (Box.cell s.head i).trans ?_
      change (#[Value.int .i64 p] : Array Value)[i]? = some u
      rw [List.getElem?_toArray]
      exact hu
    · rw [List.mem_singleton] at hu
      subst hu
      rfl
    · focus (apply gw_d; exact det_m rfl rfl (by conv => (lhs; whnf)); refine gw_nil ?_; refine gx_block ?_; refine gx_next ?_; refine gc_region ?_; apply gw_d; exact det_ar rfl rfl rfl rfl rfl (by omega); apply gw_d; exact det_m rfl rfl (by conv => (lhs; whnf)); refine gw_nil ?_)
      refine gx_roundE (k + 1, A3, c3, pls ++ [p]) ⟨hkn, by simp [hpl], firstE_snoc hI hF⟩ (by dsimp only; omega) (by repeat (first | exact Keeps.refl | refine Keeps.upd rfl ?_ | refine Keeps.sets rfl ?_ | refine Keeps.havoc rfl ?_)) ⟨rfl, by rw [List.length_append]; rfl, trivial⟩ ?_
      dsimp only
      rw [List.length_append, List.map_append]
      exact Ent.trans (Sub.ent (.cons (.there (.there .here)) (.cons .here (.cons (.there (.there .here)) .nil)))) (Ent.trans (fun w0 w s => s.same (q := Deep xS rEdge (.slice (some a.1) l.length x2) l) (fun b hb => hb) s.head.1) (Sub.ent (.cons (.there .here) (.cons .here (.cons .here .nil)))))
  · obtain rfl : k = ns.length := by omega
    focus (refine gc_exit ?_; refine gx_then_exit ?_; refine gx_then_exit ?_; refine gx_block_exit ?_; refine gx_next ?_; refine gc_seq ?_; refine gc_region ?_; apply gw_d; exact det_m rfl rfl (by conv => (lhs; whnf)); apply gw_d; exact det_m rfl rfl (by conv => (lhs; whnf)); apply gw_d; exact det_m rfl rfl (by conv => (lhs; whnf)); apply gw_d; exact det_m rfl rfl (by conv => (lhs; whnf)); apply gw_d; exact det_m rfl rfl (by conv => (lhs; whnf)); refine gw_nil ?_; refine gx_next ?_; refine gc_ret ?_)
    refine gx_ret3 (u := .slice _ _ _) (v := .slice _ _ _) (x := .int _ _) rfl rfl rfl rfl (fun _ _ => ?_)
    exact ⟨((A, pls.length, c), (x.1, l.length, x.2.1)), by rw [hI], trivial⟩
end Go.Proofs.YteiboodeepjanaaGreat
