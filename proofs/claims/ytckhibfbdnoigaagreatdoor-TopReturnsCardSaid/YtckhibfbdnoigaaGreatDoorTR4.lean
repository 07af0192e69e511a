/- Texts in one file: N9 N10 C14 C15 C17 C18 C19 C20 S1 W4 W5 W6. -/
import Derived.Test.YtckhibfbdnoigaaGreatDoorTR3
import Derived.Test.YtckhibfbdnoigaaGreatDoorTR2
/- Contracts: the places of notches. -/
namespace Go.Proofs.YtckhibfbdnoigaaGreatDoor
open Go.RowKit
set_option maxRecDepth 100000
set_option maxHeartbeats 8000000

def notchF (l : List Edg) (ns : List (Int × Int)) (k : Nat) : Int := match ns[k]? with
  | some n => if n.1 < 0 ∨ n.1 ≥ l.length then 3 else if n.2 < 0 ∨ n.2 > lenL (gE l n.1.toNat).2 then 3 else 0
  | none => 0
def placedE (l : List Edg) (cs ns : List (Int × Int)) : Int := if ¬ gradedE l cs = 0 then gradedE l cs else if ns.length > 16 then 5 else firstE (notchF l ns) ns.length
theorem edges_lines {l : List Edg} {cs : List (Int × Int)} (h : gradedE l cs = 0) : ∀ k, k < l.length → plineE (gE l k).2 = 0 := fun k hk => by
  unfold gradedE at h
  split at h
  · cases h
  split at h
  · cases h
  unfold outlineE at h
  split at h
  · cases h
  split at h
  · cases h
  split at h
  · rename_i h1
    have h2 := firstE_at h1 k hk
    unfold edgeE at h2
    split at h2
    · split at h2
      · cases h2
      · exact h2
    · cases h2
  · rename_i h1; exact absurd h h1
section
variable {P : Program} {ops : Array Oper} {Q : Exit → Act → World → Prop} {N : Nat} {w0 : World} {L : List Res} {rest : List Oper} {e : Env}
theorem gw_pick {α : Type} {φ : α → Prop} {K : α → List Res} (h : ∀ w, St w0 L w → ∃ a, φ a ∧ St w0 (K a) w) (k : ∀ a, φ a → GW P ops Q N w0 (K a) rest e) : GW P ops Q N w0 L rest e := ⟨fun w s => by
  obtain ⟨a, hp, ha⟩ := h w s
  exact (k a hp).h w ha⟩
end
/-- Edges that the function has made, with the cells of one of them known. -/
def DeepAt (S : Nat → Prop) (v : Value) (l : List Edg) (i : Nat) (a : Addr × Option Addr × Nat) : Res :=
  ⟨S, fun w => SlS rEdge w S v l ∧ S a.1.block ∧ v = .slice (some a.1) l.length (match v with | .slice _ _ c => c | _ => 0) ∧ (∀ j u, [Value.string (gE l i).1, Value.slice a.2.1 (gE l i).2.length a.2.2][j]? = some u → w.cell? (a.1.add (i * 2 + j)) = some u) ∧ SlS rSpot w S (.slice a.2.1 (gE l i).2.length a.2.2) (gE l i).2,
    fun _ _ h p => ⟨SlS.mono h p.1, p.2.1, p.2.2.1, fun j u hu => (cell_same (by rw [add_block]; exact h _ p.2.1)).trans (p.2.2.2.1 j u hu), SlS.mono h p.2.2.2.2⟩⟩
theorem deep_at {S : Nat → Prop} {A : Option Addr} {n c i : Nat} {l : List Edg} {L : List Res} (hi : i < l.length) (w0 w : World) (s : St w0 (Deep S rEdge (.slice A n c) l :: L) w) : ∃ a : Addr × Option Addr × Nat, A = some a.1 ∧ St w0 (DeepAt S (.slice A n c) l i a :: L) w := by
  have hd : SlS rEdge w S (.slice A n c) l := s.head
  have hd' := hd
  obtain ⟨A1, c1, hv, h1, h2, h3⟩ := hd
  obtain ⟨ad, cs, ha, hlt, hc, v2, rfl, hsz, hs2⟩ := h3 i hi
  have hs3 := hs2
  obtain ⟨A2, c2, rfl, _⟩ := hs2
  injection hv with e1 e2 e3
  subst e1 e2 e3 ha
  rw [← gE_get hi] at hc hs3
  exact ⟨(ad, A2, c2), rfl, s.same (fun b hb => hb) ⟨hd', hlt, rfl, hc, hs3⟩⟩
theorem placed_ok (w : World) (nm : ByteArray) (g : Int) (m : Bool) (Ae An Ac Aw : Option Addr) (ce cn cc nw cw : Nat) (l : List Edg) (cs ns : List (Int × Int))
    (hl : Sl rEdge w w.heap.size (.slice Ae l.length ce) l) (hns : Sl rSpot w w.heap.size (.slice An ns.length cn) ns) (hcs : Sl rSpot w w.heap.size (.slice Ac cs.length cc) cs) :
    OkM Tryz.prog 120 [.agg #[.string nm, .slice Ae l.length ce, .int .i64 g, .slice An ns.length cn, .slice Ac cs.length cc, .slice Aw nw cw, .bool m], .int .i64 0].toArray w
      (fun x : (Option Addr × Nat × Nat) × (Option Addr × Nat × Nat) => .tuple #[.slice x.1.1 x.1.2.1 x.1.2.2, .slice x.2.1 x.2.2.1 x.2.2.2, .int .i64 (placedE l cs ns)]) (fun _ => []) := by
  unfold OkM
  refine ok_enter Tryz.func120 rfl Tryz.ntmps120 rfl ?_
  focus (refine gc_seq ?_; refine gc_region ?_; refine gw_boxd (v := .agg _) rfl rfl (fun _ => ?_); refine gM rfl rfl (by conv => (lhs; whnf)) ?_; refine gM rfl rfl (by conv => (lhs; whnf)) ?_; refine gM rfl rfl (by conv => (lhs; whnf)) ?_; refine gN ?_; apply gw_d; exact w_load_boxN rfl rfl rfl .here rfl; refine gM rfl rfl (by conv => (lhs; whnf)) ?_)
  refine gw_callm rfl (fun w s => graded_ok w nm g m _ _ _ _ _ _ _ _ _ _ l cs (hl.later s) (hcs.later s)) rfl (fun x => ?_)
  focus (refine gM rfl rfl (by conv => (lhs; whnf)) ?_; apply gw_d; exact det_extract rfl rfl rfl (by conv => (lhs; whnf)); apply gw_d; exact det_extract rfl rfl rfl (by conv => (lhs; whnf)); refine gM rfl rfl (by conv => (lhs; whnf)) ?_; refine gM rfl rfl (by conv => (lhs; whnf)) ?_; refine gO ?_; refine gc_seq ?_; refine gc_seq ?_; refine gc_region ?_; refine gM rfl rfl (by conv => (lhs; whnf)) ?_; refine gC rfl rfl rfl rfl rfl ?_; refine gO ?_)
  refine gc_if_dec rfl (fun h => ?_) (fun h => ?_)
  · have hE : placedE l cs ns = gradedE l cs := by unfold placedE; rw [if_pos h]
    focus (refine gc_seq ?_; refine gc_region ?_; refine gM rfl rfl (by conv => (lhs; whnf)) ?_; refine gM rfl rfl (by conv => (lhs; whnf)) ?_; refine gM rfl rfl (by conv => (lhs; whnf)) ?_; refine gM rfl rfl (by conv => (lhs; whnf)) ?_; refine gO ?_; refine gc_ret ?_; refine gx_then_ret ?_)
    refine gx_ret3 (u := .slice _ _ _) (v := .slice _ _ _) (x := .int _ _) rfl rfl rfl rfl (fun _ _ => ?_)
    exact ⟨((none, 0, 0), (none, 0, 0)), by rw [hE], trivial⟩
  have h0 : gradedE l cs = 0 := by simpa using h
  rw [if_pos h0]
  simp only [if_pos h0]
  focus (refine gc_skip ?_; refine gx_next ?_; refine gc_seq ?_; refine gc_seq ?_; refine gc_region ?_; refine gF rfl rfl rfl ?_; apply gw_d; exact w_load_box rfl rfl rfl (.there .here) rfl; refine gL rfl rfl rfl ?_; refine gC rfl rfl rfl rfl rfl ?_; refine gO ?_)
  refine gc_if_dec rfl (fun h => ?_) (fun h16 => ?_)
  · have hE : placedE l cs ns = 5 := by unfold placedE; rw [if_neg (by rw [h0]; decide), if_pos (by omega)]
    focus (refine gc_seq ?_; refine gc_region ?_; refine gM rfl rfl (by conv => (lhs; whnf)) ?_; refine gM rfl rfl (by conv => (lhs; whnf)) ?_; refine gM rfl rfl (by conv => (lhs; whnf)) ?_; refine gO ?_; refine gc_ret ?_; refine gx_then_ret ?_)
    refine gx_ret3 (u := .slice _ _ _) (v := .slice _ _ _) (x := .int _ _) rfl rfl rfl rfl (fun _ _ => ?_)
    exact ⟨((none, 0, 0), (none, 0, 0)), by rw [hE], trivial⟩
  have hE : placedE l cs ns = firstE (notchF l ns) ns.length := by unfold placedE; rw [if_neg (by rw [h0]; decide), if_neg (by omega)]
  rw [hE]
  focus (refine gc_skip ?_; refine gx_next ?_; refine gc_seq ?_; refine gc_region ?_; refine gM rfl rfl (by conv => (lhs; whnf)) ?_; refine gO ?_; refine gc_seq ?_; refine gc_seq ?_; refine gc_region ?_; refine gF rfl rfl rfl ?_; apply gw_d; exact w_load_box rfl rfl rfl (.there .here) rfl; refine gL rfl rfl rfl ?_; refine gM rfl rfl (by conv => (lhs; whnf)) ?_; refine gO ?_; refine gc_block ?_)
  rename_i bp
  refine gc_own0 3 1 ?_
  refine gc_loop (σ := Nat × Option Addr × Nat × List Int) [33, 34, 35, 11, 36, 37, 38, 39, 40, 41, 42, 43, 44, 45, 46, 4, 5, 6, 48, 49, 50, 51, 52, 53, 54, 55, 47, 56, 57, 12, 13, 58, 59, 60, 62, 63, 64, 65, 66, 67, 68, 61, 69, 70, 14, 71, 72, 73, 75, 76, 77, 78, 79, 74, 80, 81, 15, 82, 83, 84, 85, 86, 87, 88, 9, 89, 32] (fun s => [(32, .int .i64 s.1), (9, .slice s.2.1 s.2.2.2.length s.2.2.1)]) (fun s => [Own s.2.1 s.2.2.2.length s.2.2.1 3 1 (s.2.2.2.map (Value.int .i64)), Deep x.2.2 rEdge (.slice x.1 l.length x.2.1) l, Box bp 113 #[.string nm, .slice Ae l.length ce, .int .i64 g, .slice An ns.length cn, .slice Ac cs.length cc, .slice Aw nw cw, .bool m]]) (fun s => s.1 ≤ ns.length ∧ s.2.2.2.length = s.1 ∧ firstE (notchF l ns) s.1 = 0) (fun s => ns.length - s.1) (0, none, 0, []) ⟨Nat.zero_le _, rfl, rfl⟩ ⟨rfl, rfl, trivial⟩ (.cons .here (.cons .here (.cons .here .nil))) ?_
  rintro ⟨k, A, c, pls⟩ base ⟨hk, hpl, hI⟩
  dsimp only at hk hpl hI ⊢
  focus (refine gc_seq ?_; refine gc_region ?_; refine gC rfl rfl rfl rfl rfl ?_; refine gO ?_; refine gc_seq ?_)
  refine gc_if_dec rfl (fun h2 => ?_) (fun h2 => ?_)
  · have hkn : k < ns.length := by omega
    obtain ⟨adn, _, hv, _, _, hbn, hncell⟩ := hns.spot' (by omega)
    injection hv with e1 e2 e3
    subst e1 e3
    have hcn := hncell k hkn
    have hF : notchF l ns k = if (gS ns k).1 < 0 ∨ (gS ns k).1 ≥ l.length then 3 else if (gS ns k).2 < 0 ∨ (gS ns k).2 > lenL (gE l (gS ns k).1.toNat).2 then 3 else 0 := by
      unfold notchF
      rw [List.getElem?_eq_getElem hkn, gS_get hkn]
    have hstop : notchF l ns k = 3 → firstE (notchF l ns) ns.length = 3 := fun h3 => by
      have := firstE_stop hI (by rw [h3]; decide) hkn
      rw [this, h3]
    generalize gS ns k = nk at *
    focus (refine gc_skip ?_; refine gx_next ?_; refine gc_seq ?_; refine gc_block ?_; refine gc_seq ?_; refine gc_region ?_; apply gw_d; exact w_index rfl rfl rfl rfl (by with_reducible exact rfl) (by omega); apply gw_d; exact w_load_elem rfl rfl rfl (by assumption) (by assumption) (by rfl); refine w_alloc rfl (fun _ => ?_); refine w_store_all rfl rfl rfl rfl rfl .here rfl ?_; refine gO ?_; refine gc_seq ?_; refine gc_seq ?_; refine gc_region ?_; refine gF rfl rfl rfl ?_; apply gw_d; exact w_load_box rfl rfl rfl .here rfl; refine gC rfl rfl rfl rfl rfl ?_; refine gM rfl rfl (by conv => (lhs; whnf)) ?_)
    by_cases hc : nk.1 < 0 ∨ nk.1 ≥ l.length
    · rw [if_pos hc] at hF
      rw [hstop hF]
      focus (refine gw_guard_dec rfl rfl (fun _ => ?_) (fun _ => ?_); refine gU rfl ?_; refine gU rfl ?_; refine gU rfl ?_; refine gU rfl ?_; refine gU rfl ?_; refine gU rfl ?_; apply gw_d; exact det_pick_t (v := .bool _) rfl rfl rfl rfl; refine gO ?_; refine gc_if_true rfl ?_; refine gc_seq ?_; refine gc_region ?_; refine gM rfl rfl (by conv => (lhs; whnf)) ?_; refine gM rfl rfl (by conv => (lhs; whnf)) ?_; refine gM rfl rfl (by conv => (lhs; whnf)) ?_; refine gO ?_; refine gc_ret ?_; refine gx_then_ret ?_; refine gx_block_ret ?_; refine gx_then_ret ?_; refine gx_then_ret ?_; refine gx_block_ret ?_; refine gx_then_ret ?_; rotate_left; refine gF rfl rfl rfl ?_; apply gw_d; exact w_load_box rfl rfl rfl .here rfl; refine gF rfl rfl rfl ?_; apply gw_d; exact w_load_box rfl rfl rfl (.there (.there (.there .here))) rfl; refine gL rfl rfl rfl ?_; refine gC rfl rfl rfl rfl rfl ?_; apply gw_d; exact det_pick_f (v := .bool _) rfl rfl rfl rfl; refine gO ?_; refine gc_if_dec rfl (fun _ => ?_) (fun _ => ?_); refine gc_seq ?_; refine gc_region ?_; refine gM rfl rfl (by conv => (lhs; whnf)) ?_; refine gM rfl rfl (by conv => (lhs; whnf)) ?_; refine gM rfl rfl (by conv => (lhs; whnf)) ?_; refine gO ?_; refine gc_ret ?_; refine gx_then_ret ?_; refine gx_block_ret ?_; refine gx_then_ret ?_; refine gx_then_ret ?_; refine gx_block_ret ?_; refine gx_then_ret ?_; rotate_left; refine gc_skip ?_; refine gx_next ?_; refine gc_seq ?_; refine gc_region ?_; refine gF rfl rfl rfl ?_; apply gw_d; exact w_load_box rfl rfl rfl (.there (.there (.there .here))) rfl; refine gF rfl rfl rfl ?_; apply gw_d; exact w_load_box rfl rfl rfl .here rfl; rotate_left)
      all_goals first | (exfalso; omega) | skip
      all_goals (refine gx_ret3 (u := .slice _ _ _) (v := .slice _ _ _) (x := .int _ _) rfl rfl rfl rfl (fun _ _ => ?_); exact ⟨((none, 0, 0), (none, 0, 0)), rfl, trivial⟩)
    rw [if_neg hc] at hF
    obtain ⟨ed, hed⟩ : ∃ ed : Nat, nk.1 = (ed : Int) := ⟨nk.1.toNat, by omega⟩
    have hel : ed < l.length := by omega
    obtain ⟨ade, _, hv, _, _, hbe, hecell⟩ := hl.edge' (by omega)
    injection hv with e1 e2 e3
    subst e1 e3
    obtain ⟨A', c', hcE, _, _, _, hline⟩ := hecell ed hel
    have hcE1 := hcE 1 _ rfl
    have hLen : ∀ (L : List Res) (w' : World), St w L w' → Ok Tryz.prog 143 [.slice A' (gE l ed).2.length c'].toArray w' fun r _ => r = .tuple #[.int .i64 (lenL (gE l ed).2), .int .i64 0] := fun L w' s => length_ok w' _ _ (hline.later s) (edges_lines h0 ed hel)
    focus (refine gw_guard_dec rfl rfl (fun _ => ?_) (fun _ => ?_); refine gU rfl ?_; refine gU rfl ?_; refine gU rfl ?_; refine gU rfl ?_; refine gU rfl ?_; refine gU rfl ?_; apply gw_d; exact det_pick_t (v := .bool _) rfl rfl rfl rfl; refine gO ?_; refine gc_if_true rfl ?_; refine gc_seq ?_; refine gc_region ?_; refine gM rfl rfl (by conv => (lhs; whnf)) ?_; refine gM rfl rfl (by conv => (lhs; whnf)) ?_; refine gM rfl rfl (by conv => (lhs; whnf)) ?_; refine gO ?_; refine gc_ret ?_; refine gx_then_ret ?_; refine gx_block_ret ?_; refine gx_then_ret ?_; refine gx_then_ret ?_; refine gx_block_ret ?_; refine gx_then_ret ?_; rotate_left; refine gF rfl rfl rfl ?_; apply gw_d; exact w_load_box rfl rfl rfl .here rfl; refine gF rfl rfl rfl ?_; apply gw_d; exact w_load_box rfl rfl rfl (.there (.there (.there .here))) rfl; refine gL rfl rfl rfl ?_; refine gC rfl rfl rfl rfl rfl ?_; apply gw_d; exact det_pick_f (v := .bool _) rfl rfl rfl rfl; refine gO ?_; refine gc_if_dec rfl (fun _ => ?_) (fun _ => ?_); refine gc_seq ?_; refine gc_region ?_; refine gM rfl rfl (by conv => (lhs; whnf)) ?_; refine gM rfl rfl (by conv => (lhs; whnf)) ?_; refine gM rfl rfl (by conv => (lhs; whnf)) ?_; refine gO ?_; refine gc_ret ?_; refine gx_then_ret ?_; refine gx_block_ret ?_; refine gx_then_ret ?_; refine gx_then_ret ?_; refine gx_block_ret ?_; refine gx_then_ret ?_; rotate_left; refine gc_skip ?_; refine gx_next ?_; refine gc_seq ?_; refine gc_region ?_; refine gF rfl rfl rfl ?_; apply gw_d; exact w_load_box rfl rfl rfl (.there (.there (.there .here))) rfl; refine gF rfl rfl rfl ?_; apply gw_d; exact w_load_box rfl rfl rfl .here rfl; apply gw_d; exact w_index (m := ed) rfl rfl rfl rfl hed hel; refine gF rfl rfl rfl ?_; apply gw_d; exact w_load_fld rfl rfl rfl (by assumption) (by assumption); apply gw_d; exact w_call rfl rfl (hLen _) rfl; refine gM rfl rfl (by conv => (lhs; whnf)) ?_; apply gw_d; exact det_extract rfl rfl rfl (by conv => (lhs; whnf)); apply gw_d; exact det_extract rfl rfl rfl (by conv => (lhs; whnf)); refine gM rfl rfl (by conv => (lhs; whnf)) ?_; refine gM rfl rfl (by conv => (lhs; whnf)) ?_; refine gO ?_; refine gc_seq ?_; refine gc_seq ?_; refine gc_region ?_; refine gM rfl rfl (by conv => (lhs; whnf)) ?_; refine gC rfl rfl rfl rfl rfl ?_; refine gO ?_; refine gc_if_dec rfl (fun _ => ?_) (fun _ => ?_); refine gc_seq ?_; refine gc_region ?_; refine gM rfl rfl (by conv => (lhs; whnf)) ?_; refine gM rfl rfl (by conv => (lhs; whnf)) ?_; refine gM rfl rfl (by conv => (lhs; whnf)) ?_; refine gM rfl rfl (by conv => (lhs; whnf)) ?_; refine gO ?_; refine gc_ret ?_; refine gx_then_ret ?_; refine gx_block_ret ?_; refine gx_then_ret ?_; refine gx_then_ret ?_; refine gx_block_ret ?_; refine gx_then_ret ?_; rotate_left; refine gc_skip ?_; refine gx_next ?_; refine gc_seq ?_; refine gc_region ?_; refine gM rfl rfl (by conv => (lhs; whnf)) ?_; refine gF rfl rfl rfl ?_; apply gw_d; exact w_load_box rfl rfl rfl .here rfl; rotate_left)
    all_goals first | (exfalso; omega) | skip
    refine gw_ent (K := Deep x.2.2 rEdge (.slice x.1 l.length x.2.1) l :: Box _ _ _ :: Own _ _ _ _ _ _ :: Box _ _ _ :: []) (Sub.ent (.cons (.there (.there .here)) (.cons .here (.cons .here (.cons .here .nil))))) ?_
    refine gw_pick (fun w' s => deep_at (i := ed) hel w w' s) (fun a ha => ?_)
    obtain ⟨x1, x2, xS⟩ := x
    dsimp only at ha ⊢
    subst ha
    have hLen2 : ∀ (L : List Res) (w' : World), St w (DeepAt xS (.slice (some a.1) l.length x2) l ed a :: L) w' → Ok Tryz.prog 143 [.slice a.2.1 (gE l ed).2.length a.2.2].toArray w' fun r _ => r = .tuple #[.int .i64 (lenL (gE l ed).2), .int .i64 0] := fun L w' s => length_ok w' _ _ (SlS.grow (fun b hb => (s.sep.fp _ List.mem_cons_self b hb).2) s.head.2.2.2.2) (edges_lines h0 ed hel)
    have hcd : ∀ (L : List Res) (w' : World), St w (DeepAt xS (.slice (some a.1) l.length x2) l ed a :: L) w' → w'.cell? ((a.1.add (ed * 2)).add 1) = some (.slice a.2.1 (gE l ed).2.length a.2.2) := fun L w' s => by rw [add_add]; exact s.head.2.2.2.1 1 _ rfl
    have hlr := lenL_range (line_good (edges_lines h0 ed hel))
    focus (apply gw_d; exact w_index (m := ed) rfl rfl rfl rfl hed hel; refine gF rfl rfl rfl ?_; apply gw_d; exact det_load rfl rfl rfl (fun w' s => run_loadVar1 CNotAgg.h (hcd _ w' s)); apply gw_d; exact w_call rfl rfl (hLen2 _) rfl; refine gM rfl rfl (by conv => (lhs; whnf)) ?_; apply gw_d; exact det_extract rfl rfl rfl (by conv => (lhs; whnf)); apply gw_d; exact det_extract rfl rfl rfl (by conv => (lhs; whnf)); refine gM rfl rfl (by conv => (lhs; whnf)) ?_; refine gM rfl rfl (by conv => (lhs; whnf)) ?_; refine gO ?_; refine gc_seq ?_; refine gc_seq ?_; refine gc_region ?_; refine gM rfl rfl (by conv => (lhs; whnf)) ?_; refine gC rfl rfl rfl rfl rfl ?_; refine gO ?_; refine gc_if_dec rfl (fun _ => ?_) (fun _ => ?_); refine gc_seq ?_; refine gc_region ?_; refine gM rfl rfl (by conv => (lhs; whnf)) ?_; refine gM rfl rfl (by conv => (lhs; whnf)) ?_; refine gM rfl rfl (by conv => (lhs; whnf)) ?_; refine gM rfl rfl (by conv => (lhs; whnf)) ?_; refine gO ?_; refine gc_ret ?_; refine gx_then_ret ?_; refine gx_block_ret ?_; refine gx_then_ret ?_; refine gx_then_ret ?_; refine gx_block_ret ?_; refine gx_then_ret ?_; rotate_left; refine gc_skip ?_; refine gx_next ?_; refine gc_seq ?_; refine gc_region ?_; refine gM rfl rfl (by conv => (lhs; whnf)) ?_; refine gM rfl rfl (by conv => (lhs; whnf)) ?_; refine gF rfl rfl rfl ?_; apply gw_d; exact w_load_box rfl rfl rfl (.there .here) rfl; rotate_left)
    all_goals first | (exfalso; omega) | skip
    have htn : nk.1.toNat = ed := by omega
    rw [htn] at hF
    by_cases hat : nk.2 < 0 ∨ nk.2 > lenL (gE l ed).2
    · rw [if_pos hat] at hF
      rw [hstop hF]
      focus (apply gw_d; exact w_call rfl rfl (fun w' _ => partner_bad w' _ _ (by omega) hat) rfl; refine gM rfl rfl (by conv => (lhs; whnf)) ?_; apply gw_d; exact det_extract rfl rfl rfl (by conv => (lhs; whnf)); apply gw_d; exact det_extract rfl rfl rfl (by conv => (lhs; whnf)); refine gM rfl rfl (by conv => (lhs; whnf)) ?_; refine gM rfl rfl (by conv => (lhs; whnf)) ?_; refine gO ?_; refine gc_seq ?_; refine gc_seq ?_; refine gc_region ?_; refine gM rfl rfl (by conv => (lhs; whnf)) ?_; refine gC rfl rfl rfl rfl rfl ?_; refine gO ?_; refine gc_if_dec rfl (fun _ => ?_) (fun _ => ?_); refine gc_seq ?_; refine gc_region ?_; refine gM rfl rfl (by conv => (lhs; whnf)) ?_; refine gM rfl rfl (by conv => (lhs; whnf)) ?_; refine gM rfl rfl (by conv => (lhs; whnf)) ?_; refine gM rfl rfl (by conv => (lhs; whnf)) ?_; refine gO ?_; refine gc_ret ?_; refine gx_then_ret ?_; refine gx_block_ret ?_; refine gx_then_ret ?_; refine gx_then_ret ?_; refine gx_block_ret ?_; refine gx_then_ret ?_; rotate_left; refine gc_skip ?_; refine gx_next ?_; refine gc_region ?_; refine gM rfl rfl (by conv => (lhs; whnf)) ?_; refine gM rfl rfl (by conv => (lhs; whnf)) ?_; rotate_left)
      all_goals first | (exfalso; omega) | skip
      all_goals (refine gx_ret3 (u := .slice _ _ _) (v := .slice _ _ _) (x := .int _ _) rfl rfl rfl rfl (fun _ _ => ?_); exact ⟨((none, 0, 0), (none, 0, 0)), rfl, trivial⟩)
    rw [if_neg hat] at hF
    obtain ⟨LN, hLN⟩ : ∃ n : Nat, lenL (gE l ed).2 = (n : Int) := ⟨(lenL (gE l ed).2).toNat, by omega⟩
    obtain ⟨aN, haN⟩ : ∃ n : Nat, nk.2 = (n : Int) := ⟨nk.2.toNat, by omega⟩
    rw [hLN, haN]
    focus (skip)
    refine gw_callm rfl (fun w s => partner_ok w LN aN (by omega) (by omega)) rfl (fun p => ?_)
    focus (refine gM rfl rfl (by conv => (lhs; whnf)) ?_; apply gw_d; exact det_extract rfl rfl rfl (by conv => (lhs; whnf)); apply gw_d; exact det_extract rfl rfl rfl (by conv => (lhs; whnf)); refine gM rfl rfl (by conv => (lhs; whnf)) ?_; refine gM rfl rfl (by conv => (lhs; whnf)) ?_; refine gO ?_; refine gc_seq ?_; refine gc_seq ?_; refine gc_region ?_; refine gM rfl rfl (by conv => (lhs; whnf)) ?_; refine gC rfl rfl rfl rfl rfl ?_; refine gO ?_; refine gc_if_dec rfl (fun _ => ?_) (fun _ => ?_); refine gc_seq ?_; refine gc_region ?_; refine gM rfl rfl (by conv => (lhs; whnf)) ?_; refine gM rfl rfl (by conv => (lhs; whnf)) ?_; refine gM rfl rfl (by conv => (lhs; whnf)) ?_; refine gM rfl rfl (by conv => (lhs; whnf)) ?_; refine gO ?_; refine gc_ret ?_; refine gx_then_ret ?_; refine gx_block_ret ?_; refine gx_then_ret ?_; refine gx_then_ret ?_; refine gx_block_ret ?_; refine gx_then_ret ?_; rotate_left; refine gc_skip ?_; refine gx_next ?_; refine gc_region ?_; refine gM rfl rfl (by conv => (lhs; whnf)) ?_; refine gM rfl rfl (by conv => (lhs; whnf)) ?_; rotate_left)
    all_goals first | (exfalso; omega) | skip
    refine gw_bslice1 (v := .int .i64 p) rfl rfl rfl rfl rfl (fun bb => ?_)
    refine gw_append (news := [.int .i64 p]) rfl rfl rfl (.there (.there (.there .here))) rfl (fun w' s _ => ?_) (fun u hu => ?_) (by unfold maxLen; omega) (by omega) (by decide) rfl (fun A3 c3 => ?_)
    · refine ⟨⟨bb, 0, none⟩, rfl, fun i u hu => ?_⟩
      rw [add_zero]
      refine (Box.cell s.head i).trans ?_
      change (#[Value.int .i64 p] : Array Value)[i]? = some u
      rw [List.getElem?_toArray]
      exact hu
    · rw [List.mem_singleton] at hu
      subst hu
      rfl
    · focus (refine gM rfl rfl (by conv => (lhs; whnf)) ?_; refine gw_nil ?_; refine gx_block ?_; refine gx_next ?_; refine gc_region ?_; apply gw_d; exact det_ar rfl rfl rfl rfl rfl (by omega); refine gM rfl rfl (by conv => (lhs; whnf)) ?_; refine gw_nil ?_)
      refine gx_roundE (k + 1, A3, c3, pls ++ [p]) ⟨hkn, by simp [hpl], firstE_snoc hI hF⟩ (by dsimp only; omega) (by repeat (first | exact Keeps.refl | refine Keeps.upd rfl ?_ | refine Keeps.sets rfl ?_ | refine Keeps.havoc rfl ?_)) ⟨rfl, by rw [List.length_append]; rfl, trivial⟩ ?_
      dsimp only
      rw [List.length_append, List.map_append]
      exact Ent.trans (Sub.ent (.cons (.there (.there .here)) (.cons .here (.cons (.there (.there .here)) .nil)))) (Ent.trans (fun w0 w s => s.same (q := Deep xS rEdge (.slice (some a.1) l.length x2) l) (fun b hb => hb) s.head.1) (Sub.ent (.cons (.there .here) (.cons .here (.cons .here .nil)))))
  · obtain rfl : k = ns.length := by omega
    focus (refine gc_exit ?_; refine gx_then_exit ?_; refine gx_then_exit ?_; refine gx_block_exit ?_; refine gx_next ?_; refine gc_seq ?_; refine gc_region ?_; refine gM rfl rfl (by conv => (lhs; whnf)) ?_; refine gM rfl rfl (by conv => (lhs; whnf)) ?_; refine gM rfl rfl (by conv => (lhs; whnf)) ?_; refine gM rfl rfl (by conv => (lhs; whnf)) ?_; refine gM rfl rfl (by conv => (lhs; whnf)) ?_; refine gO ?_; refine gc_ret ?_)
    refine gx_ret3 (u := .slice _ _ _) (v := .slice _ _ _) (x := .int _ _) rfl rfl rfl rfl (fun _ _ => ?_)
    exact ⟨((A, pls.length, c), (x.1, l.length, x.2.1)), by rw [hI], trivial⟩
end Go.Proofs.YtckhibfbdnoigaaGreatDoor

/- Contracts: notch.Placed for every piece. -/
namespace Go.Proofs.YtckhibfbdnoigaaGreatDoor
open Go.RowKit
set_option maxRecDepth 100000
set_option maxHeartbeats 4000000

theorem Placed_ok (w : World) (nm : ByteArray) (g : Int) (m : Bool) (Ae An Ac Aw : Option Addr) (ce cn cc nw cw : Nat) (l : List Edg) (cs ns : List (Int × Int))
    (hl : Sl rEdge w w.heap.size (.slice Ae l.length ce) l) (hns : Sl rSpot w w.heap.size (.slice An ns.length cn) ns) (hcs : Sl rSpot w w.heap.size (.slice Ac cs.length cc) cs) :
    OkM Tryz.prog 104 [.agg #[.string nm, .slice Ae l.length ce, .int .i64 g, .slice An ns.length cn, .slice Ac cs.length cc, .slice Aw nw cw, .bool m], .int .i64 0].toArray w
      (fun x : Option Addr × Nat × Nat => .tuple #[.slice x.1 x.2.1 x.2.2, .int .i64 (placedE l cs ns)]) (fun _ => []) := by
  unfold OkM
  refine ok_enter Tryz.func104 rfl Tryz.ntmps104 rfl ?_
  (repeat (first | (apply gw_d; (first | exact det_not rfl | (apply of_move; exact rfl; first | exact det_m rfl rfl (by conv => (lhs; whnf))) | (apply of_field; exact rfl; first | exact w_field rfl rfl rfl) | (apply of_load; exact rfl; first | exact w_load_box rfl rfl rfl .here rfl | exact w_load_box rfl rfl rfl (.there .here) rfl | exact w_load_at rfl rfl rfl (by assumption) (by assumption) | exact w_load_fld rfl rfl rfl (by assumption) (by assumption) | exact w_load_box rfl rfl rfl (.there (.there .here)) rfl | exact w_load_box rfl rfl rfl (.there (.there (.there .here))) rfl | exact w_load_box rfl rfl rfl (.there (.there (.there (.there .here)))) rfl | exact w_load_boxN rfl rfl rfl .here rfl | exact w_load_boxN rfl rfl rfl (.there .here) rfl | exact w_load_boxN rfl rfl rfl (.there (.there .here)) rfl | exact w_load_boxN rfl rfl rfl (.there (.there (.there .here))) rfl | exact w_load_boxN rfl rfl rfl (.there (.there (.there (.there .here)))) rfl | exact w_load_elem rfl rfl rfl (by assumption) (by assumption) (by rfl) | exact w_load_part rfl rfl rfl .here rfl rfl | exact w_load_part rfl rfl rfl (.there .here) rfl rfl | exact w_load_part rfl rfl rfl (.there (.there .here)) rfl rfl | exact w_load_part rfl rfl rfl (.there (.there (.there .here))) rfl rfl | exact w_load_part rfl rfl rfl (.there (.there (.there (.there .here)))) rfl rfl) | (apply of_bin; exact rfl; first | exact det_cmp rfl rfl rfl rfl rfl | exact det_ar rfl rfl rfl rfl rfl (by omega) | exact w_eq2 rfl rfl rfl rfl | exact w_ne2 rfl rfl rfl rfl | exact det_rem rfl rfl rfl rfl (by omega) (by omega) | exact det_quo rfl rfl rfl rfl (by omega) (by omega) (by omega) | exact det_seq rfl rfl rfl rfl | exact det_sne rfl rfl rfl rfl | exact det_beq rfl rfl rfl rfl rfl | exact det_bne rfl rfl rfl rfl rfl) | (apply of_call; exact rfl; first | exact w_len rfl rfl rfl | exact w_len_str rfl rfl rfl | exact w_max rfl rfl rfl rfl | exact w_min rfl rfl rfl rfl) | (apply of_index; exact rfl; first | exact w_index rfl rfl rfl rfl (by first | with_reducible exact rfl | with_reducible exact castA _ | with_reducible exact castS (by omega) | with_reducible exact castM _ _ | with_reducible exact cast0 | with_reducible exact castC _ _ | with_reducible exact castN _ _ | with_reducible exact castR _ _ | with_reducible exact castB _ | with_reducible exact cast1 | exact rfl) (by first | omega | exact Nat.mod_lt _ (by omega))) | (apply of_un; exact rfl; first | exact det_not_dec rfl rfl rfl | exact det_not_ rfl rfl rfl) | (apply of_pick; exact rfl; first | exact det_pick_t (v := .bool _) rfl rfl rfl rfl | exact det_pick_f (v := .bool _) rfl rfl rfl rfl) | (apply of_extract; exact rfl; first | exact det_extract rfl rfl rfl (by conv => (lhs; whnf))) | (apply of_cut; exact rfl; first | exact w_cut_hi rfl rfl rfl rfl (by first | with_reducible exact rfl | with_reducible exact castA _ | with_reducible exact castS (by omega) | with_reducible exact castM _ _ | with_reducible exact cast0 | with_reducible exact castC _ _ | with_reducible exact castN _ _ | with_reducible exact castR _ _ | with_reducible exact castB _ | with_reducible exact cast1 | exact rfl) (by omega)) | (apply of_sidx; exact rfl; first | exact w_sidx rfl rfl rfl rfl (by first | with_reducible exact rfl | with_reducible exact castA _ | with_reducible exact castS (by omega) | with_reducible exact castM _ _ | with_reducible exact cast0 | with_reducible exact castC _ _ | with_reducible exact castN _ _ | with_reducible exact castR _ _ | with_reducible exact castB _ | with_reducible exact cast1 | exact rfl) (by first | omega | exact Nat.mod_lt _ (by omega))))) | (apply gd_d; (first | exact det_not rfl | (apply of_move; exact rfl; first | exact det_m rfl rfl (by conv => (lhs; whnf))) | (apply of_field; exact rfl; first | exact w_field rfl rfl rfl) | (apply of_load; exact rfl; first | exact w_load_box rfl rfl rfl .here rfl | exact w_load_box rfl rfl rfl (.there .here) rfl | exact w_load_at rfl rfl rfl (by assumption) (by assumption) | exact w_load_fld rfl rfl rfl (by assumption) (by assumption) | exact w_load_box rfl rfl rfl (.there (.there .here)) rfl | exact w_load_box rfl rfl rfl (.there (.there (.there .here))) rfl | exact w_load_box rfl rfl rfl (.there (.there (.there (.there .here)))) rfl | exact w_load_boxN rfl rfl rfl .here rfl | exact w_load_boxN rfl rfl rfl (.there .here) rfl | exact w_load_boxN rfl rfl rfl (.there (.there .here)) rfl | exact w_load_boxN rfl rfl rfl (.there (.there (.there .here))) rfl | exact w_load_boxN rfl rfl rfl (.there (.there (.there (.there .here)))) rfl | exact w_load_elem rfl rfl rfl (by assumption) (by assumption) (by rfl) | exact w_load_part rfl rfl rfl .here rfl rfl | exact w_load_part rfl rfl rfl (.there .here) rfl rfl | exact w_load_part rfl rfl rfl (.there (.there .here)) rfl rfl | exact w_load_part rfl rfl rfl (.there (.there (.there .here))) rfl rfl | exact w_load_part rfl rfl rfl (.there (.there (.there (.there .here)))) rfl rfl) | (apply of_bin; exact rfl; first | exact det_cmp rfl rfl rfl rfl rfl | exact det_ar rfl rfl rfl rfl rfl (by omega) | exact w_eq2 rfl rfl rfl rfl | exact w_ne2 rfl rfl rfl rfl | exact det_rem rfl rfl rfl rfl (by omega) (by omega) | exact det_quo rfl rfl rfl rfl (by omega) (by omega) (by omega) | exact det_seq rfl rfl rfl rfl | exact det_sne rfl rfl rfl rfl | exact det_beq rfl rfl rfl rfl rfl | exact det_bne rfl rfl rfl rfl rfl) | (apply of_call; exact rfl; first | exact w_len rfl rfl rfl | exact w_len_str rfl rfl rfl | exact w_max rfl rfl rfl rfl | exact w_min rfl rfl rfl rfl) | (apply of_index; exact rfl; first | exact w_index rfl rfl rfl rfl (by first | with_reducible exact rfl | with_reducible exact castA _ | with_reducible exact castS (by omega) | with_reducible exact castM _ _ | with_reducible exact cast0 | with_reducible exact castC _ _ | with_reducible exact castN _ _ | with_reducible exact castR _ _ | with_reducible exact castB _ | with_reducible exact cast1 | exact rfl) (by first | omega | exact Nat.mod_lt _ (by omega))) | (apply of_un; exact rfl; first | exact det_not_dec rfl rfl rfl | exact det_not_ rfl rfl rfl) | (apply of_pick; exact rfl; first | exact det_pick_t (v := .bool _) rfl rfl rfl rfl | exact det_pick_f (v := .bool _) rfl rfl rfl rfl) | (apply of_extract; exact rfl; first | exact det_extract rfl rfl rfl (by conv => (lhs; whnf))) | (apply of_cut; exact rfl; first | exact w_cut_hi rfl rfl rfl rfl (by first | with_reducible exact rfl | with_reducible exact castA _ | with_reducible exact castS (by omega) | with_reducible exact castM _ _ | with_reducible exact cast0 | with_reducible exact castC _ _ | with_reducible exact castN _ _ | with_reducible exact castR _ _ | with_reducible exact castB _ | with_reducible exact cast1 | exact rfl) (by omega)) | (apply of_sidx; exact rfl; first | exact w_sidx rfl rfl rfl rfl (by first | with_reducible exact rfl | with_reducible exact castA _ | with_reducible exact castS (by omega) | with_reducible exact castM _ _ | with_reducible exact cast0 | with_reducible exact castC _ _ | with_reducible exact castN _ _ | with_reducible exact castR _ _ | with_reducible exact castB _ | with_reducible exact cast1 | exact rfl) (by first | omega | exact Nat.mod_lt _ (by omega))))) | refine gw_nil ?_ | refine gx_next ?_ | refine gc_seq ?_ | refine gc_region ?_ | refine gc_block ?_ | refine gc_skip ?_ | refine gc_exit ?_ | refine gc_ret ?_ | refine gx_block ?_ | refine gx_block_exit ?_ | refine gx_block_ret ?_ | refine gx_then_ret ?_ | refine gx_then_exit ?_ | refine gx_block_other rfl ?_ | refine gd_nil ?_ | refine gw_boxd (v := .agg _) rfl rfl (fun _ => ?_) | refine w_alloc rfl (fun _ => ?_) | refine w_store_all rfl rfl rfl rfl rfl .here rfl ?_ | refine w_store_all rfl rfl rfl rfl rfl (.there .here) rfl ?_ | refine w_store_all rfl rfl rfl rfl rfl (.there (.there .here)) rfl ?_ | refine w_store_all rfl rfl rfl rfl rfl (.there (.there (.there .here))) rfl ?_ | refine w_store_all rfl rfl rfl rfl rfl (.there (.there (.there (.there .here)))) rfl ?_ | refine w_store rfl rfl rfl rfl rfl .here rfl rfl ?_ | refine w_store rfl rfl rfl rfl rfl (.there .here) rfl rfl ?_ | refine w_store rfl rfl rfl rfl rfl (.there (.there .here)) rfl rfl ?_ | refine w_store rfl rfl rfl rfl rfl (.there (.there (.there .here))) rfl rfl ?_ | refine w_store rfl rfl rfl rfl rfl (.there (.there (.there (.there .here)))) rfl rfl ?_))
  refine gw_callm rfl (fun w s => placed_ok w nm g m _ _ _ _ _ _ _ _ _ l cs ns (hl.later s) (hns.later s) (hcs.later s)) rfl (fun x => ?_)
  (repeat (first | (apply gw_d; (first | exact det_not rfl | (apply of_move; exact rfl; first | exact det_m rfl rfl (by conv => (lhs; whnf))) | (apply of_field; exact rfl; first | exact w_field rfl rfl rfl) | (apply of_load; exact rfl; first | exact w_load_box rfl rfl rfl .here rfl | exact w_load_box rfl rfl rfl (.there .here) rfl | exact w_load_at rfl rfl rfl (by assumption) (by assumption) | exact w_load_fld rfl rfl rfl (by assumption) (by assumption) | exact w_load_box rfl rfl rfl (.there (.there .here)) rfl | exact w_load_box rfl rfl rfl (.there (.there (.there .here))) rfl | exact w_load_box rfl rfl rfl (.there (.there (.there (.there .here)))) rfl | exact w_load_boxN rfl rfl rfl .here rfl | exact w_load_boxN rfl rfl rfl (.there .here) rfl | exact w_load_boxN rfl rfl rfl (.there (.there .here)) rfl | exact w_load_boxN rfl rfl rfl (.there (.there (.there .here))) rfl | exact w_load_boxN rfl rfl rfl (.there (.there (.there (.there .here)))) rfl | exact w_load_elem rfl rfl rfl (by assumption) (by assumption) (by rfl) | exact w_load_part rfl rfl rfl .here rfl rfl | exact w_load_part rfl rfl rfl (.there .here) rfl rfl | exact w_load_part rfl rfl rfl (.there (.there .here)) rfl rfl | exact w_load_part rfl rfl rfl (.there (.there (.there .here))) rfl rfl | exact w_load_part rfl rfl rfl (.there (.there (.there (.there .here)))) rfl rfl) | (apply of_bin; exact rfl; first | exact det_cmp rfl rfl rfl rfl rfl | exact det_ar rfl rfl rfl rfl rfl (by omega) | exact w_eq2 rfl rfl rfl rfl | exact w_ne2 rfl rfl rfl rfl | exact det_rem rfl rfl rfl rfl (by omega) (by omega) | exact det_quo rfl rfl rfl rfl (by omega) (by omega) (by omega) | exact det_seq rfl rfl rfl rfl | exact det_sne rfl rfl rfl rfl | exact det_beq rfl rfl rfl rfl rfl | exact det_bne rfl rfl rfl rfl rfl) | (apply of_call; exact rfl; first | exact w_len rfl rfl rfl | exact w_len_str rfl rfl rfl | exact w_max rfl rfl rfl rfl | exact w_min rfl rfl rfl rfl) | (apply of_index; exact rfl; first | exact w_index rfl rfl rfl rfl (by first | with_reducible exact rfl | with_reducible exact castA _ | with_reducible exact castS (by omega) | with_reducible exact castM _ _ | with_reducible exact cast0 | with_reducible exact castC _ _ | with_reducible exact castN _ _ | with_reducible exact castR _ _ | with_reducible exact castB _ | with_reducible exact cast1 | exact rfl) (by first | omega | exact Nat.mod_lt _ (by omega))) | (apply of_un; exact rfl; first | exact det_not_dec rfl rfl rfl | exact det_not_ rfl rfl rfl) | (apply of_pick; exact rfl; first | exact det_pick_t (v := .bool _) rfl rfl rfl rfl | exact det_pick_f (v := .bool _) rfl rfl rfl rfl) | (apply of_extract; exact rfl; first | exact det_extract rfl rfl rfl (by conv => (lhs; whnf))) | (apply of_cut; exact rfl; first | exact w_cut_hi rfl rfl rfl rfl (by first | with_reducible exact rfl | with_reducible exact castA _ | with_reducible exact castS (by omega) | with_reducible exact castM _ _ | with_reducible exact cast0 | with_reducible exact castC _ _ | with_reducible exact castN _ _ | with_reducible exact castR _ _ | with_reducible exact castB _ | with_reducible exact cast1 | exact rfl) (by omega)) | (apply of_sidx; exact rfl; first | exact w_sidx rfl rfl rfl rfl (by first | with_reducible exact rfl | with_reducible exact castA _ | with_reducible exact castS (by omega) | with_reducible exact castM _ _ | with_reducible exact cast0 | with_reducible exact castC _ _ | with_reducible exact castN _ _ | with_reducible exact castR _ _ | with_reducible exact castB _ | with_reducible exact cast1 | exact rfl) (by first | omega | exact Nat.mod_lt _ (by omega))))) | (apply gd_d; (first | exact det_not rfl | (apply of_move; exact rfl; first | exact det_m rfl rfl (by conv => (lhs; whnf))) | (apply of_field; exact rfl; first | exact w_field rfl rfl rfl) | (apply of_load; exact rfl; first | exact w_load_box rfl rfl rfl .here rfl | exact w_load_box rfl rfl rfl (.there .here) rfl | exact w_load_at rfl rfl rfl (by assumption) (by assumption) | exact w_load_fld rfl rfl rfl (by assumption) (by assumption) | exact w_load_box rfl rfl rfl (.there (.there .here)) rfl | exact w_load_box rfl rfl rfl (.there (.there (.there .here))) rfl | exact w_load_box rfl rfl rfl (.there (.there (.there (.there .here)))) rfl | exact w_load_boxN rfl rfl rfl .here rfl | exact w_load_boxN rfl rfl rfl (.there .here) rfl | exact w_load_boxN rfl rfl rfl (.there (.there .here)) rfl | exact w_load_boxN rfl rfl rfl (.there (.there (.there .here))) rfl | exact w_load_boxN rfl rfl rfl (.there (.there (.there (.there .here)))) rfl | exact w_load_elem rfl rfl rfl (by assumption) (by assumption) (by rfl) | exact w_load_part rfl rfl rfl .here rfl rfl | exact w_load_part rfl rfl rfl (.there .here) rfl rfl | exact w_load_part rfl rfl rfl (.there (.there .here)) rfl rfl | exact w_load_part rfl rfl rfl (.there (.there (.there .here))) rfl rfl | exact w_load_part rfl rfl rfl (.there (.there (.there (.there .here)))) rfl rfl) | (apply of_bin; exact rfl; first | exact det_cmp rfl rfl rfl rfl rfl | exact det_ar rfl rfl rfl rfl rfl (by omega) | exact w_eq2 rfl rfl rfl rfl | exact w_ne2 rfl rfl rfl rfl | exact det_rem rfl rfl rfl rfl (by omega) (by omega) | exact det_quo rfl rfl rfl rfl (by omega) (by omega) (by omega) | exact det_seq rfl rfl rfl rfl | exact det_sne rfl rfl rfl rfl | exact det_beq rfl rfl rfl rfl rfl | exact det_bne rfl rfl rfl rfl rfl) | (apply of_call; exact rfl; first | exact w_len rfl rfl rfl | exact w_len_str rfl rfl rfl | exact w_max rfl rfl rfl rfl | exact w_min rfl rfl rfl rfl) | (apply of_index; exact rfl; first | exact w_index rfl rfl rfl rfl (by first | with_reducible exact rfl | with_reducible exact castA _ | with_reducible exact castS (by omega) | with_reducible exact castM _ _ | with_reducible exact cast0 | with_reducible exact castC _ _ | with_reducible exact castN _ _ | with_reducible exact castR _ _ | with_reducible exact castB _ | with_reducible exact cast1 | exact rfl) (by first | omega | exact Nat.mod_lt _ (by omega))) | (apply of_un; exact rfl; first | exact det_not_dec rfl rfl rfl | exact det_not_ rfl rfl rfl) | (apply of_pick; exact rfl; first | exact det_pick_t (v := .bool _) rfl rfl rfl rfl | exact det_pick_f (v := .bool _) rfl rfl rfl rfl) | (apply of_extract; exact rfl; first | exact det_extract rfl rfl rfl (by conv => (lhs; whnf))) | (apply of_cut; exact rfl; first | exact w_cut_hi rfl rfl rfl rfl (by first | with_reducible exact rfl | with_reducible exact castA _ | with_reducible exact castS (by omega) | with_reducible exact castM _ _ | with_reducible exact cast0 | with_reducible exact castC _ _ | with_reducible exact castN _ _ | with_reducible exact castR _ _ | with_reducible exact castB _ | with_reducible exact cast1 | exact rfl) (by omega)) | (apply of_sidx; exact rfl; first | exact w_sidx rfl rfl rfl rfl (by first | with_reducible exact rfl | with_reducible exact castA _ | with_reducible exact castS (by omega) | with_reducible exact castM _ _ | with_reducible exact cast0 | with_reducible exact castC _ _ | with_reducible exact castN _ _ | with_reducible exact castR _ _ | with_reducible exact castB _ | with_reducible exact cast1 | exact rfl) (by first | omega | exact Nat.mod_lt _ (by omega))))) | refine gw_nil ?_ | refine gx_next ?_ | refine gc_seq ?_ | refine gc_region ?_ | refine gc_block ?_ | refine gc_skip ?_ | refine gc_exit ?_ | refine gc_ret ?_ | refine gx_block ?_ | refine gx_block_exit ?_ | refine gx_block_ret ?_ | refine gx_then_ret ?_ | refine gx_then_exit ?_ | refine gx_block_other rfl ?_ | refine gd_nil ?_ | refine gw_boxd (v := .agg _) rfl rfl (fun _ => ?_) | refine w_alloc rfl (fun _ => ?_) | refine w_store_all rfl rfl rfl rfl rfl .here rfl ?_ | refine w_store_all rfl rfl rfl rfl rfl (.there .here) rfl ?_ | refine w_store_all rfl rfl rfl rfl rfl (.there (.there .here)) rfl ?_ | refine w_store_all rfl rfl rfl rfl rfl (.there (.there (.there .here))) rfl ?_ | refine w_store_all rfl rfl rfl rfl rfl (.there (.there (.there (.there .here)))) rfl ?_ | refine w_store rfl rfl rfl rfl rfl .here rfl rfl ?_ | refine w_store rfl rfl rfl rfl rfl (.there .here) rfl rfl ?_ | refine w_store rfl rfl rfl rfl rfl (.there (.there .here)) rfl rfl ?_ | refine w_store rfl rfl rfl rfl rfl (.there (.there (.there .here))) rfl rfl ?_ | refine w_store rfl rfl rfl rfl rfl (.there (.there (.there (.there .here)))) rfl rfl ?_))
  refine gx_ret2 (u := .slice _ _ _) (v := .int _ _) rfl rfl rfl (fun _ _ => ?_)
  exact ⟨x.1, rfl, trivial⟩
end Go.Proofs.YtckhibfbdnoigaaGreatDoor

/- Contracts: pieces of a style. -/
namespace Go.Proofs.YtckhibfbdnoigaaGreatDoor
open Go.RowKit
set_option maxRecDepth 100000
set_option maxHeartbeats 4000000

def wideB (n : Int) : Bool := decide (n < 0) || decide (n > 500)
def pieceE (e : List Pc) (p : Pc) (plE : Int) : Int := if nameB p.name = true then if ¬ p.grain = 1 ∧ ¬ p.grain = 2 ∧ ¬ p.grain = 4 then 1 else if (e.any fun x => eqS x.name p.name) = true then 7 else if ¬ gradedE p.edges p.corners = 0 then gradedE p.edges p.corners else
  if ¬ plE = 0 then plE else if ¬ p.widths.length = p.edges.length then 1 else if p.widths.any wideB = true then 3 else 0 else 1

theorem take_any_snoc {α : Type} {f : α → Bool} {l : List α} {k : Nat} (hk : k < l.length) (h : (l.take k).any f = false) (hf : f l[k] = false) : (l.take (k + 1)).any f = false := by
  rw [List.take_succ_eq_append_getElem hk, List.any_append, h]
  simp [hf]
theorem any_at {α : Type} {f : α → Bool} {l : List α} {k : Nat} (hk : k < l.length) (h : f l[k] = true) : l.any f = true := List.any_eq_true.2 ⟨_, List.getElem_mem hk, h⟩

theorem checkPiece_ok (w : World) (ve : Value) (e : List Pc) (p : Pc) (Ae An Ac Aw : Option Addr) (ce cn cc cw : Nat) (he : Sl rPiece w w.heap.size ve e)
    (hl : Sl rEdge w w.heap.size (.slice Ae p.edges.length ce) p.edges) (hcs : Sl rSpot w w.heap.size (.slice Ac p.corners.length cc) p.corners) (hns : Sl rSpot w w.heap.size (.slice An p.notches.length cn) p.notches) (hws : Sl rInt w w.heap.size (.slice Aw p.widths.length cw) p.widths) (hnm : p.name.size ≤ 9223372036854775807) :
    Ok Tryz.prog 88 [ve, .agg #[.string p.name, .slice Ae p.edges.length ce, .int .i64 p.grain, .slice An p.notches.length cn, .slice Ac p.corners.length cc, .slice Aw p.widths.length cw, .bool p.mt]].toArray w
      fun r _ => r = .int .i64 (pieceE e p (placedE p.edges p.corners p.notches)) := by
  obtain ⟨A, c, rfl, hec, hem⟩ := len_small he
  obtain ⟨_, _, hv, hlc, hlm⟩ := len_small hl
  injection hv with e1 e2 e3
  subst e1 e3
  obtain ⟨_, _, hv, hwc, hwm, hwcell⟩ := hws.int
  injection hv with e1 e2 e3
  subst e1 e3
  refine ok_enter Tryz.func88 rfl Tryz.ntmps88 rfl ?_
  focus (refine gc_seq ?_; refine gc_region ?_; refine gw_boxd (v := .agg _) rfl rfl (fun _ => ?_); refine gM rfl rfl (by conv => (lhs; whnf)) ?_; refine gO ?_; refine gc_seq ?_; refine gc_seq ?_; refine gc_region ?_; refine gF rfl rfl rfl ?_; apply gw_d; exact w_load_box rfl rfl rfl .here rfl; apply gw_d; exact w_call rfl rfl (fun w s => styleName_ok w _ hnm) rfl; apply gw_d; exact det_not_ rfl rfl rfl; refine gO ?_)
  refine gc_if rfl (fun h => ?_) (fun h => ?_)
  · focus (refine gc_seq ?_; refine gc_region ?_; refine gM rfl rfl (by conv => (lhs; whnf)) ?_; refine gO ?_; refine gc_ret ?_; refine gx_then_ret ?_)
    refine gx_ret1 (v := .int _ _) rfl rfl (fun _ _ => ?_)
    unfold pieceE
    rw [if_neg (by simpa using h)]
  have hname : nameB p.name = true := by simpa using h
  have hgr : ∀ x : Int, (¬ p.grain = 1 ∧ ¬ p.grain = 2 ∧ ¬ p.grain = 4) → pieceE e p x = 1 := fun x h => by unfold pieceE; rw [if_pos hname, if_pos h]
  focus (refine gc_skip ?_; refine gx_next ?_; refine gc_seq ?_; refine gc_seq ?_; refine gc_region ?_; refine gF rfl rfl rfl ?_; apply gw_d; exact w_load_box rfl rfl rfl .here rfl; refine gC rfl rfl rfl rfl rfl ?_; refine gM rfl rfl (by conv => (lhs; whnf)) ?_; refine gw_guard_dec rfl rfl (fun _ => ?_) (fun _ => ?_); refine gF rfl rfl rfl ?_; apply gw_d; exact w_load_box rfl rfl rfl .here rfl; refine gC rfl rfl rfl rfl rfl ?_; apply gw_d; exact det_pick_t (v := .bool _) rfl rfl rfl rfl; refine gM rfl rfl (by conv => (lhs; whnf)) ?_; refine gw_guard_dec rfl rfl (fun _ => ?_) (fun _ => ?_); refine gF rfl rfl rfl ?_; apply gw_d; exact w_load_box rfl rfl rfl .here rfl; refine gC rfl rfl rfl rfl rfl ?_; apply gw_d; exact det_pick_t (v := .bool _) rfl rfl rfl rfl; refine gO ?_; refine gc_if_dec rfl (fun _ => ?_) (fun _ => ?_); refine gc_seq ?_; refine gc_region ?_; refine gM rfl rfl (by conv => (lhs; whnf)) ?_; refine gO ?_; refine gc_ret ?_; refine gx_then_ret ?_; rotate_left; refine gc_skip ?_; refine gx_next ?_; refine gc_seq ?_; refine gc_seq ?_; refine gc_region ?_; refine gM rfl rfl (by conv => (lhs; whnf)) ?_; refine gL rfl rfl rfl ?_; refine gM rfl rfl (by conv => (lhs; whnf)) ?_; refine gO ?_; refine gc_block ?_; rotate_left; refine gU rfl ?_; refine gU rfl ?_; refine gU rfl ?_; apply gw_d; exact det_pick_f (v := .bool _) rfl rfl rfl rfl; refine gO ?_; refine gc_if_false rfl ?_; refine gc_skip ?_; refine gx_next ?_; refine gc_seq ?_; refine gc_seq ?_; refine gc_region ?_; refine gM rfl rfl (by conv => (lhs; whnf)) ?_; refine gL rfl rfl rfl ?_; refine gM rfl rfl (by conv => (lhs; whnf)) ?_; refine gO ?_; refine gc_block ?_; rotate_left; refine gU rfl ?_; refine gU rfl ?_; refine gU rfl ?_; apply gw_d; exact det_pick_f (v := .bool _) rfl rfl rfl rfl; refine gM rfl rfl (by conv => (lhs; whnf)) ?_; refine gU rfl ?_; refine gU rfl ?_; refine gU rfl ?_; apply gw_d; exact det_pick_f (v := .bool _) rfl rfl rfl rfl; refine gO ?_; refine gc_if_false rfl ?_; refine gc_skip ?_; refine gx_next ?_; refine gc_seq ?_; refine gc_seq ?_; refine gc_region ?_; refine gM rfl rfl (by conv => (lhs; whnf)) ?_; refine gL rfl rfl rfl ?_; refine gM rfl rfl (by conv => (lhs; whnf)) ?_; refine gO ?_; refine gc_block ?_; rotate_left)
  · refine gx_ret1 (v := .int _ _) rfl rfl (fun _ _ => ?_)
    rw [hgr _ ⟨by assumption, by assumption, by assumption⟩]
  all_goals
    have hgo : ¬ (¬ p.grain = 1 ∧ ¬ p.grain = 2 ∧ ¬ p.grain = 4) := by omega
    refine gc_loopK (σ := Nat) [33, 34, 35, 6, 36, 37, 38, 39, 40, 4, 41, 32] (fun k => [(32, .int .i64 k)]) (fun k => k ≤ e.length ∧ ((e.take k).any fun x => eqS x.name p.name) = false) (fun k => e.length - k) 0 ⟨Nat.zero_le _, rfl⟩ ⟨rfl, trivial⟩ ?_
    rintro k base ⟨hk, hI⟩
    focus (refine gc_seq ?_; refine gc_region ?_; refine gC rfl rfl rfl rfl rfl ?_; refine gO ?_; refine gc_seq ?_)
    refine gc_if_dec rfl (fun h => ?_) (fun h => ?_)
    · have hlt : k < e.length := by omega
      obtain ⟨ad, _, hv, _, _, hb, hcell⟩ := he.at' 7 rfl (by omega)
      injection hv with e1 e2 e3
      subst e1 e3
      obtain ⟨cs, hce, _, _, _, _, _, _, _, _, rfl, _⟩ := hcell k hlt
      focus (refine gc_skip ?_; refine gx_next ?_; refine gc_seq ?_; refine gc_block ?_; refine gc_seq ?_; refine gc_region ?_; apply gw_d; exact w_index rfl rfl rfl rfl (by with_reducible exact rfl) (by omega); apply gw_d; exact w_load_elem rfl rfl rfl (by assumption) (by assumption) (by rfl); refine w_alloc rfl (fun _ => ?_); refine w_store_all rfl rfl rfl rfl rfl .here rfl ?_; refine gN ?_; refine gF rfl rfl rfl ?_; apply gw_d; exact w_load_box rfl rfl rfl .here rfl; refine gF rfl rfl rfl ?_; apply gw_d; exact w_load_box rfl rfl rfl (.there .here) rfl; apply gw_d; exact det_seq rfl rfl rfl rfl; refine gO ?_)
      refine gc_if rfl (fun h => ?_) (fun h => ?_)
      · focus (refine gc_seq ?_; refine gc_region ?_; refine gM rfl rfl (by conv => (lhs; whnf)) ?_; refine gO ?_; refine gc_ret ?_; refine gx_block_ret ?_; refine gx_then_ret ?_; refine gx_then_ret ?_; refine gx_block_ret ?_; refine gx_then_ret ?_)
        refine gx_ret1 (v := .int _ _) rfl rfl (fun _ _ => ?_)
        unfold pieceE
        rw [if_pos hname, if_neg hgo, if_pos (any_at hlt h)]
      · focus (refine gc_skip ?_; refine gx_block ?_; refine gx_next ?_; refine gc_region ?_; apply gw_d; exact det_ar rfl rfl rfl rfl rfl (by omega); refine gM rfl rfl (by conv => (lhs; whnf)) ?_; refine gw_nil ?_)
        exact gx_round (k + 1) ⟨by omega, take_any_snoc hlt hI h⟩ (by omega) (by repeat (first | exact Keeps.refl | refine Keeps.upd rfl ?_ | refine Keeps.sets rfl ?_ | refine Keeps.havoc rfl ?_)) ⟨rfl, trivial⟩ Sub.tail
    obtain rfl : k = e.length := by omega
    rw [List.take_length] at hI
    focus (refine gc_exit ?_; refine gx_then_exit ?_; refine gx_then_exit ?_; refine gx_block_exit ?_; refine gx_next ?_; refine gc_seq ?_; refine gc_seq ?_; refine gc_region ?_; apply gw_d; exact w_load_boxN rfl rfl rfl .here rfl)
    refine gw_callm rfl (fun w s => graded_ok w _ _ _ _ _ _ _ _ _ _ _ _ _ _ _ (hl.later s) (hcs.later s)) rfl (fun x => ?_)
    focus (refine gM rfl rfl (by conv => (lhs; whnf)) ?_; apply gw_d; exact det_extract rfl rfl rfl (by conv => (lhs; whnf)); apply gw_d; exact det_extract rfl rfl rfl (by conv => (lhs; whnf)); refine gM rfl rfl (by conv => (lhs; whnf)) ?_; refine gM rfl rfl (by conv => (lhs; whnf)) ?_; refine gN ?_; refine gM rfl rfl (by conv => (lhs; whnf)) ?_; refine gC rfl rfl rfl rfl rfl ?_; refine gO ?_)
    refine gc_if_dec rfl (fun h => ?_) (fun h => ?_)
    · focus (refine gc_seq ?_; refine gc_region ?_; refine gM rfl rfl (by conv => (lhs; whnf)) ?_; refine gM rfl rfl (by conv => (lhs; whnf)) ?_; refine gO ?_; refine gc_ret ?_; refine gx_then_ret ?_)
      refine gx_ret1 (v := .int _ _) rfl rfl (fun _ _ => ?_)
      unfold pieceE
      rw [if_pos hname, if_neg hgo, if_neg (by rw [hI]; decide), if_pos h]
    have h0 : gradedE p.edges p.corners = 0 := by simpa using h
    rw [if_pos h0]
    refine gc_ent (K := [Box _ _ _]) (Sub.ent (.cons (.there .here) .nil)) ?_
    focus (refine gc_skip ?_; refine gx_next ?_; refine gc_seq ?_; refine gc_seq ?_; refine gc_region ?_; apply gw_d; exact w_load_boxN rfl rfl rfl .here rfl)
    refine gw_callm rfl (fun w s => Placed_ok w _ _ _ _ _ _ _ _ _ _ _ _ _ _ _ (hl.later s) (hns.later s) (hcs.later s)) rfl (fun y => ?_)
    focus (refine gM rfl rfl (by conv => (lhs; whnf)) ?_; apply gw_d; exact det_extract rfl rfl rfl (by conv => (lhs; whnf)); apply gw_d; exact det_extract rfl rfl rfl (by conv => (lhs; whnf)); refine gM rfl rfl (by conv => (lhs; whnf)) ?_; refine gM rfl rfl (by conv => (lhs; whnf)) ?_; refine gN ?_; refine gM rfl rfl (by conv => (lhs; whnf)) ?_; refine gC rfl rfl rfl rfl rfl ?_; refine gO ?_)
    refine gc_if_dec rfl (fun h => ?_) (fun h => ?_)
    · focus (refine gc_seq ?_; refine gc_region ?_; refine gM rfl rfl (by conv => (lhs; whnf)) ?_; refine gM rfl rfl (by conv => (lhs; whnf)) ?_; refine gO ?_; refine gc_ret ?_; refine gx_then_ret ?_)
      refine gx_ret1 (v := .int _ _) rfl rfl (fun _ _ => ?_)
      unfold pieceE
      rw [if_pos hname, if_neg hgo, if_neg (by rw [hI]; decide), if_neg (by rw [h0]; decide), if_pos h]
    have hp0 : placedE p.edges p.corners p.notches = 0 := by simpa using h
    focus (refine gc_skip ?_; refine gx_next ?_; refine gc_seq ?_; refine gc_seq ?_; refine gc_region ?_; refine gF rfl rfl rfl ?_; apply gw_d; exact w_load_box rfl rfl rfl .here rfl; refine gL rfl rfl rfl ?_; refine gF rfl rfl rfl ?_; apply gw_d; exact w_load_box rfl rfl rfl .here rfl; refine gL rfl rfl rfl ?_; refine gC rfl rfl rfl rfl rfl ?_; refine gO ?_)
    refine gc_if_dec rfl (fun h => ?_) (fun h => ?_)
    · focus (refine gc_seq ?_; refine gc_region ?_; refine gM rfl rfl (by conv => (lhs; whnf)) ?_; refine gO ?_; refine gc_ret ?_; refine gx_then_ret ?_)
      refine gx_ret1 (v := .int _ _) rfl rfl (fun _ _ => ?_)
      unfold pieceE
      rw [if_pos hname, if_neg hgo, if_neg (by rw [hI]; decide), if_neg (by rw [h0]; decide), if_neg (by rw [hp0]; decide), if_pos (by omega)]
    focus (refine gc_skip ?_; refine gx_next ?_; refine gc_seq ?_; refine gc_seq ?_; refine gc_region ?_; refine gF rfl rfl rfl ?_; apply gw_d; exact w_load_box rfl rfl rfl .here rfl; refine gL rfl rfl rfl ?_; refine gM rfl rfl (by conv => (lhs; whnf)) ?_; refine gO ?_; refine gc_block ?_)
    refine gc_loopK (σ := Nat) [69, 70, 71, 12, 72, 73, 74, 75, 76, 77, 4, 78, 68] (fun k => [(68, .int .i64 k)]) (fun k => k ≤ p.widths.length ∧ (p.widths.take k).any wideB = false) (fun k => p.widths.length - k) 0 ⟨Nat.zero_le _, rfl⟩ ⟨rfl, trivial⟩ ?_
    rintro k base2 ⟨hk, hJ⟩
    focus (refine gc_seq ?_; refine gc_region ?_; refine gC rfl rfl rfl rfl rfl ?_; refine gO ?_; refine gc_seq ?_)
    refine gc_if_dec rfl (fun h => ?_) (fun h => ?_)
    · have hlt : k < p.widths.length := by omega
      obtain ⟨ad, rfl, hb, hce, _⟩ := hwcell k hlt
      focus (refine gc_skip ?_; refine gx_next ?_; refine gc_seq ?_; refine gc_block ?_; refine gc_seq ?_; refine gc_region ?_; apply gw_d; exact w_index rfl rfl rfl rfl (by with_reducible exact rfl) (by omega); apply gw_d; exact w_load_at rfl rfl rfl (by assumption) (by assumption); refine gM rfl rfl (by conv => (lhs; whnf)) ?_; refine gN ?_; refine gM rfl rfl (by conv => (lhs; whnf)) ?_; refine gC rfl rfl rfl rfl rfl ?_; refine gM rfl rfl (by conv => (lhs; whnf)) ?_; refine gw_guard_dec rfl rfl (fun _ => ?_) (fun _ => ?_); refine gU rfl ?_; refine gU rfl ?_; apply gw_d; exact det_pick_t (v := .bool _) rfl rfl rfl rfl; refine gO ?_; refine gc_if_true rfl ?_; refine gc_seq ?_; refine gc_region ?_; refine gM rfl rfl (by conv => (lhs; whnf)) ?_; refine gO ?_; refine gc_ret ?_; refine gx_block_ret ?_; refine gx_then_ret ?_; refine gx_then_ret ?_; refine gx_block_ret ?_; refine gx_then_ret ?_; rotate_left; refine gM rfl rfl (by conv => (lhs; whnf)) ?_; refine gC rfl rfl rfl rfl rfl ?_; apply gw_d; exact det_pick_f (v := .bool _) rfl rfl rfl rfl; refine gO ?_; refine gc_if_dec rfl (fun _ => ?_) (fun _ => ?_); refine gc_seq ?_; refine gc_region ?_; refine gM rfl rfl (by conv => (lhs; whnf)) ?_; refine gO ?_; refine gc_ret ?_; refine gx_block_ret ?_; refine gx_then_ret ?_; refine gx_then_ret ?_; refine gx_block_ret ?_; refine gx_then_ret ?_; rotate_left; refine gc_skip ?_; refine gx_block ?_; refine gx_next ?_; refine gc_region ?_; apply gw_d; exact det_ar rfl rfl rfl rfl rfl (by omega); refine gM rfl rfl (by conv => (lhs; whnf)) ?_; refine gw_nil ?_; rotate_left)
      · refine gx_ret1 (v := .int _ _) rfl rfl (fun _ _ => ?_)
        unfold pieceE
        rw [if_pos hname, if_neg hgo, if_neg (by rw [hI]; decide), if_neg (by rw [h0]; decide), if_neg (by rw [hp0]; decide), if_neg (by omega), if_pos (any_at hlt (by unfold wideB; simp only [Bool.or_eq_true, decide_eq_true_eq]; left; assumption))]
      · refine gx_ret1 (v := .int _ _) rfl rfl (fun _ _ => ?_)
        unfold pieceE
        rw [if_pos hname, if_neg hgo, if_neg (by rw [hI]; decide), if_neg (by rw [h0]; decide), if_neg (by rw [hp0]; decide), if_neg (by omega), if_pos (any_at hlt (by unfold wideB; simp only [Bool.or_eq_true, decide_eq_true_eq]; right; assumption))]
      · exact gx_round (k + 1) ⟨by omega, take_any_snoc hlt hJ (by unfold wideB; simp only [Bool.or_eq_false_iff, decide_eq_false_iff_not]; constructor <;> assumption)⟩ (by omega) (by repeat (first | exact Keeps.refl | refine Keeps.upd rfl ?_ | refine Keeps.sets rfl ?_ | refine Keeps.havoc rfl ?_)) ⟨rfl, trivial⟩ (Sub.all _)
    obtain rfl : k = p.widths.length := by omega
    rw [List.take_length] at hJ
    focus (refine gc_exit ?_; refine gx_then_exit ?_; refine gx_then_exit ?_; refine gx_block_exit ?_; refine gx_next ?_; refine gc_seq ?_; refine gc_region ?_; refine gM rfl rfl (by conv => (lhs; whnf)) ?_; refine gO ?_; refine gc_ret ?_)
    refine gx_ret1 (v := .int _ _) rfl rfl (fun _ _ => ?_)
    unfold pieceE
    rw [if_pos hname, if_neg hgo, if_neg (by rw [hI]; decide), if_neg (by rw [h0]; decide), if_neg (by rw [hp0]; decide), if_neg (by omega), if_neg (by rw [hJ]; decide)]
end Go.Proofs.YtckhibfbdnoigaaGreatDoor

/- Contracts: styles as a whole. -/
namespace Go.Proofs.YtckhibfbdnoigaaGreatDoor
open Go.RowKit
set_option maxRecDepth 100000
set_option maxHeartbeats 4000000

structure Opn where
  name : ByteArray
  machine : Int
  minutes : Int
  after : List Int
  uses : List Int
abbrev Use := Int × Int × Bool
abbrev Seam := Int × Int × Int × Int × Bool × Int
structure Sty where
  name : ByteArray
  sizes : List ByteArray
  multiples : List Int
  pieces : List Pc
  uses : List Use
  seams : List Seam
  ops : List Opn

def rUse : Rp Use where
  size := 3
  rep _ _ u cs := cs = [.int .i64 u.1, .int .i64 u.2.1, .bool u.2.2] ∧ inI64 u.1 ∧ inI64 u.2.1
  len h := by rw [h.1]; rfl
  mono _ h := h
  grow _ h := h
def rSeam : Rp Seam where
  size := 6
  rep _ _ u cs := cs = [.int .i64 u.1, .int .i64 u.2.1, .int .i64 u.2.2.1, .int .i64 u.2.2.2.1, .bool u.2.2.2.2.1, .int .i64 u.2.2.2.2.2]
  len h := by rw [h]; rfl
  mono _ h := h
  grow _ h := h
def rOp : Rp Opn where
  size := 5
  rep w S o cs := ∃ Aa ca Au cu, cs = [.string o.name, .int .i64 o.machine, .int .i64 o.minutes, .slice Aa o.after.length ca, .slice Au o.uses.length cu] ∧ (o.name.size ≤ maxLen ∧ inI64 o.machine ∧ inI64 o.minutes) ∧
    SlS rInt w S (.slice Aa o.after.length ca) o.after ∧ SlS rInt w S (.slice Au o.uses.length cu) o.uses
  len h := by obtain ⟨_, _, _, _, rfl, _⟩ := h; rfl
  mono hb h := by obtain ⟨Aa, ca, Au, cu, h0, h1, h2, h3⟩ := h; exact ⟨Aa, ca, Au, cu, h0, h1, h2.mono hb, h3.mono hb⟩
  grow hb h := by obtain ⟨Aa, ca, Au, cu, h0, h1, h2, h3⟩ := h; exact ⟨Aa, ca, Au, cu, h0, h1, h2.grow hb, h3.grow hb⟩

def StyV (w : World) (B : Nat) (v : Value) (s : Sty) : Prop := ∃ As cs Am cm Ap cp Au cu Ae ce Ao co, v = .agg #[.string s.name, .slice As s.sizes.length cs, .slice Am s.multiples.length cm, .slice Ap s.pieces.length cp, .slice Au s.uses.length cu, .slice Ae s.seams.length ce, .slice Ao s.ops.length co] ∧
  s.name.size ≤ maxLen ∧ Sl rStr w B (.slice As s.sizes.length cs) s.sizes ∧ Sl rInt w B (.slice Am s.multiples.length cm) s.multiples ∧ Sl rPiece w B (.slice Ap s.pieces.length cp) s.pieces ∧ Sl rUse w B (.slice Au s.uses.length cu) s.uses ∧
  Sl rSeam w B (.slice Ae s.seams.length ce) s.seams ∧ Sl rOp w B (.slice Ao s.ops.length co) s.ops
theorem StyV.later {w0 w : World} {L : List Res} {v : Value} {x : Sty} (s : St w0 L w) (h : StyV w0 w0.heap.size v x) : StyV w w.heap.size v x := by
  obtain ⟨As, cs, Am, cm, Ap, cp, Au, cu, Ae, ce, Ao, co, h0, h1, h2, h3, h4, h5, h6, h7⟩ := h
  exact ⟨As, cs, Am, cm, Ap, cp, Au, cu, Ae, ce, Ao, co, h0, h1, h2.later s, h3.later s, h4.later s, h5.later s, h6.later s, h7.later s⟩

section
variable {P : Program} {Q : Exit → Act → World → Prop} {N : Nat} {w0 : World} {L : List Res} {e : Env} {r : Res}
/-- A loop that turns the first of what is owned. -/
theorem gc_loop1 {σ : Type} {c : Code} (wr : List Nat) (S : σ → List (Nat × Value)) (R : σ → Res) (I : σ → Prop) (μ : σ → Nat) (s0 : σ) (hI : I s0) (hA : Ats (S s0) e) (hr : r = R s0)
    (round : ∀ s base, I s → GC P (Exit.then (Rnd N w0 wr e S (fun s => R s :: L) I μ (μ s)) Q) N w0 (R s :: L) c (sets (S s) (havoc wr e base))) : GC P Q N w0 (r :: L) (.loop c) e := by
  subst hr
  exact gc_loop wr S (fun s => R s :: L) I μ s0 hI hA (Sub.all _) round
theorem strLawC {kt : Nat} [CIsStr P kt] : KeyLaw P kt kStr := strLaw (by
  have h := CIsStr.h (P := P) (t := kt)
  unfold isStringT at h
  split at h
  · assumption
  · cases h)
theorem intLawC {kt : Nat} [CInt P kt .i64] : KeyLaw P kt kInt := intLaw (by
  have h := CInt.h (P := P) (t := kt) (k := .i64)
  unfold intKindB at h
  split at h
  · injection h with h; subst h; assumption
  · cases h)
end

/-! ### Sets: maps whose values are all true -/
section
variable {κ : Type} [DecidableEq κ]
def setM (l : List κ) : List (κ × Value) := l.foldl (fun m k => aset m k (.bool true)) []
theorem setM_snoc (l : List κ) (k : κ) : setM (l ++ [k]) = aset (setM l) k (.bool true) := by
  unfold setM
  rw [List.foldl_append]
  rfl
theorem setM_get (l : List κ) (k : κ) : aget (setM l) k = if k ∈ l then some (.bool true) else none := by
  suffices h : ∀ (r : List κ), aget (setM r.reverse) k = if k ∈ r.reverse then some (.bool true) else none by
    have := h l.reverse
    rwa [List.reverse_reverse] at this
  intro r
  induction r with
  | nil => rfl
  | cons x r ih =>
    rw [List.reverse_cons, setM_snoc, aget_aset, ih]
    by_cases hx : x = k
    · subst hx; simp
    · have : ¬ k = x := fun h => hx h.symm
      simp [hx, this]
def hasB (l : List κ) (k : κ) : Bool := l.any fun x => decide (x = k)
theorem hasB_iff {l : List κ} {k : κ} : hasB l k = true ↔ k ∈ l := by
  unfold hasB
  rw [List.any_eq_true]
  constructor
  · rintro ⟨x, hx, h⟩
    rw [decide_eq_true_eq] at h
    exact h ▸ hx
  · intro h
    exact ⟨k, h, by simp⟩
theorem setM_has (l : List κ) (k : κ) : ((aget (setM l) k).getD (.bool false)) = .bool (hasB l k) := by
  rw [setM_get]
  by_cases h : k ∈ l
  · rw [if_pos h, hasB_iff.2 h]; rfl
  · have : hasB l k = false := by rw [← Bool.not_eq_true, hasB_iff]; exact h
    rw [if_neg h, this]; rfl
end
def dupL {κ : Type} [DecidableEq κ] (l : List κ) (n : Nat) : Bool := (List.range n).any fun i => match l[i]? with | some x => hasB (l.take i) x | none => false
theorem dupL_snoc {κ : Type} [DecidableEq κ] {l : List κ} {k : Nat} (hk : k < l.length) (h : dupL l k = false) (hx : hasB (l.take k) l[k] = false) : dupL l (k + 1) = false := by
  unfold dupL at *
  exact range_any_snoc h (by rw [List.getElem?_eq_getElem hk]; exact hx)
theorem dupL_yes {κ : Type} [DecidableEq κ] {l : List κ} {k : Nat} (hk : k < l.length) (hx : hasB (l.take k) l[k] = true) : dupL l l.length = true := by
  unfold dupL
  exact range_any_no hk (by rw [List.getElem?_eq_getElem hk]; exact hx)

def farM (n : Int) : Bool := decide (n < -100) || decide (n > 100)
def wholeE (s : Sty) : Int := if ¬ nameB s.name = true ∨ s.sizes.length = 0 then 1 else if (s.sizes.any fun x => !sizeB' x) = true then 1 else if ¬ s.multiples.length = s.sizes.length ∨ s.multiples.any (isI 0) = false then 1 else if dupL s.sizes s.sizes.length = true then 7 else
  if s.sizes.length > 12 ∨ s.pieces.length > 12 ∨ s.uses.length > 12 then 5 else if s.seams.length > 24 ∨ s.ops.length > 16 then 5 else if s.multiples.any farM = true then 3 else 0

theorem Sl.str' {w : World} {B : Nat} {v : Value} {l : List ByteArray} (h : Sl rStr w B v l) : ∃ A c, v = .slice A l.length c ∧ l.length ≤ c ∧ l.length ≤ 9223372036854775807 ∧
    ∀ k (hk : k < l.length), ∃ ad, A = some ad ∧ ad.block < B ∧ w.cell? (ad.add (k * 1)) = some (.string l[k]) ∧ l[k].size ≤ 9223372036854775807 := by
  obtain ⟨A, c, hv, h1, h2, h3⟩ := h
  refine ⟨A, c, hv, h1, by unfold maxLen at h2; omega, fun k hk => ?_⟩
  obtain ⟨ad, cs, ha, hlt, hc, hr⟩ := h3 k hk
  obtain ⟨rfl, hr⟩ := hr
  exact ⟨ad, ha, hlt, hc 0 _ rfl, by unfold maxLen at hr; omega⟩

theorem whole_ok (w : World) (v : Value) (s : Sty) (hs : StyV w w.heap.size v s) : Ok Tryz.prog 87 [v].toArray w fun r _ => r = .int .i64 (wholeE s) := by
  obtain ⟨As, cs, Am, cm, Ap, cp, Au, cu, Ae, ce, Ao, co, rfl, hnm, h1, h2, h3, h4, h5, h6⟩ := hs
  unfold maxLen at hnm
  obtain ⟨_, _, hv, hsc, hsm, hscell⟩ := h1.str'
  injection hv with e1 e2 e3
  subst e1 e3
  obtain ⟨_, _, hv, hmc, hmm, hmcell⟩ := h2.int
  injection hv with e1 e2 e3
  subst e1 e3
  refine ok_enter Tryz.func87 rfl Tryz.ntmps87 rfl ?_
  focus (refine gc_seq ?_; refine gc_region ?_; refine gw_boxd (v := .agg _) rfl rfl (fun _ => ?_); refine gM rfl rfl (by conv => (lhs; whnf)) ?_; refine gO ?_; refine gc_seq ?_; refine gc_seq ?_; refine gc_region ?_; refine gF rfl rfl rfl ?_; apply gw_d; exact w_load_box rfl rfl rfl .here rfl; apply gw_d; exact w_call rfl rfl (fun w s => styleName_ok w _ (by omega)) rfl; apply gw_d; exact det_not_ rfl rfl rfl; refine gM rfl rfl (by conv => (lhs; whnf)) ?_; refine gw_guard rfl rfl (fun _ => ?_) (fun _ => ?_); refine gU rfl ?_; refine gU rfl ?_; refine gU rfl ?_; refine gU rfl ?_; apply gw_d; exact det_pick_t (v := .bool _) rfl rfl rfl rfl; refine gO ?_; refine gc_if_true rfl ?_; refine gc_seq ?_; refine gc_region ?_; refine gM rfl rfl (by conv => (lhs; whnf)) ?_; refine gO ?_; refine gc_ret ?_; refine gx_then_ret ?_; rotate_left; refine gF rfl rfl rfl ?_; apply gw_d; exact w_load_box rfl rfl rfl .here rfl; refine gL rfl rfl rfl ?_; refine gC rfl rfl rfl rfl rfl ?_; apply gw_d; exact det_pick_f (v := .bool _) rfl rfl rfl rfl; refine gO ?_; refine gc_if_dec rfl (fun _ => ?_) (fun _ => ?_); refine gc_seq ?_; refine gc_region ?_; refine gM rfl rfl (by conv => (lhs; whnf)) ?_; refine gO ?_; refine gc_ret ?_; refine gx_then_ret ?_; rotate_left; refine gc_skip ?_; refine gx_next ?_; refine gc_seq ?_; refine gc_seq ?_; refine gc_region ?_; refine gF rfl rfl rfl ?_; apply gw_d; exact w_load_box rfl rfl rfl .here rfl; refine gL rfl rfl rfl ?_; refine gM rfl rfl (by conv => (lhs; whnf)) ?_; refine gO ?_; refine gc_block ?_; rotate_left)
  · refine gx_ret1 (v := .int _ _) rfl rfl (fun _ _ => ?_)
    unfold wholeE
    rename_i h _ _
    rw [if_pos (.inl (by simpa using h))]
  · refine gx_ret1 (v := .int _ _) rfl rfl (fun _ _ => ?_)
    unfold wholeE
    rw [if_pos (.inr (by omega))]
  have hN : ¬ (¬ nameB s.name = true ∨ s.sizes.length = 0) := fun h => by
    rcases h with h | h
    · simp_all
    · omega
  refine gc_loopK (σ := Nat) [24, 25, 26, 4, 27, 28, 29, 2, 30, 23] (fun k => [(23, .int .i64 k)]) (fun k => k ≤ s.sizes.length ∧ ((s.sizes.take k).any fun x => !sizeB' x) = false) (fun k => s.sizes.length - k) 0 ⟨Nat.zero_le _, rfl⟩ ⟨rfl, trivial⟩ ?_
  rintro k base ⟨hk, hI⟩
  focus (refine gc_seq ?_; refine gc_region ?_; refine gC rfl rfl rfl rfl rfl ?_; refine gO ?_; refine gc_seq ?_)
  refine gc_if_dec rfl (fun h => ?_) (fun h => ?_)
  · have hlt : k < s.sizes.length := by omega
    obtain ⟨ad, rfl, hb, hce, hsz⟩ := hscell k hlt
    focus (refine gc_skip ?_; refine gx_next ?_; refine gc_seq ?_; refine gc_block ?_; refine gc_seq ?_; refine gc_region ?_; apply gw_d; exact w_index rfl rfl rfl rfl (by with_reducible exact rfl) (by omega); apply gw_d; exact w_load_at rfl rfl rfl (by assumption) (by assumption); refine gM rfl rfl (by conv => (lhs; whnf)) ?_; refine gN ?_; refine gM rfl rfl (by conv => (lhs; whnf)) ?_; apply gw_d; exact w_call rfl rfl (fun w s => styleSize_ok w _ hsz) rfl; apply gw_d; exact det_not_ rfl rfl rfl; refine gO ?_)
    refine gc_if rfl (fun h => ?_) (fun h => ?_)
    · focus (refine gc_seq ?_; refine gc_region ?_; refine gM rfl rfl (by conv => (lhs; whnf)) ?_; refine gO ?_; refine gc_ret ?_; refine gx_block_ret ?_; refine gx_then_ret ?_; refine gx_then_ret ?_; refine gx_block_ret ?_; refine gx_then_ret ?_)
      refine gx_ret1 (v := .int _ _) rfl rfl (fun _ _ => ?_)
      unfold wholeE
      rw [if_neg hN, if_pos (any_at hlt h)]
    · focus (refine gc_skip ?_; refine gx_block ?_; refine gx_next ?_; refine gc_region ?_; apply gw_d; exact det_ar rfl rfl rfl rfl rfl (by omega); refine gM rfl rfl (by conv => (lhs; whnf)) ?_; refine gw_nil ?_)
      exact gx_round (k + 1) ⟨by omega, take_any_snoc hlt hI h⟩ (by omega) (by repeat (first | exact Keeps.refl | refine Keeps.upd rfl ?_ | refine Keeps.sets rfl ?_ | refine Keeps.havoc rfl ?_)) ⟨rfl, trivial⟩ (Sub.all _)
  obtain rfl : k = s.sizes.length := by omega
  rw [List.take_length] at hI
  focus (refine gc_exit ?_; refine gx_then_exit ?_; refine gx_then_exit ?_; refine gx_block_exit ?_; refine gx_next ?_; refine gc_seq ?_; refine gc_seq ?_; refine gc_region ?_; refine gF rfl rfl rfl ?_; apply gw_d; exact w_load_box rfl rfl rfl .here rfl; refine gL rfl rfl rfl ?_; refine gF rfl rfl rfl ?_; apply gw_d; exact w_load_box rfl rfl rfl .here rfl; refine gL rfl rfl rfl ?_; refine gC rfl rfl rfl rfl rfl ?_; refine gM rfl rfl (by conv => (lhs; whnf)) ?_; refine gw_guard_dec rfl rfl (fun _ => ?_) (fun _ => ?_); refine gU rfl ?_; refine gU rfl ?_; refine gU rfl ?_; refine gU rfl ?_; apply gw_d; exact det_pick_t (v := .bool _) rfl rfl rfl rfl; refine gO ?_; refine gc_if_true rfl ?_; refine gc_seq ?_; refine gc_region ?_; refine gM rfl rfl (by conv => (lhs; whnf)) ?_; refine gO ?_; refine gc_ret ?_; refine gx_then_ret ?_; rotate_left; refine gF rfl rfl rfl ?_; apply gw_d; exact w_load_box rfl rfl rfl .here rfl; apply gw_d; exact w_call rfl rfl (fun w s' => containsInt_ok w _ s.multiples _ (h2.later s')) rfl; apply gw_d; exact det_not_ rfl rfl rfl; apply gw_d; exact det_pick_f (v := .bool _) rfl rfl rfl rfl; refine gO ?_; refine gc_if rfl (fun _ => ?_) (fun _ => ?_); refine gc_seq ?_; refine gc_region ?_; refine gM rfl rfl (by conv => (lhs; whnf)) ?_; refine gO ?_; refine gc_ret ?_; refine gx_then_ret ?_; rotate_left; refine gc_skip ?_; refine gx_next ?_; refine gc_seq ?_; refine gc_region ?_; rotate_left)
  · refine gx_ret1 (v := .int _ _) rfl rfl (fun _ _ => ?_)
    unfold wholeE
    rw [if_neg hN, if_neg (by rw [hI]; decide), if_pos (.inl (by omega))]
  · refine gx_ret1 (v := .int _ _) rfl rfl (fun _ _ => ?_)
    unfold wholeE
    rename_i h _ _
    rw [if_neg hN, if_neg (by rw [hI]; decide), if_pos (.inr (by simpa using h))]
  have hM : ¬ (¬ s.multiples.length = s.sizes.length ∨ s.multiples.any (isI 0) = false) := fun h => by
    rcases h with h | h
    · omega
    · simp_all
  refine gw_makeMap (kStr) rfl (fun bm => ?_)
  focus (refine gM rfl rfl (by conv => (lhs; whnf)) ?_; refine gO ?_; refine gc_seq ?_; refine gc_seq ?_; refine gc_region ?_; refine gF rfl rfl rfl ?_; apply gw_d; exact w_load_box rfl rfl rfl (.there .here) rfl; refine gL rfl rfl rfl ?_; refine gM rfl rfl (by conv => (lhs; whnf)) ?_; refine gO ?_; refine gc_block ?_)
  refine gc_loop1 (σ := Nat) [49, 50, 51, 7, 52, 53, 54, 2, 55, 56, 57, 48] (fun k => [(48, .int .i64 k)]) (fun k => MapR bm kStr (setM (s.sizes.take k))) (fun k => k ≤ s.sizes.length ∧ dupL s.sizes k = false) (fun k => s.sizes.length - k) 0 ⟨Nat.zero_le _, rfl⟩ ⟨rfl, trivial⟩ rfl ?_
  rintro k base2 ⟨hk, hJ⟩
  focus (refine gc_seq ?_; refine gc_region ?_; refine gC rfl rfl rfl rfl rfl ?_; refine gO ?_; refine gc_seq ?_)
  refine gc_if_dec rfl (fun h => ?_) (fun h => ?_)
  · have hlt : k < s.sizes.length := by omega
    obtain ⟨ad, rfl, hb, hce, hsz⟩ := hscell k hlt
    focus (refine gc_skip ?_; refine gx_next ?_; refine gc_seq ?_; refine gc_block ?_; refine gc_seq ?_; refine gc_region ?_; apply gw_d; exact w_index rfl rfl rfl rfl (by with_reducible exact rfl) (by omega); apply gw_d; exact w_load_at rfl rfl rfl (by assumption) (by assumption); refine gM rfl rfl (by conv => (lhs; whnf)) ?_; refine gO ?_; refine gc_seq ?_; refine gc_seq ?_; refine gc_region ?_; refine gM rfl rfl (by conv => (lhs; whnf)) ?_; refine gM rfl rfl (by conv => (lhs; whnf)) ?_; apply gw_d; exact det_eq (w_lookup strLawC rfl rfl rfl rfl .here) (setM_has _ _); refine gO ?_)
    refine gc_if rfl (fun h => ?_) (fun h => ?_)
    · focus (refine gc_seq ?_; refine gc_region ?_; refine gM rfl rfl (by conv => (lhs; whnf)) ?_; refine gO ?_; refine gc_ret ?_; refine gx_then_ret ?_; refine gx_block_ret ?_; refine gx_then_ret ?_; refine gx_then_ret ?_; refine gx_block_ret ?_; refine gx_then_ret ?_)
      refine gx_ret1 (v := .int _ _) rfl rfl (fun _ _ => ?_)
      unfold wholeE
      rw [if_neg hN, if_neg (by rw [hI]; decide), if_neg hM, if_pos (dupL_yes hlt h)]
    · focus (refine gc_skip ?_; refine gx_next ?_; refine gc_region ?_; refine gM rfl rfl (by conv => (lhs; whnf)) ?_; refine gM rfl rfl (by conv => (lhs; whnf)) ?_)
      refine gw_mapSet (k := s.sizes[k]) (v := .bool true) strLawC rfl rfl rfl rfl .here ?_
      rw [← setM_snoc, ← List.take_succ_eq_append_getElem hlt]
      focus (refine gw_nil ?_; refine gx_block ?_; refine gx_next ?_; refine gc_region ?_; apply gw_d; exact det_ar rfl rfl rfl rfl rfl (by omega); refine gM rfl rfl (by conv => (lhs; whnf)) ?_; refine gw_nil ?_)
      exact gx_round (k + 1) ⟨by omega, dupL_snoc hlt hJ h⟩ (by omega) (by repeat (first | exact Keeps.refl | refine Keeps.upd rfl ?_ | refine Keeps.sets rfl ?_ | refine Keeps.havoc rfl ?_)) ⟨rfl, trivial⟩ (Sub.all _)
  obtain rfl : k = s.sizes.length := by omega
  obtain ⟨_, _, hv, hpc, hpm⟩ := len_small h3
  injection hv with e1 e2 e3
  subst e1 e3
  obtain ⟨_, _, hv, huc, hum⟩ := len_small h4
  injection hv with e1 e2 e3
  subst e1 e3
  obtain ⟨_, _, hv, hec, hem⟩ := len_small h5
  injection hv with e1 e2 e3
  subst e1 e3
  obtain ⟨_, _, hv, hoc, hom⟩ := len_small h6
  injection hv with e1 e2 e3
  subst e1 e3
  have hD : ¬ dupL s.sizes s.sizes.length = true := by rw [hJ]; decide
  have hS : ¬ (s.sizes.any fun x => !sizeB' x) = true := by rw [hI]; decide
  have h5e : (s.sizes.length > 12 ∨ s.pieces.length > 12 ∨ s.uses.length > 12) ∨ (s.seams.length > 24 ∨ s.ops.length > 16) → wholeE s = 5 := fun h => by
    unfold wholeE
    rw [if_neg hN, if_neg hS, if_neg hM, if_neg hD]
    rcases h with h | h
    · exact if_pos h
    · split
      all_goals first | rfl | exact if_pos h
  focus (refine gc_exit ?_; refine gx_then_exit ?_; refine gx_then_exit ?_; refine gx_block_exit ?_; refine gx_next ?_; refine gc_seq ?_; refine gc_seq ?_; refine gc_region ?_; refine gF rfl rfl rfl ?_; apply gw_d; exact w_load_box rfl rfl rfl (.there .here) rfl; refine gL rfl rfl rfl ?_; refine gC rfl rfl rfl rfl rfl ?_; refine gM rfl rfl (by conv => (lhs; whnf)) ?_; refine gw_guard_dec rfl rfl (fun _ => ?_) (fun _ => ?_); refine gU rfl ?_; refine gU rfl ?_; refine gU rfl ?_; refine gU rfl ?_; apply gw_d; exact det_pick_t (v := .bool _) rfl rfl rfl rfl; refine gM rfl rfl (by conv => (lhs; whnf)) ?_; refine gU rfl ?_; refine gU rfl ?_; refine gU rfl ?_; refine gU rfl ?_; apply gw_d; exact det_pick_t (v := .bool _) rfl rfl rfl rfl; refine gO ?_; refine gc_if_true rfl ?_; refine gc_seq ?_; refine gc_region ?_; refine gM rfl rfl (by conv => (lhs; whnf)) ?_; refine gO ?_; refine gc_ret ?_; refine gx_then_ret ?_; rotate_left; refine gF rfl rfl rfl ?_; apply gw_d; exact w_load_box rfl rfl rfl (.there .here) rfl; refine gL rfl rfl rfl ?_; refine gC rfl rfl rfl rfl rfl ?_; apply gw_d; exact det_pick_f (v := .bool _) rfl rfl rfl rfl; refine gM rfl rfl (by conv => (lhs; whnf)) ?_; refine gw_guard_dec rfl rfl (fun _ => ?_) (fun _ => ?_); refine gU rfl ?_; refine gU rfl ?_; refine gU rfl ?_; refine gU rfl ?_; apply gw_d; exact det_pick_t (v := .bool _) rfl rfl rfl rfl; refine gO ?_; refine gc_if_true rfl ?_; refine gc_seq ?_; refine gc_region ?_; refine gM rfl rfl (by conv => (lhs; whnf)) ?_; refine gO ?_; refine gc_ret ?_; refine gx_then_ret ?_; rotate_left; refine gF rfl rfl rfl ?_; apply gw_d; exact w_load_box rfl rfl rfl (.there .here) rfl; refine gL rfl rfl rfl ?_; refine gC rfl rfl rfl rfl rfl ?_; apply gw_d; exact det_pick_f (v := .bool _) rfl rfl rfl rfl; refine gO ?_; refine gc_if_dec rfl (fun _ => ?_) (fun _ => ?_); refine gc_seq ?_; refine gc_region ?_; refine gM rfl rfl (by conv => (lhs; whnf)) ?_; refine gO ?_; refine gc_ret ?_; refine gx_then_ret ?_; rotate_left; refine gc_skip ?_; refine gx_next ?_; refine gc_seq ?_; refine gc_seq ?_; refine gc_region ?_; refine gF rfl rfl rfl ?_; apply gw_d; exact w_load_box rfl rfl rfl (.there .here) rfl; refine gL rfl rfl rfl ?_; refine gC rfl rfl rfl rfl rfl ?_; refine gM rfl rfl (by conv => (lhs; whnf)) ?_; refine gw_guard_dec rfl rfl (fun _ => ?_) (fun _ => ?_); refine gU rfl ?_; refine gU rfl ?_; refine gU rfl ?_; refine gU rfl ?_; apply gw_d; exact det_pick_t (v := .bool _) rfl rfl rfl rfl; refine gO ?_; refine gc_if_true rfl ?_; refine gc_seq ?_; refine gc_region ?_; refine gM rfl rfl (by conv => (lhs; whnf)) ?_; refine gO ?_; refine gc_ret ?_; refine gx_then_ret ?_; rotate_left; refine gF rfl rfl rfl ?_; apply gw_d; exact w_load_box rfl rfl rfl (.there .here) rfl; refine gL rfl rfl rfl ?_; refine gC rfl rfl rfl rfl rfl ?_; apply gw_d; exact det_pick_f (v := .bool _) rfl rfl rfl rfl; refine gO ?_; refine gc_if_dec rfl (fun _ => ?_) (fun _ => ?_); refine gc_seq ?_; refine gc_region ?_; refine gM rfl rfl (by conv => (lhs; whnf)) ?_; refine gO ?_; refine gc_ret ?_; refine gx_then_ret ?_; rotate_left; refine gc_skip ?_; refine gx_next ?_; refine gc_seq ?_; refine gc_seq ?_; refine gc_region ?_; refine gF rfl rfl rfl ?_; apply gw_d; exact w_load_box rfl rfl rfl (.there .here) rfl; refine gL rfl rfl rfl ?_; refine gM rfl rfl (by conv => (lhs; whnf)) ?_; refine gO ?_; refine gc_block ?_; rotate_left)
  · refine gx_ret1 (v := .int _ _) rfl rfl (fun _ _ => ?_)
    rw [h5e (by omega)]
  · refine gx_ret1 (v := .int _ _) rfl rfl (fun _ _ => ?_)
    rw [h5e (by omega)]
  · refine gx_ret1 (v := .int _ _) rfl rfl (fun _ _ => ?_)
    rw [h5e (by omega)]
  · refine gx_ret1 (v := .int _ _) rfl rfl (fun _ _ => ?_)
    rw [h5e (by omega)]
  · refine gx_ret1 (v := .int _ _) rfl rfl (fun _ _ => ?_)
    rw [h5e (by omega)]
  refine gc_loopK (σ := Nat) [88, 89, 90, 9, 91, 92, 93, 94, 95, 96, 2, 97, 87] (fun k => [(87, .int .i64 k)]) (fun k => k ≤ s.multiples.length ∧ (s.multiples.take k).any farM = false) (fun k => s.multiples.length - k) 0 ⟨Nat.zero_le _, rfl⟩ ⟨rfl, trivial⟩ ?_
  rintro k base3 ⟨hk3, hF⟩
  focus (refine gc_seq ?_; refine gc_region ?_; refine gC rfl rfl rfl rfl rfl ?_; refine gO ?_; refine gc_seq ?_)
  refine gc_if_dec rfl (fun h => ?_) (fun h => ?_)
  · have hlt : k < s.multiples.length := by omega
    obtain ⟨ad, rfl, hb, hce, _⟩ := hmcell k hlt
    focus (refine gc_skip ?_; refine gx_next ?_; refine gc_seq ?_; refine gc_block ?_; refine gc_seq ?_; refine gc_region ?_; apply gw_d; exact w_index rfl rfl rfl rfl (by with_reducible exact rfl) (by omega); apply gw_d; exact w_load_at rfl rfl rfl (by assumption) (by assumption); refine gM rfl rfl (by conv => (lhs; whnf)) ?_; refine gN ?_; refine gM rfl rfl (by conv => (lhs; whnf)) ?_; refine gC rfl rfl rfl rfl rfl ?_; refine gM rfl rfl (by conv => (lhs; whnf)) ?_; refine gw_guard_dec rfl rfl (fun _ => ?_) (fun _ => ?_); refine gU rfl ?_; refine gU rfl ?_; apply gw_d; exact det_pick_t (v := .bool _) rfl rfl rfl rfl; refine gO ?_; refine gc_if_true rfl ?_; refine gc_seq ?_; refine gc_region ?_; refine gM rfl rfl (by conv => (lhs; whnf)) ?_; refine gO ?_; refine gc_ret ?_; refine gx_block_ret ?_; refine gx_then_ret ?_; refine gx_then_ret ?_; refine gx_block_ret ?_; refine gx_then_ret ?_; rotate_left; refine gM rfl rfl (by conv => (lhs; whnf)) ?_; refine gC rfl rfl rfl rfl rfl ?_; apply gw_d; exact det_pick_f (v := .bool _) rfl rfl rfl rfl; refine gO ?_; refine gc_if_dec rfl (fun _ => ?_) (fun _ => ?_); refine gc_seq ?_; refine gc_region ?_; refine gM rfl rfl (by conv => (lhs; whnf)) ?_; refine gO ?_; refine gc_ret ?_; refine gx_block_ret ?_; refine gx_then_ret ?_; refine gx_then_ret ?_; refine gx_block_ret ?_; refine gx_then_ret ?_; rotate_left; refine gc_skip ?_; refine gx_block ?_; refine gx_next ?_; refine gc_region ?_; apply gw_d; exact det_ar rfl rfl rfl rfl rfl (by omega); refine gM rfl rfl (by conv => (lhs; whnf)) ?_; refine gw_nil ?_; rotate_left)
    · refine gx_ret1 (v := .int _ _) rfl rfl (fun _ _ => ?_)
      unfold wholeE
      rw [if_neg hN, if_neg hS, if_neg hM, if_neg hD, if_neg (by omega), if_neg (by omega), if_pos (any_at hlt (by unfold farM; simp only [Bool.or_eq_true, decide_eq_true_eq]; left; assumption))]
    · refine gx_ret1 (v := .int _ _) rfl rfl (fun _ _ => ?_)
      unfold wholeE
      rw [if_neg hN, if_neg hS, if_neg hM, if_neg hD, if_neg (by omega), if_neg (by omega), if_pos (any_at hlt (by unfold farM; simp only [Bool.or_eq_true, decide_eq_true_eq]; right; assumption))]
    · exact gx_round (k + 1) ⟨by omega, take_any_snoc hlt hF (by unfold farM; simp only [Bool.or_eq_false_iff, decide_eq_false_iff_not]; constructor <;> assumption)⟩ (by omega) (by repeat (first | exact Keeps.refl | refine Keeps.upd rfl ?_ | refine Keeps.sets rfl ?_ | refine Keeps.havoc rfl ?_)) ⟨rfl, trivial⟩ (Sub.all _)
  obtain rfl : k = s.multiples.length := by omega
  rw [List.take_length] at hF
  focus (refine gc_exit ?_; refine gx_then_exit ?_; refine gx_then_exit ?_; refine gx_block_exit ?_; refine gx_next ?_; refine gc_seq ?_; refine gc_region ?_; refine gM rfl rfl (by conv => (lhs; whnf)) ?_; refine gO ?_; refine gc_ret ?_)
  refine gx_ret1 (v := .int _ _) rfl rfl (fun _ _ => ?_)
  unfold wholeE
  rw [if_neg hN, if_neg hS, if_neg hM, if_neg hD, if_neg (by omega), if_neg (by omega), if_neg (by rw [hF]; decide)]

/-! ### Edges by their indices -/
def isEdgeB (s : Sty) (p e : Int) : Bool := decide (0 ≤ p) && decide (p < s.pieces.length) && decide (0 ≤ e) && decide (e < (((s.pieces[p.toNat]?).map (·.edges.length)).getD 0 : Nat))
theorem isEdge_ok (w : World) (v : Value) (s : Sty) (p e : Int) (hs : StyV w w.heap.size v s) : Ok Tryz.prog 89 [v, .int .i64 p, .int .i64 e].toArray w fun r _ => r = .bool (isEdgeB s p e) := by
  obtain ⟨As, cs, Am, cm, Ap, cp, Au, cu, Ae, ce, Ao, co, rfl, hnm, h1, h2, h3, h4, h5, h6⟩ := hs
  obtain ⟨_, _, hv, hpc, hpm⟩ := len_small h3
  injection hv with e1 e2 e3
  subst e1 e3
  by_cases hp : 0 ≤ p ∧ p < (s.pieces.length : Int)
  · obtain ⟨k, rfl⟩ : ∃ k : Nat, p = k := ⟨p.toNat, by omega⟩
    have hk : k < s.pieces.length := by omega
    obtain ⟨ad, _, hv, _, _, hb, hcell⟩ := h3.at' 7 rfl (by omega)
    injection hv with e1 e2 e3
    subst e1 e3
    obtain ⟨cs, hce, Ae', ce', _, _, _, _, _, _, rfl, _, hed, _⟩ := hcell k hk
    have hce1 := hce 1 _ rfl
    have hg : isEdgeB s k e = (decide (0 ≤ e) && decide (e < s.pieces[k].edges.length)) := by
      unfold isEdgeB
      rw [Int.toNat_natCast, List.getElem?_eq_getElem hk]
      have h1 : (0 : Int) ≤ (k : Int) := by omega
      simp [h1, hp.2]
    rw [hg]
    refine ok_enter Tryz.func89 rfl Tryz.ntmps89 rfl ?_
    focus (refine gc_seq ?_; refine gc_region ?_; refine gw_boxd (v := .agg _) rfl rfl (fun _ => ?_); refine gM rfl rfl (by conv => (lhs; whnf)) ?_; refine gN ?_; refine gM rfl rfl (by conv => (lhs; whnf)) ?_; refine gC rfl rfl rfl rfl rfl ?_; refine gM rfl rfl (by conv => (lhs; whnf)) ?_; refine gM rfl rfl (by conv => (lhs; whnf)) ?_; refine gF rfl rfl rfl ?_; apply gw_d; exact w_load_box rfl rfl rfl .here rfl; refine gL rfl rfl rfl ?_; refine gC rfl rfl rfl rfl rfl ?_; apply gw_d; exact det_pick_t (v := .bool _) rfl rfl rfl rfl; refine gM rfl rfl (by conv => (lhs; whnf)) ?_; refine gw_guard_dec rfl rfl (fun _ => ?_) (fun _ => ?_); refine gM rfl rfl (by conv => (lhs; whnf)) ?_; refine gC rfl rfl rfl rfl rfl ?_; apply gw_d; exact det_pick_t (v := .bool _) rfl rfl rfl rfl; refine gM rfl rfl (by conv => (lhs; whnf)) ?_; refine gw_guard_dec rfl rfl (fun _ => ?_) (fun _ => ?_); refine gM rfl rfl (by conv => (lhs; whnf)) ?_; refine gF rfl rfl rfl ?_; apply gw_d; exact w_load_box rfl rfl rfl .here rfl; refine gM rfl rfl (by conv => (lhs; whnf)) ?_; apply gw_d; exact w_index rfl rfl rfl rfl (by with_reducible exact rfl) (by omega); refine gF rfl rfl rfl ?_; apply gw_d; exact w_load_fld rfl rfl rfl (by assumption) (by assumption); refine gL rfl rfl rfl ?_; refine gC rfl rfl rfl rfl rfl ?_; apply gw_d; exact det_pick_t (v := .bool _) rfl rfl rfl rfl; refine gM rfl rfl (by conv => (lhs; whnf)) ?_; refine gO ?_; refine gc_ret ?_; rotate_left; refine gU rfl ?_; refine gU rfl ?_; refine gU rfl ?_; refine gU rfl ?_; refine gU rfl ?_; refine gU rfl ?_; refine gU rfl ?_; refine gU rfl ?_; refine gU rfl ?_; apply gw_d; exact det_pick_f (v := .bool _) rfl rfl rfl rfl; refine gM rfl rfl (by conv => (lhs; whnf)) ?_; refine gO ?_; refine gc_ret ?_; rotate_left; refine gU rfl ?_; refine gU rfl ?_; apply gw_d; exact det_pick_f (v := .bool _) rfl rfl rfl rfl; refine gM rfl rfl (by conv => (lhs; whnf)) ?_; refine gU rfl ?_; refine gU rfl ?_; refine gU rfl ?_; refine gU rfl ?_; refine gU rfl ?_; refine gU rfl ?_; refine gU rfl ?_; refine gU rfl ?_; refine gU rfl ?_; apply gw_d; exact det_pick_f (v := .bool _) rfl rfl rfl rfl; refine gM rfl rfl (by conv => (lhs; whnf)) ?_; refine gO ?_; refine gc_ret ?_; rotate_left)
    all_goals first | (exfalso; omega) | (refine gx_ret1 (v := .bool _) rfl rfl (fun _ _ => ?_); simp [*])
  · have hg : isEdgeB s p e = false := by
      unfold isEdgeB
      by_cases h1 : 0 ≤ p
      · have h2 : ¬ p < (s.pieces.length : Int) := fun h => hp ⟨h1, h⟩
        simp [h2]
      · simp [h1]
    rw [hg]
    refine ok_enter Tryz.func89 rfl Tryz.ntmps89 rfl ?_
    focus (refine gc_seq ?_; refine gc_region ?_; refine gw_boxd (v := .agg _) rfl rfl (fun _ => ?_); refine gM rfl rfl (by conv => (lhs; whnf)) ?_; refine gN ?_; refine gM rfl rfl (by conv => (lhs; whnf)) ?_; refine gC rfl rfl rfl rfl rfl ?_; refine gM rfl rfl (by conv => (lhs; whnf)) ?_; refine gw_guard_dec rfl rfl (fun _ => ?_) (fun _ => ?_); refine gM rfl rfl (by conv => (lhs; whnf)) ?_; refine gF rfl rfl rfl ?_; apply gw_d; exact w_load_box rfl rfl rfl .here rfl; refine gL rfl rfl rfl ?_; refine gC rfl rfl rfl rfl rfl ?_; apply gw_d; exact det_pick_t (v := .bool _) rfl rfl rfl rfl; refine gM rfl rfl (by conv => (lhs; whnf)) ?_; refine gw_guard_dec rfl rfl (fun _ => ?_) (fun _ => ?_); refine gM rfl rfl (by conv => (lhs; whnf)) ?_; refine gC rfl rfl rfl rfl rfl ?_; apply gw_d; exact det_pick_t (v := .bool _) rfl rfl rfl rfl; refine gM rfl rfl (by conv => (lhs; whnf)) ?_; refine gw_guard_dec rfl rfl (fun _ => ?_) (fun _ => ?_); refine gM rfl rfl (by conv => (lhs; whnf)) ?_; refine gF rfl rfl rfl ?_; apply gw_d; exact w_load_box rfl rfl rfl .here rfl; refine gM rfl rfl (by conv => (lhs; whnf)) ?_; rotate_left; refine gU rfl ?_; refine gU rfl ?_; refine gU rfl ?_; refine gU rfl ?_; refine gU rfl ?_; refine gU rfl ?_; refine gU rfl ?_; refine gU rfl ?_; refine gU rfl ?_; apply gw_d; exact det_pick_f (v := .bool _) rfl rfl rfl rfl; refine gM rfl rfl (by conv => (lhs; whnf)) ?_; refine gO ?_; refine gc_ret ?_; rotate_left; refine gU rfl ?_; refine gU rfl ?_; apply gw_d; exact det_pick_f (v := .bool _) rfl rfl rfl rfl; refine gM rfl rfl (by conv => (lhs; whnf)) ?_; refine gU rfl ?_; refine gU rfl ?_; refine gU rfl ?_; refine gU rfl ?_; refine gU rfl ?_; refine gU rfl ?_; refine gU rfl ?_; refine gU rfl ?_; refine gU rfl ?_; apply gw_d; exact det_pick_f (v := .bool _) rfl rfl rfl rfl; refine gM rfl rfl (by conv => (lhs; whnf)) ?_; refine gO ?_; refine gc_ret ?_; rotate_left; refine gU rfl ?_; refine gU rfl ?_; refine gU rfl ?_; refine gU rfl ?_; refine gU rfl ?_; apply gw_d; exact det_pick_f (v := .bool _) rfl rfl rfl rfl; refine gM rfl rfl (by conv => (lhs; whnf)) ?_; refine gU rfl ?_; refine gU rfl ?_; apply gw_d; exact det_pick_f (v := .bool _) rfl rfl rfl rfl; refine gM rfl rfl (by conv => (lhs; whnf)) ?_; refine gU rfl ?_; refine gU rfl ?_; refine gU rfl ?_; refine gU rfl ?_; refine gU rfl ?_; refine gU rfl ?_; refine gU rfl ?_; refine gU rfl ?_; refine gU rfl ?_; apply gw_d; exact det_pick_f (v := .bool _) rfl rfl rfl rfl; refine gM rfl rfl (by conv => (lhs; whnf)) ?_; refine gO ?_; refine gc_ret ?_; rotate_left)
    all_goals first | (exfalso; omega) | (refine gx_ret1 (v := .bool _) rfl rfl (fun _ _ => ?_); rfl)
end Go.Proofs.YtckhibfbdnoigaaGreatDoor

/- Contracts: operations one by one. -/
namespace Go.Proofs.YtckhibfbdnoigaaGreatDoor
open Go.RowKit
set_option maxRecDepth 100000
set_option maxHeartbeats 2000000

def areIx (l : List Int) (n : Int) : Bool := l.all fun i => decide (0 ≤ i) && decide (i < n)
theorem areIx_no {l : List Int} {n : Int} {k : Nat} (hk : k < l.length) (h : l[k] < 0 ∨ l[k] ≥ n) : areIx l n = false := by
  unfold areIx
  rw [List.all_eq_false]
  exact ⟨l[k], List.getElem_mem hk, by simp; omega⟩
theorem areIx_snoc {l : List Int} {n : Int} {k : Nat} (hk : k < l.length) (hI : areIx (l.take k) n = true) (h0 : 0 ≤ l[k]) (h : l[k] < n) : areIx (l.take (k + 1)) n = true := by
  unfold areIx at *
  rw [List.take_succ_eq_append_getElem hk, List.all_append, hI]
  simp [h0, h]
theorem areIx_at {l : List Int} {n : Int} (h : areIx l n = true) : ∀ x ∈ l, 0 ≤ x ∧ x < n := fun x hx => by
  unfold areIx at h
  have := List.all_eq_true.1 h x hx
  simpa using this
theorem areIx_ok (w : World) (v : Value) (l : List Int) (n : Int) (hl : Sl rInt w w.heap.size v l) : Ok Tryz.prog 106 [v, .int .i64 n].toArray w fun r _ => r = .bool (areIx l n) := by
  obtain ⟨A, c, rfl, hc, hm, hcell⟩ := hl.int
  refine ok_enter Tryz.func106 rfl Tryz.ntmps106 rfl ?_
  focus (refine gc_seq ?_; refine gc_region ?_; refine gM rfl rfl (by conv => (lhs; whnf)) ?_; refine gO ?_; refine gc_seq ?_; refine gc_seq ?_; refine gc_region ?_; refine gM rfl rfl (by conv => (lhs; whnf)) ?_; refine gL rfl rfl rfl ?_; refine gM rfl rfl (by conv => (lhs; whnf)) ?_; refine gO ?_; refine gc_block ?_)
  refine gc_loop (σ := Nat) [10, 11, 12, 6, 13, 14, 15, 16, 17, 18, 19, 4, 20, 9] (fun k => [(9, .int .i64 k)]) (fun _ => []) (fun k => k ≤ l.length ∧ areIx (l.take k) n = true) (fun k => l.length - k) 0 ⟨Nat.zero_le _, rfl⟩ ⟨rfl, trivial⟩ .nil ?_
  rintro k base ⟨hk, hI⟩
  focus (refine gc_seq ?_; refine gc_region ?_; refine gC rfl rfl rfl rfl rfl ?_; refine gO ?_; refine gc_seq ?_)
  refine gc_if_dec rfl (fun h => ?_) (fun h => ?_)
  · have hlt : k < l.length := by omega
    obtain ⟨ad, rfl, hb, hce, hi⟩ := hcell k hlt
    focus (refine gc_skip ?_; refine gx_next ?_; refine gc_seq ?_; refine gc_block ?_; refine gc_seq ?_; refine gc_region ?_; apply gw_d; exact w_index rfl rfl rfl rfl (by with_reducible exact rfl) (by omega); apply gw_d; exact w_load_at rfl rfl rfl (by assumption) (by assumption); refine gM rfl rfl (by conv => (lhs; whnf)) ?_; refine gN ?_; refine gM rfl rfl (by conv => (lhs; whnf)) ?_; refine gC rfl rfl rfl rfl rfl ?_; refine gM rfl rfl (by conv => (lhs; whnf)) ?_; refine gw_guard_dec rfl rfl (fun _ => ?_) (fun _ => ?_); refine gU rfl ?_; refine gU rfl ?_; refine gU rfl ?_; apply gw_d; exact det_pick_t (v := .bool _) rfl rfl rfl rfl; refine gO ?_; refine gc_if_true rfl ?_; refine gc_seq ?_; refine gc_region ?_; refine gM rfl rfl (by conv => (lhs; whnf)) ?_; refine gO ?_; refine gc_ret ?_; refine gx_block_ret ?_; refine gx_then_ret ?_; refine gx_then_ret ?_; refine gx_block_ret ?_; refine gx_then_ret ?_; rotate_left; refine gM rfl rfl (by conv => (lhs; whnf)) ?_; refine gM rfl rfl (by conv => (lhs; whnf)) ?_; refine gC rfl rfl rfl rfl rfl ?_; apply gw_d; exact det_pick_f (v := .bool _) rfl rfl rfl rfl; refine gO ?_; refine gc_if_dec rfl (fun _ => ?_) (fun _ => ?_); refine gc_seq ?_; refine gc_region ?_; refine gM rfl rfl (by conv => (lhs; whnf)) ?_; refine gO ?_; refine gc_ret ?_; refine gx_block_ret ?_; refine gx_then_ret ?_; refine gx_then_ret ?_; refine gx_block_ret ?_; refine gx_then_ret ?_; rotate_left; refine gc_skip ?_; refine gx_block ?_; refine gx_next ?_; refine gc_region ?_; apply gw_d; exact det_ar rfl rfl rfl rfl rfl (by omega); refine gM rfl rfl (by conv => (lhs; whnf)) ?_; refine gw_nil ?_; rotate_left)
    · refine gx_ret1 (v := .bool _) rfl rfl (fun _ _ => ?_)
      rw [areIx_no hlt (by omega)]
    · refine gx_ret1 (v := .bool _) rfl rfl (fun _ _ => ?_)
      rw [areIx_no hlt (by omega)]
    · exact gx_round (k + 1) ⟨by omega, areIx_snoc hlt hI (by omega) (by omega)⟩ (by omega) (by repeat (first | exact Keeps.refl | refine Keeps.upd rfl ?_ | refine Keeps.sets rfl ?_ | refine Keeps.havoc rfl ?_)) ⟨rfl, trivial⟩ .nil
  · focus (refine gc_exit ?_; refine gx_then_exit ?_; refine gx_then_exit ?_; refine gx_block_exit ?_; refine gx_next ?_; refine gc_seq ?_; refine gc_region ?_; refine gM rfl rfl (by conv => (lhs; whnf)) ?_; refine gO ?_; refine gc_ret ?_)
    refine gx_ret1 (v := .bool _) rfl rfl (fun _ _ => ?_)
    rw [List.take_of_length_le (by omega)] at hI
    rw [hI]

theorem repeats_ok (w : World) (v : Value) (l : List Int) (hl : Sl rInt w w.heap.size v l) : Ok Tryz.prog 107 [v].toArray w fun r _ => r = .bool (dupL l l.length) := by
  obtain ⟨A, c, rfl, hc, hm, hcell⟩ := hl.int
  refine ok_enter Tryz.func107 rfl Tryz.ntmps107 rfl ?_
  focus (refine gc_seq ?_; refine gc_region ?_; refine gM rfl rfl (by conv => (lhs; whnf)) ?_; refine gN ?_)
  refine gw_makeMap kInt rfl (fun bm => ?_)
  focus (refine gM rfl rfl (by conv => (lhs; whnf)) ?_; refine gO ?_; refine gc_seq ?_; refine gc_seq ?_; refine gc_region ?_; refine gM rfl rfl (by conv => (lhs; whnf)) ?_; refine gL rfl rfl rfl ?_; refine gM rfl rfl (by conv => (lhs; whnf)) ?_; refine gO ?_; refine gc_block ?_)
  refine gc_loop1 (σ := Nat) [10, 11, 12, 5, 13, 14, 15, 2, 16, 17, 18, 9] (fun k => [(9, .int .i64 k)]) (fun k => MapR bm kInt (setM (l.take k))) (fun k => k ≤ l.length ∧ dupL l k = false) (fun k => l.length - k) 0 ⟨Nat.zero_le _, rfl⟩ ⟨rfl, trivial⟩ rfl ?_
  rintro k base ⟨hk, hI⟩
  focus (refine gc_seq ?_; refine gc_region ?_; refine gC rfl rfl rfl rfl rfl ?_; refine gO ?_; refine gc_seq ?_)
  refine gc_if_dec rfl (fun h => ?_) (fun h => ?_)
  · have hlt : k < l.length := by omega
    obtain ⟨ad, rfl, hb, hce, hi⟩ := hcell k hlt
    focus (refine gc_skip ?_; refine gx_next ?_; refine gc_seq ?_; refine gc_block ?_; refine gc_seq ?_; refine gc_region ?_; apply gw_d; exact w_index rfl rfl rfl rfl (by with_reducible exact rfl) (by omega); apply gw_d; exact w_load_at rfl rfl rfl (by assumption) (by assumption); refine gM rfl rfl (by conv => (lhs; whnf)) ?_; refine gO ?_; refine gc_seq ?_; refine gc_seq ?_; refine gc_region ?_; refine gM rfl rfl (by conv => (lhs; whnf)) ?_; refine gM rfl rfl (by conv => (lhs; whnf)) ?_; apply gw_d; exact det_eq (w_lookup (k := l[k]) intLawC rfl rfl rfl rfl .here) (setM_has _ _); refine gO ?_)
    refine gc_if rfl (fun h => ?_) (fun h => ?_)
    · focus (refine gc_seq ?_; refine gc_region ?_; refine gM rfl rfl (by conv => (lhs; whnf)) ?_; refine gO ?_; refine gc_ret ?_; refine gx_then_ret ?_; refine gx_block_ret ?_; refine gx_then_ret ?_; refine gx_then_ret ?_; refine gx_block_ret ?_; refine gx_then_ret ?_)
      refine gx_ret1 (v := .bool _) rfl rfl (fun _ _ => ?_)
      rw [dupL_yes hlt h]
    · focus (refine gc_skip ?_; refine gx_next ?_; refine gc_region ?_; refine gM rfl rfl (by conv => (lhs; whnf)) ?_; refine gM rfl rfl (by conv => (lhs; whnf)) ?_)
      refine gw_mapSet (k := l[k]) (v := .bool true) intLawC rfl rfl rfl rfl .here ?_
      rw [← setM_snoc, ← List.take_succ_eq_append_getElem hlt]
      focus (refine gw_nil ?_; refine gx_block ?_; refine gx_next ?_; refine gc_region ?_; apply gw_d; exact det_ar rfl rfl rfl rfl rfl (by omega); refine gM rfl rfl (by conv => (lhs; whnf)) ?_; refine gw_nil ?_)
      exact gx_round (k + 1) ⟨by omega, dupL_snoc hlt hI h⟩ (by omega) (by repeat (first | exact Keeps.refl | refine Keeps.upd rfl ?_ | refine Keeps.sets rfl ?_ | refine Keeps.havoc rfl ?_)) ⟨rfl, trivial⟩ (Sub.all _)
  · obtain rfl : k = l.length := by omega
    focus (refine gc_exit ?_; refine gx_then_exit ?_; refine gx_then_exit ?_; refine gx_block_exit ?_; refine gx_next ?_; refine gc_seq ?_; refine gc_region ?_; refine gM rfl rfl (by conv => (lhs; whnf)) ?_; refine gO ?_; refine gc_ret ?_)
    refine gx_ret1 (v := .bool _) rfl rfl (fun _ _ => ?_)
    rw [hI]

def opE (l : List Opn) (uses : Int) (i : Nat) : Int := match l[i]? with
  | some o => if ¬ nameB o.name = true then 1 else if ((l.take i).any fun x => eqS x.name o.name) = true then 7 else if o.machine < 0 ∨ o.machine ≥ 8 ∨ o.minutes < 1 ∨ o.minutes > 10000 then 3 else
    if areIx o.after l.length = false ∨ (0 ≤ uses ∧ areIx o.uses uses = false) then 3 else if dupL o.after o.after.length = true ∨ (0 ≤ uses ∧ dupL o.uses o.uses.length = true) then 7 else 0
  | none => 0

theorem checkOne_ok (w : World) (v : Value) (l : List Opn) (i : Nat) (uses : Int) (hl : Sl rOp w w.heap.size v l) (hi : i < l.length) :
    Ok Tryz.prog 90 [v, .int .i64 i, .int .i64 uses].toArray w fun r _ => r = .int .i64 (opE l uses i) := by
  obtain ⟨ad, c, rfl, hc, hm, hb, hcell⟩ := hl.at' 5 rfl (by omega)
  obtain ⟨cs, hce, Aa, ca, Au, cu, rfl, ⟨hnm, _⟩, q1, q2⟩ := hcell i hi
  unfold maxLen at hnm
  have ha : Sl rInt w w.heap.size (.slice Aa l[i].after.length ca) l[i].after := q1
  have hu : Sl rInt w w.heap.size (.slice Au l[i].uses.length cu) l[i].uses := q2
  have c1 : ∀ (L : List Res) (w' : World), St w L w' → Ok Tryz.prog 106 [.slice Aa l[i].after.length ca, .int .i64 l.length].toArray w' fun r _ => r = .bool (areIx l[i].after l.length) := fun L w' s => areIx_ok w' _ _ _ (ha.later s)
  have c2 : ∀ (L : List Res) (w' : World), St w L w' → Ok Tryz.prog 106 [.slice Au l[i].uses.length cu, .int .i64 uses].toArray w' fun r _ => r = .bool (areIx l[i].uses uses) := fun L w' s => areIx_ok w' _ _ _ (hu.later s)
  have c3 : ∀ (L : List Res) (w' : World), St w L w' → Ok Tryz.prog 107 [.slice Aa l[i].after.length ca].toArray w' fun r _ => r = .bool (dupL l[i].after l[i].after.length) := fun L w' s => repeats_ok w' _ _ (ha.later s)
  have c4 : ∀ (L : List Res) (w' : World), St w L w' → Ok Tryz.prog 107 [.slice Au l[i].uses.length cu].toArray w' fun r _ => r = .bool (dupL l[i].uses l[i].uses.length) := fun L w' s => repeats_ok w' _ _ (hu.later s)
  have hE : opE l uses i = if ¬ nameB l[i].name = true then 1 else if ((l.take i).any fun x => eqS x.name l[i].name) = true then 7 else if l[i].machine < 0 ∨ l[i].machine ≥ 8 ∨ l[i].minutes < 1 ∨ l[i].minutes > 10000 then 3 else
    if areIx l[i].after l.length = false ∨ (0 ≤ uses ∧ areIx l[i].uses uses = false) then 3 else if dupL l[i].after l[i].after.length = true ∨ (0 ≤ uses ∧ dupL l[i].uses l[i].uses.length = true) then 7 else 0 := by
    unfold opE; rw [List.getElem?_eq_getElem hi]
  rw [hE]
  refine ok_enter Tryz.func90 rfl Tryz.ntmps90 rfl ?_
  focus (refine gc_seq ?_; refine gc_region ?_; refine gM rfl rfl (by conv => (lhs; whnf)) ?_; refine gN ?_; refine gM rfl rfl (by conv => (lhs; whnf)) ?_; refine gM rfl rfl (by conv => (lhs; whnf)) ?_; apply gw_d; exact w_index rfl rfl rfl rfl (by with_reducible exact rfl) (by omega); apply gw_d; exact w_load_elem rfl rfl rfl (by assumption) (by assumption) (by rfl); refine w_alloc rfl (fun _ => ?_); refine w_store_all rfl rfl rfl rfl rfl .here rfl ?_; refine gO ?_; refine gc_seq ?_; refine gc_seq ?_; refine gc_region ?_; refine gF rfl rfl rfl ?_; apply gw_d; exact w_load_box rfl rfl rfl .here rfl; apply gw_d; exact w_call rfl rfl (fun w s => isName_ok w _ (by omega)) rfl; apply gw_d; exact det_not_ rfl rfl rfl; refine gO ?_)
  refine gc_if rfl (fun h => ?_) (fun h => ?_)
  · focus (refine gc_seq ?_; refine gc_region ?_; refine gM rfl rfl (by conv => (lhs; whnf)) ?_; refine gO ?_; refine gc_ret ?_; refine gx_then_ret ?_)
    refine gx_ret1 (v := .int _ _) rfl rfl (fun _ _ => ?_)
    rw [if_pos (by simpa using h)]
  have hN : ¬ ¬ nameB l[i].name = true := by simpa using h
  rw [if_neg hN]
  focus (refine gc_skip ?_; refine gx_next ?_; refine gc_seq ?_; refine gc_seq ?_; refine gc_region ?_; refine gM rfl rfl (by conv => (lhs; whnf)) ?_; refine gM rfl rfl (by conv => (lhs; whnf)) ?_; apply gw_d; exact w_cut_hi rfl rfl rfl rfl (by with_reducible exact rfl) (by omega); refine gL rfl rfl rfl ?_; refine gM rfl rfl (by conv => (lhs; whnf)) ?_; refine gO ?_; refine gc_block ?_)
  refine gc_loopK (σ := Nat) [23, 24, 25, 9, 26, 27, 28, 29, 30, 6, 31, 22] (fun j => [(22, .int .i64 j)]) (fun j => j ≤ i ∧ ((l.take j).any fun x => eqS x.name l[i].name) = false) (fun j => i - j) 0 ⟨Nat.zero_le _, rfl⟩ ⟨rfl, trivial⟩ ?_
  rintro j base ⟨hj, hJ⟩
  focus (refine gc_seq ?_; refine gc_region ?_; refine gC rfl rfl rfl rfl rfl ?_; refine gO ?_; refine gc_seq ?_)
  refine gc_if_dec rfl (fun h4 => ?_) (fun h4 => ?_)
  · have hjl : j < l.length := by omega
    obtain ⟨cs2, hce2, _, _, _, _, rfl, _⟩ := hcell j hjl
    focus (refine gc_skip ?_; refine gx_next ?_; refine gc_seq ?_; refine gc_block ?_; refine gc_seq ?_; refine gc_region ?_; apply gw_d; exact w_index rfl rfl rfl rfl (by with_reducible exact rfl) (by omega); apply gw_d; exact w_load_elem rfl rfl rfl (by assumption) (by assumption) (by rfl); refine w_alloc rfl (fun _ => ?_); refine w_store_all rfl rfl rfl rfl rfl .here rfl ?_; refine gN ?_; refine gF rfl rfl rfl ?_; apply gw_d; exact w_load_box rfl rfl rfl .here rfl; refine gF rfl rfl rfl ?_; apply gw_d; exact w_load_box rfl rfl rfl (.there .here) rfl; apply gw_d; exact det_seq rfl rfl rfl rfl; refine gO ?_)
    refine gc_if rfl (fun h5 => ?_) (fun h5 => ?_)
    · focus (refine gc_seq ?_; refine gc_region ?_; refine gM rfl rfl (by conv => (lhs; whnf)) ?_; refine gO ?_; refine gc_ret ?_; refine gx_block_ret ?_; refine gx_then_ret ?_; refine gx_then_ret ?_; refine gx_block_ret ?_; refine gx_then_ret ?_)
      refine gx_ret1 (v := .int _ _) rfl rfl (fun _ _ => ?_)
      rw [if_pos (any_at (l := l.take i) (k := j) (by rw [List.length_take]; omega) (by rw [List.getElem_take]; exact h5))]
    · focus (refine gc_skip ?_; refine gx_block ?_; refine gx_next ?_; refine gc_region ?_; apply gw_d; exact det_ar rfl rfl rfl rfl rfl (by omega); refine gM rfl rfl (by conv => (lhs; whnf)) ?_; refine gw_nil ?_)
      exact gx_round (j + 1) ⟨by omega, take_any_snoc hjl hJ h5⟩ (by omega) (by repeat (first | exact Keeps.refl | refine Keeps.upd rfl ?_ | refine Keeps.sets rfl ?_ | refine Keeps.havoc rfl ?_)) ⟨rfl, trivial⟩ Sub.tail
  obtain rfl : j = i := by omega
  rw [if_neg (by rw [hJ]; decide)]
  focus (refine gc_exit ?_; refine gx_then_exit ?_; refine gx_then_exit ?_; refine gx_block_exit ?_; refine gx_next ?_; refine gc_seq ?_; refine gc_seq ?_; refine gc_region ?_; refine gF rfl rfl rfl ?_; apply gw_d; exact w_load_box rfl rfl rfl .here rfl; refine gC rfl rfl rfl rfl rfl ?_; refine gM rfl rfl (by conv => (lhs; whnf)) ?_; refine gw_guard_dec rfl rfl (fun _ => ?_) (fun _ => ?_); refine gU rfl ?_; refine gU rfl ?_; refine gU rfl ?_; apply gw_d; exact det_pick_t (v := .bool _) rfl rfl rfl rfl; refine gM rfl rfl (by conv => (lhs; whnf)) ?_; refine gU rfl ?_; refine gU rfl ?_; refine gU rfl ?_; apply gw_d; exact det_pick_t (v := .bool _) rfl rfl rfl rfl; refine gM rfl rfl (by conv => (lhs; whnf)) ?_; refine gU rfl ?_; refine gU rfl ?_; refine gU rfl ?_; apply gw_d; exact det_pick_t (v := .bool _) rfl rfl rfl rfl; refine gO ?_; refine gc_if_true rfl ?_; refine gc_seq ?_; refine gc_region ?_; refine gM rfl rfl (by conv => (lhs; whnf)) ?_; refine gO ?_; refine gc_ret ?_; refine gx_then_ret ?_; rotate_left; refine gF rfl rfl rfl ?_; apply gw_d; exact w_load_box rfl rfl rfl .here rfl; refine gC rfl rfl rfl rfl rfl ?_; apply gw_d; exact det_pick_f (v := .bool _) rfl rfl rfl rfl; refine gM rfl rfl (by conv => (lhs; whnf)) ?_; refine gw_guard_dec rfl rfl (fun _ => ?_) (fun _ => ?_); refine gU rfl ?_; refine gU rfl ?_; refine gU rfl ?_; apply gw_d; exact det_pick_t (v := .bool _) rfl rfl rfl rfl; refine gM rfl rfl (by conv => (lhs; whnf)) ?_; refine gU rfl ?_; refine gU rfl ?_; refine gU rfl ?_; apply gw_d; exact det_pick_t (v := .bool _) rfl rfl rfl rfl; refine gO ?_; refine gc_if_true rfl ?_; refine gc_seq ?_; refine gc_region ?_; refine gM rfl rfl (by conv => (lhs; whnf)) ?_; refine gO ?_; refine gc_ret ?_; refine gx_then_ret ?_; rotate_left; refine gF rfl rfl rfl ?_; apply gw_d; exact w_load_box rfl rfl rfl .here rfl; refine gC rfl rfl rfl rfl rfl ?_; apply gw_d; exact det_pick_f (v := .bool _) rfl rfl rfl rfl; refine gM rfl rfl (by conv => (lhs; whnf)) ?_; refine gw_guard_dec rfl rfl (fun _ => ?_) (fun _ => ?_); refine gU rfl ?_; refine gU rfl ?_; refine gU rfl ?_; apply gw_d; exact det_pick_t (v := .bool _) rfl rfl rfl rfl; refine gO ?_; refine gc_if_true rfl ?_; refine gc_seq ?_; refine gc_region ?_; refine gM rfl rfl (by conv => (lhs; whnf)) ?_; refine gO ?_; refine gc_ret ?_; refine gx_then_ret ?_; rotate_left; refine gF rfl rfl rfl ?_; apply gw_d; exact w_load_box rfl rfl rfl .here rfl; refine gC rfl rfl rfl rfl rfl ?_; apply gw_d; exact det_pick_f (v := .bool _) rfl rfl rfl rfl; refine gO ?_; refine gc_if_dec rfl (fun _ => ?_) (fun _ => ?_); refine gc_seq ?_; refine gc_region ?_; refine gM rfl rfl (by conv => (lhs; whnf)) ?_; refine gO ?_; refine gc_ret ?_; refine gx_then_ret ?_; rotate_left; refine gc_skip ?_; refine gx_next ?_; refine gc_seq ?_; refine gc_seq ?_; refine gc_region ?_; refine gF rfl rfl rfl ?_; apply gw_d; exact w_load_box rfl rfl rfl .here rfl; refine gM rfl rfl (by conv => (lhs; whnf)) ?_; refine gL rfl rfl rfl ?_; rotate_left)
  · refine gx_ret1 (v := .int _ _) rfl rfl (fun _ _ => ?_)
    rw [if_pos (by omega)]
  · refine gx_ret1 (v := .int _ _) rfl rfl (fun _ _ => ?_)
    rw [if_pos (by omega)]
  · refine gx_ret1 (v := .int _ _) rfl rfl (fun _ _ => ?_)
    rw [if_pos (by omega)]
  · refine gx_ret1 (v := .int _ _) rfl rfl (fun _ _ => ?_)
    rw [if_pos (by omega)]
  rw [if_neg (by omega)]
  focus (apply gw_d; exact w_call rfl rfl (c1 _) rfl; apply gw_d; exact det_not_ rfl rfl rfl; refine gM rfl rfl (by conv => (lhs; whnf)) ?_; refine gw_guard rfl rfl (fun _ => ?_) (fun _ => ?_); refine gU rfl ?_; refine gU rfl ?_; refine gU rfl ?_; refine gU rfl ?_; refine gU rfl ?_; refine gU rfl ?_; refine gU rfl ?_; refine gU rfl ?_; refine gU rfl ?_; apply gw_d; exact det_pick_t (v := .bool _) rfl rfl rfl rfl; refine gO ?_; refine gc_if_true rfl ?_; refine gc_seq ?_; refine gc_region ?_; refine gM rfl rfl (by conv => (lhs; whnf)) ?_; refine gO ?_; refine gc_ret ?_; refine gx_then_ret ?_; rotate_left; refine gM rfl rfl (by conv => (lhs; whnf)) ?_; refine gC rfl rfl rfl rfl rfl ?_; refine gM rfl rfl (by conv => (lhs; whnf)) ?_; refine gw_guard_dec rfl rfl (fun _ => ?_) (fun _ => ?_); refine gF rfl rfl rfl ?_; apply gw_d; exact w_load_box rfl rfl rfl .here rfl; refine gM rfl rfl (by conv => (lhs; whnf)) ?_; apply gw_d; exact w_call rfl rfl (c2 _) rfl; apply gw_d; exact det_not_ rfl rfl rfl; apply gw_d; exact det_pick_t (v := .bool _) rfl rfl rfl rfl; apply gw_d; exact det_pick_f (v := .bool _) rfl rfl rfl rfl; refine gO ?_; refine gc_if rfl (fun _ => ?_) (fun _ => ?_); refine gc_seq ?_; refine gc_region ?_; refine gM rfl rfl (by conv => (lhs; whnf)) ?_; refine gO ?_; refine gc_ret ?_; refine gx_then_ret ?_; rotate_left; refine gc_skip ?_; refine gx_next ?_; refine gc_seq ?_; refine gc_seq ?_; refine gc_region ?_; refine gF rfl rfl rfl ?_; apply gw_d; exact w_load_box rfl rfl rfl .here rfl; apply gw_d; exact w_call rfl rfl (c3 _) rfl; refine gM rfl rfl (by conv => (lhs; whnf)) ?_; refine gw_guard rfl rfl (fun _ => ?_) (fun _ => ?_); refine gU rfl ?_; refine gU rfl ?_; refine gU rfl ?_; refine gU rfl ?_; refine gU rfl ?_; refine gU rfl ?_; refine gU rfl ?_; apply gw_d; exact det_pick_t (v := .bool _) rfl rfl rfl rfl; refine gO ?_; refine gc_if_true rfl ?_; refine gc_seq ?_; refine gc_region ?_; refine gM rfl rfl (by conv => (lhs; whnf)) ?_; refine gO ?_; refine gc_ret ?_; refine gx_then_ret ?_; rotate_left; refine gM rfl rfl (by conv => (lhs; whnf)) ?_; refine gC rfl rfl rfl rfl rfl ?_; refine gM rfl rfl (by conv => (lhs; whnf)) ?_; refine gw_guard_dec rfl rfl (fun _ => ?_) (fun _ => ?_); refine gF rfl rfl rfl ?_; apply gw_d; exact w_load_box rfl rfl rfl .here rfl; apply gw_d; exact w_call rfl rfl (c4 _) rfl; apply gw_d; exact det_pick_t (v := .bool _) rfl rfl rfl rfl; apply gw_d; exact det_pick_f (v := .bool _) rfl rfl rfl rfl; refine gO ?_; refine gc_if rfl (fun _ => ?_) (fun _ => ?_); refine gc_seq ?_; refine gc_region ?_; refine gM rfl rfl (by conv => (lhs; whnf)) ?_; refine gO ?_; refine gc_ret ?_; refine gx_then_ret ?_; rotate_left; refine gc_skip ?_; refine gx_next ?_; refine gc_seq ?_; refine gc_region ?_; refine gM rfl rfl (by conv => (lhs; whnf)) ?_; refine gO ?_; refine gc_ret ?_; rotate_left; refine gU rfl ?_; refine gU rfl ?_; refine gU rfl ?_; apply gw_d; exact det_pick_f (v := .bool _) rfl rfl rfl rfl; apply gw_d; exact det_pick_f (v := .bool _) rfl rfl rfl rfl; refine gO ?_; refine gc_if_false rfl ?_; refine gc_skip ?_; refine gx_next ?_; refine gc_seq ?_; refine gc_region ?_; refine gM rfl rfl (by conv => (lhs; whnf)) ?_; refine gO ?_; refine gc_ret ?_; rotate_left; refine gU rfl ?_; refine gU rfl ?_; refine gU rfl ?_; refine gU rfl ?_; refine gU rfl ?_; apply gw_d; exact det_pick_f (v := .bool _) rfl rfl rfl rfl; apply gw_d; exact det_pick_f (v := .bool _) rfl rfl rfl rfl; refine gO ?_; refine gc_if_false rfl ?_; refine gc_skip ?_; refine gx_next ?_; refine gc_seq ?_; refine gc_seq ?_; refine gc_region ?_; refine gF rfl rfl rfl ?_; apply gw_d; exact w_load_box rfl rfl rfl .here rfl; apply gw_d; exact w_call rfl rfl (c3 _) rfl; refine gM rfl rfl (by conv => (lhs; whnf)) ?_; refine gw_guard rfl rfl (fun _ => ?_) (fun _ => ?_); refine gU rfl ?_; refine gU rfl ?_; refine gU rfl ?_; refine gU rfl ?_; refine gU rfl ?_; refine gU rfl ?_; refine gU rfl ?_; apply gw_d; exact det_pick_t (v := .bool _) rfl rfl rfl rfl; refine gO ?_; refine gc_if_true rfl ?_; refine gc_seq ?_; refine gc_region ?_; refine gM rfl rfl (by conv => (lhs; whnf)) ?_; refine gO ?_; refine gc_ret ?_; refine gx_then_ret ?_; rotate_left; refine gM rfl rfl (by conv => (lhs; whnf)) ?_; refine gC rfl rfl rfl rfl rfl ?_; refine gM rfl rfl (by conv => (lhs; whnf)) ?_; refine gw_guard_dec rfl rfl (fun _ => ?_) (fun _ => ?_); refine gF rfl rfl rfl ?_; apply gw_d; exact w_load_box rfl rfl rfl .here rfl; apply gw_d; exact w_call rfl rfl (c4 _) rfl; apply gw_d; exact det_pick_t (v := .bool _) rfl rfl rfl rfl; apply gw_d; exact det_pick_f (v := .bool _) rfl rfl rfl rfl; refine gO ?_; refine gc_if rfl (fun _ => ?_) (fun _ => ?_); refine gc_seq ?_; refine gc_region ?_; refine gM rfl rfl (by conv => (lhs; whnf)) ?_; refine gO ?_; refine gc_ret ?_; refine gx_then_ret ?_; rotate_left; refine gc_skip ?_; refine gx_next ?_; refine gc_seq ?_; refine gc_region ?_; refine gM rfl rfl (by conv => (lhs; whnf)) ?_; refine gO ?_; refine gc_ret ?_; rotate_left; refine gU rfl ?_; refine gU rfl ?_; refine gU rfl ?_; apply gw_d; exact det_pick_f (v := .bool _) rfl rfl rfl rfl; apply gw_d; exact det_pick_f (v := .bool _) rfl rfl rfl rfl; refine gO ?_; refine gc_if_false rfl ?_; refine gc_skip ?_; refine gx_next ?_; refine gc_seq ?_; refine gc_region ?_; refine gM rfl rfl (by conv => (lhs; whnf)) ?_; refine gO ?_; refine gc_ret ?_; rotate_left)
  all_goals
    refine gx_ret1 (v := .int _ _) rfl rfl (fun _ _ => ?_)
    clear c1 c2 c3 c4 hcell hce ha hu q1 q2 hl hE hJ
    congr 1
    symm
    simp only [Bool.not_eq_true', Bool.not_eq_false'] at *
    first
      | (rw [if_pos (.inl (by assumption))])
      | (rw [if_pos (.inr ⟨by assumption, by assumption⟩)])
      | (rw [if_neg (by rintro (h | ⟨h, h'⟩) <;> simp_all), if_pos (.inl (by assumption))])
      | (rw [if_neg (by rintro (h | ⟨h, h'⟩) <;> simp_all), if_pos (.inr ⟨by assumption, by assumption⟩)])
      | (rw [if_neg (by rintro (h | ⟨h, h'⟩) <;> simp_all), if_neg (by rintro (h | ⟨h, h'⟩) <;> simp_all)])
      | (exfalso; omega)
end Go.Proofs.YtckhibfbdnoigaaGreatDoor

/- The order of operations, in plain words; lists of maps of the function's own. -/
namespace Go.Proofs.YtckhibfbdnoigaaGreatDoor
open Go.RowKit
set_option maxRecDepth 100000

/-! ### Keys of maps -/
section
variable {κ : Type} [DecidableEq κ]
theorem aset_keys (m : List (κ × Value)) (k : κ) (v : Value) : (aset m k v).map (·.1) = if k ∈ m.map (·.1) then m.map (·.1) else m.map (·.1) ++ [k] := by
  induction m with
  | nil => simp [aset]
  | cons p m ih =>
    unfold aset
    by_cases h : p.1 = k
    · rw [if_pos h, List.map_cons, List.map_cons, if_pos (by rw [h]; exact List.mem_cons_self), h]
    · rw [if_neg h, List.map_cons, List.map_cons, ih]
      by_cases hm : k ∈ m.map (·.1)
      · rw [if_pos hm, if_pos (List.mem_cons_of_mem _ hm)]
      · rw [if_neg hm, if_neg (by intro hc; rcases List.mem_cons.1 hc with hc | hc; exact h hc.symm; exact hm hc)]
        rfl
theorem aset_nodup {m : List (κ × Value)} (h : (m.map (·.1)).Nodup) (k : κ) (v : Value) : ((aset m k v).map (·.1)).Nodup := by
  rw [aset_keys]
  split
  · exact h
  · rename_i hk
    rw [List.nodup_append]
    exact ⟨h, by simp, fun a ha b hb => by
      rw [List.mem_singleton] at hb
      subst hb
      intro he
      subst he
      exact hk ha⟩
theorem setM_nodup (l : List κ) : ((setM l).map (·.1)).Nodup := by
  unfold setM
  suffices h : ∀ (l : List κ) (m : List (κ × Value)), (m.map (·.1)).Nodup → ((l.foldl (fun m k => aset m k (.bool true)) m).map (·.1)).Nodup from h l [] List.nodup_nil
  intro l
  induction l with
  | nil => intro m h; exact h
  | cons x l ih => intro m h; exact ih _ (aset_nodup h x _)
theorem aget_key {m : List (κ × Value)} {k : κ} : k ∈ m.map (·.1) ↔ (aget m k).isSome = true := by
  induction m with
  | nil => simp [aget_nil]
  | cons p m ih =>
    rw [aget_cons]
    by_cases h : p.1 = k
    · simp [h]
    · have : ¬ k = p.1 := fun hk => h hk.symm
      rw [if_neg h, ← ih]
      simp [this]
theorem setM_keys {l : List κ} {k : κ} : k ∈ (setM l).map (·.1) ↔ k ∈ l := by
  rw [aget_key, setM_get]
  by_cases h : k ∈ l <;> simp [h]
theorem adel_filter {m : List (κ × Value)} (h : (m.map (·.1)).Nodup) (k : κ) : adel m k = m.filter fun p => !decide (p.1 = k) := by
  induction m with
  | nil => rfl
  | cons p m ih =>
    rw [List.map_cons, List.nodup_cons] at h
    unfold adel
    by_cases hp : p.1 = k
    · rw [if_pos hp, List.filter_cons, if_neg (by simp [hp])]
      symm
      apply List.filter_eq_self.2
      intro q hq
      have : ¬ q.1 = k := fun hc => h.1 (by rw [hp, ← hc]; exact List.mem_map_of_mem hq)
      simp [this]
    · rw [if_neg hp, ih h.2, List.filter_cons, if_pos (by simp [hp])]
end

/-! ### The order -/
def afterOf (l : List Opn) (i : Nat) : List Int := ((l[i]?).map (·.after)).getD []
theorem afterOf_get {l : List Opn} {i : Nat} (h : i < l.length) : afterOf l i = l[i].after := by
  unfold afterOf
  rw [List.getElem?_eq_getElem h]
  rfl
def readyB (l : List Opn) (o : List Int) (i : Nat) : Bool := !hasB o (i : Int) && (afterOf l i).all (hasB o)
def nextOf (l : List Opn) (o : List Int) : Option Nat := (List.range l.length).find? (readyB l o)
def arr (l : List Opn) : Nat → List Int → List Int
  | 0, o => o
  | f + 1, o => match nextOf l o with
    | some i => arr l f (o ++ [(i : Int)])
    | none => o
def sortedL (l : List Opn) : List Int := arr l l.length []

def cont (l : List Opn) (o : List Int) (i : Int) : List (Int × Value) := (setM (afterOf l i.toNat)).filter fun p => !hasB o p.1
theorem hasB_snoc {κ : Type} [DecidableEq κ] (o : List κ) (k x : κ) : hasB (o ++ [k]) x = (hasB o x || decide (k = x)) := by
  unfold hasB
  rw [List.any_append]
  simp
theorem cont_nil {l : List Opn} {i : Nat} : cont l [] i = setM (afterOf l i) := by
  unfold cont
  rw [Int.toNat_natCast]
  apply List.filter_eq_self.2
  intro p _
  rfl
theorem cont_del (l : List Opn) (o : List Int) (i k : Int) : adel (cont l o i) k = cont l (o ++ [k]) i := by
  have hn : ((cont l o i).map (·.1)).Nodup := (setM_nodup (afterOf l i.toNat)).sublist ((List.filter_sublist).map _)
  rw [adel_filter hn]
  unfold cont
  rw [List.filter_filter]
  apply List.filter_congr
  intro p _
  rw [hasB_snoc]
  by_cases h : p.1 = k
  · simp [h]
  · have : ¬ k = p.1 := fun hk => h hk.symm
    simp [h, this]
theorem cont_empty {l : List Opn} {o : List Int} {i : Int} : (cont l o i).length = 0 ↔ (afterOf l i.toNat).all (hasB o) = true := by
  rw [List.length_eq_zero_iff]
  unfold cont
  rw [List.filter_eq_nil_iff, List.all_eq_true]
  constructor
  · intro h a ha
    obtain ⟨p, hp, rfl⟩ := List.mem_map.1 (setM_keys.2 ha)
    have := h p hp
    simpa using this
  · intro h p hp
    have := h p.1 (setM_keys.1 (List.mem_map_of_mem hp))
    simp [this]

/-! ### Lists of maps -/
def mapsP (es : List (Nat × List (Int × Value))) (w : World) : Prop := es.Pairwise (fun x y => x.1 ≠ y.1) ∧ ∀ e ∈ es, (MapR e.1 kInt e.2).p w
def MapsR (es : List (Nat × List (Int × Value))) : Res :=
  ⟨fun x => ∃ e ∈ es, x = e.1, mapsP es, fun _ _ h ⟨h1, h2⟩ => ⟨h1, fun e he => (MapR e.1 kInt e.2).stable _ _ (fun b hb => h b ⟨e, he, hb⟩) (h2 e he)⟩⟩
theorem maps_join {A B : List (Nat × List (Int × Value))} {b : Nat} {c : List (Int × Value)} {L : List Res} : Ent (MapR b kInt c :: MapsR (A ++ B) :: L) (MapsR (A ++ (b, c) :: B) :: L) := fun w0 w s => by
  have hsep : ∀ e ∈ A ++ B, e.1 ≠ b := fun e he hc => s.sep.2.2.1 b rfl _ List.mem_cons_self ⟨e, he, hc.symm⟩
  obtain ⟨h1, h2⟩ := s.drop.head
  refine s.merge (fun x hx => ?_) ⟨?_, fun e he => ?_⟩
  · obtain ⟨e, he, rfl⟩ := hx
    rcases List.mem_append.1 he with h | h
    · exact .inr ⟨e, List.mem_append_left _ h, rfl⟩
    · rcases List.mem_cons.1 h with h | h
      · subst h; exact .inl rfl
      · exact .inr ⟨e, List.mem_append_right _ h, rfl⟩
  · rw [List.pairwise_append] at h1 ⊢
    refine ⟨h1.1, List.pairwise_cons.2 ⟨fun e he => (hsep e (List.mem_append_right _ he)).symm, h1.2.1⟩, fun x hx y hy => ?_⟩
    rcases List.mem_cons.1 hy with h | h
    · subst h; exact hsep x (List.mem_append_left _ hx)
    · exact h1.2.2 x hx y h
  · rcases List.mem_append.1 he with h | h
    · exact h2 e (List.mem_append_left _ h)
    · rcases List.mem_cons.1 h with h | h
      · subst h; exact s.head
      · exact h2 e (List.mem_append_right _ h)
theorem maps_split {A B : List (Nat × List (Int × Value))} {e : Nat × List (Int × Value)} {L : List Res} : Ent (MapsR (A ++ e :: B) :: L) (MapR e.1 kInt e.2 :: MapsR (A ++ B) :: L) := fun w0 w s => by
  obtain ⟨hB, ⟨h1, h2⟩, h3, h4, h5⟩ := s
  have hsub : ∀ x ∈ A ++ B, x ∈ A ++ e :: B := fun x hx => by
    rcases List.mem_append.1 hx with h | h
    · exact List.mem_append_left _ h
    · exact List.mem_append_right _ (List.mem_cons_of_mem _ h)
  have he : e ∈ A ++ e :: B := List.mem_append_right _ List.mem_cons_self
  have hne : ∀ x ∈ A ++ B, e.1 ≠ x.1 := fun x hx => by
    rw [List.pairwise_append] at h1
    rcases List.mem_append.1 hx with h | h
    · exact (h1.2.2 x h e List.mem_cons_self).symm
    · exact (List.pairwise_cons.1 h1.2.1).1 x h
  refine ⟨hB, h2 e he, fun b hb => h3 b ⟨e, he, hb⟩, fun b hb q hq hqb => ?_, ⟨h1.sublist ((List.Sublist.refl A).append (List.sublist_cons_self e B)), fun x hx => h2 x (hsub x hx)⟩, fun b ⟨x, hx, hb⟩ => h3 b ⟨x, hsub x hx, hb⟩, fun b ⟨x, hx, hb⟩ => h4 b ⟨x, hsub x hx, hb⟩, h5⟩
  rcases List.mem_cons.1 hq with h | h
  · subst h
    obtain ⟨x, hx, hxb⟩ := hqb
    have : b = e.1 := hb
    exact hne x hx (this.symm.trans hxb)
  · exact h4 b ⟨e, he, hb⟩ q h hqb
theorem maps_read {es : List (Nat × List (Int × Value))} {w0 w : World} {L L' : List Res} (s : St w0 L w) (hp : Pick L (MapsR es) L') {e : Nat × List (Int × Value)} (he : e ∈ es) : (MapR e.1 kInt e.2).p w := (s.pick hp).head.2 e he
theorem gc_maps0 {P : Program} {Q : Exit → Act → World → Prop} {N : Nat} {w0 : World} {L : List Res} {e : Env} {c : Code} (k : GC P Q N w0 (MapsR [] :: L) c e) : GC P Q N w0 L c e := ⟨fun w s =>
  k.h w (s.add (Ext.refl w) ⟨List.Pairwise.nil, fun e he => by cases he⟩ fun b ⟨e, he, _⟩ => by cases he)⟩
theorem w_maplenP {κ : Type} {P : Program} {ops : Array Oper} {N : Nat} {w0 : World} {L : List Res} {e : Env} {o : Oper} {t : TypeId} {x : Operand} {kt vt b : Nat} {kv : κ → Value} {l : List (κ × Value)} [CMap P t kt vt] (hop : o.op = .call { callee := .builtin .len, args := #[x], argTypes := #[t] }) (hw : wantedE N ops e o = true) (hx : ev N e x = .map (some b))
    (hp : ∀ w, St w0 L w → (MapR b kv l).p w) : Det P ops N w0 L o e (.int .i64 l.length) :=
  det_run hw fun w s => by
    obtain ⟨es, clock, h1, h2, _⟩ := hp w s
    have ht := CMap.h (P := P) (t := t) (k := kt) (v := vt)
    unfold mapKV at ht
    split at ht
    · rename_i k' v' hu
      have hget : (getObj b).run P w = .ok (.map es clock) w := by
        unfold getObj
        simp [Sem.run, h1]
      have hlen : es.size = l.length := by have := congrArg List.length h2; simpa using this
      unfold execOp
      simp [hop, resolve, invoke, builtin, hx, Builtin.len_, run_underlying hu, goInt, hget, hlen]
    · cases ht
end Go.Proofs.YtckhibfbdnoigaaGreatDoor

/- Contracts: operations are arranged. -/
namespace Go.Proofs.YtckhibfbdnoigaaGreatDoor
open Go.RowKit
set_option maxRecDepth 100000
set_option maxHeartbeats 2000000

theorem aset_new {κ : Type} [DecidableEq κ] {m : List (κ × Value)} {k : κ} {v : Value} (h : ¬ k ∈ m.map (·.1)) : aset m k v = m ++ [(k, v)] := by
  induction m with
  | nil => rfl
  | cons p m ih =>
    rw [List.map_cons, List.mem_cons, not_or] at h
    unfold aset
    rw [if_neg (fun hp => h.1 hp.symm), ih h.2]
    rfl
theorem aget_at {κ : Type} [DecidableEq κ] {m : List (κ × Value)} (h : (m.map (·.1)).Nodup) {p : κ × Value} (hp : p ∈ m) : aget m p.1 = some p.2 := by
  induction m with
  | nil => cases hp
  | cons q m ih =>
    rw [List.map_cons, List.nodup_cons] at h
    rw [aget_cons]
    rcases List.mem_cons.1 hp with hp | hp
    · subst hp; rw [if_pos rfl]
    · rw [if_neg (fun hq => h.1 (by rw [hq]; exact List.mem_map_of_mem hp)), ih h.2 hp]
theorem aget_out {κ : Type} [DecidableEq κ] {m : List (κ × Value)} {k : κ} (h : ¬ k ∈ m.map (·.1)) : aget m k = none := by
  rw [aget_key] at h
  simpa using h

/-! ### The open operations -/
def openA (T : List (Int × Nat)) : List (Int × Value) := T.map fun t => (t.1, .map (some t.2))
def conts (l : List Opn) (o : List Int) (T : List (Int × Nat)) : List (Nat × List (Int × Value)) := T.map fun t => (t.2, cont l o t.1)
theorem openA_keys (T : List (Int × Nat)) : (openA T).map (·.1) = T.map (·.1) := by
  unfold openA
  rw [List.map_map]
  rfl
theorem openA_len (T : List (Int × Nat)) : (openA T).length = T.length := by simp [openA]
def ixs (n : Nat) : List Int := (List.range n).map (fun i : Nat => (i : Int))
theorem ixs_nodup (n : Nat) : (ixs n).Nodup := by
  unfold ixs
  rw [List.Nodup, List.pairwise_map]
  exact List.nodup_range.imp fun h hc => h (Int.ofNat.inj hc)
theorem ixs_mem {n : Nat} {i : Int} : i ∈ ixs n ↔ 0 ≤ i ∧ i < n := by
  unfold ixs
  rw [List.mem_map]
  constructor
  · rintro ⟨a, ha, rfl⟩
    rw [List.mem_range] at ha
    omega
  · rintro ⟨h1, h2⟩
    exact ⟨i.toNat, List.mem_range.2 (by omega), by omega⟩

theorem find_range {n j : Nat} {p : Nat → Bool} (hj : j < n) (hp : p j = true) (h : ∀ i, i < j → p i = false) : (List.range n).find? p = some j := by
  rw [List.find?_range_eq_some]
  exact ⟨hp, List.mem_range.2 hj, fun i hi => by rw [h i hi]; rfl⟩
theorem arr_step {l : List Opn} {o : List Int} {j f : Nat} (h : nextOf l o = some j) : arr l (f + 1) o = arr l f (o ++ [(j : Int)]) := by
  show (match nextOf l o with | some i => arr l f (o ++ [(i : Int)]) | none => o) = _
  rw [h]
theorem arr_end {l : List Opn} {o : List Int} {f : Nat} (h : nextOf l o = none) : arr l f o = o := by
  cases f with
  | zero => rfl
  | succ f =>
    show (match nextOf l o with | some i => arr l f (o ++ [(i : Int)]) | none => o) = _
    rw [h]

def fullB (l : List Opn) : Bool := decide ((sortedL l).length = l.length)

structure Arr (l : List Opn) (o : List Int) (T : List (Int × Nat)) : Prop where
  keys : T.map (·.1) = (ixs l.length).filter fun i => !hasB o i
  len : o.length + T.length = l.length
  arr : arr l (l.length - o.length) o = sortedL l
theorem Arr.nodup {l : List Opn} {o : List Int} {T : List (Int × Nat)} (h : Arr l o T) : (T.map (·.1)).Nodup := by rw [h.keys]; exact (ixs_nodup _).filter _
theorem Arr.mem {l : List Opn} {o : List Int} {T : List (Int × Nat)} (h : Arr l o T) {j : Nat} (hj : j < l.length) : (j : Int) ∈ T.map (·.1) ↔ hasB o (j : Int) = false := by
  rw [h.keys, List.mem_filter]
  constructor
  · rintro ⟨_, h2⟩; simpa using h2
  · intro h2; exact ⟨ixs_mem.2 (by omega), by simp [h2]⟩
theorem Arr.step {l : List Opn} {o : List Int} {T : List (Int × Nat)} (h : Arr l o T) {j : Nat} (hj : j < l.length) (hr : readyB l o j = true) (hs : ∀ i, i < j → readyB l o i = false) :
    Arr l (o ++ [(j : Int)]) (T.filter fun t => !decide (t.1 = (j : Int))) := by
  have ho : hasB o (j : Int) = false := by
    unfold readyB at hr
    rw [Bool.and_eq_true] at hr
    simpa using hr.1
  have hk : (T.filter fun t => !decide (t.1 = (j : Int))).map (·.1) = (ixs l.length).filter fun i => !hasB (o ++ [(j : Int)]) i := by
    have h1 : (T.filter fun t => !decide (t.1 = (j : Int))).map (·.1) = (T.map (·.1)).filter fun i => !decide (i = (j : Int)) := by
      rw [List.filter_map]; rfl
    rw [h1, h.keys, List.filter_filter]
    apply List.filter_congr
    intro i _
    rw [hasB_snoc]
    by_cases hi : i = (j : Int)
    · simp [hi]
    · have : ¬ (j : Int) = i := fun hc => hi hc.symm
      simp [hi, this]
  have hlen : (T.filter fun t => !decide (t.1 = (j : Int))).length + 1 = T.length := by
    have hm := (h.mem hj).2 ho
    obtain ⟨t, ht, htj⟩ := List.mem_map.1 hm
    obtain ⟨A, B, rfl⟩ := List.append_of_mem ht
    have hnd := h.nodup
    rw [List.map_append, List.map_cons, List.nodup_append] at hnd
    obtain ⟨h1, h2, h3⟩ := hnd
    rw [List.nodup_cons] at h2
    have hA : A.filter (fun t => !decide (t.1 = (j : Int))) = A := List.filter_eq_self.2 fun x hx => by
      have : ¬ x.1 = (j : Int) := fun hc => h3 x.1 (List.mem_map_of_mem hx) t.1 List.mem_cons_self (by rw [hc, htj])
      simp [this]
    have hB : B.filter (fun t => !decide (t.1 = (j : Int))) = B := List.filter_eq_self.2 fun x hx => by
      have : ¬ x.1 = (j : Int) := fun hc => h2.1 (by rw [htj, ← hc]; exact List.mem_map_of_mem hx)
      simp [this]
    rw [List.filter_append, List.filter_cons, if_neg (by simp [htj]), hA, hB]
    simp
    omega
  have hl := h.len
  refine ⟨hk, by simp; omega, ?_⟩
  have : l.length - o.length = (l.length - (o ++ [(j : Int)]).length) + 1 := by simp; omega
  have ha := h.arr
  rw [this, arr_step (find_range hj hr hs)] at ha
  exact ha

theorem mem_erase_nodup {α : Type} {t : α} : ∀ (U : List α) (i : Nat) (hi : i < U.length), U.Nodup → (t ∈ U.eraseIdx i ↔ t ≠ U[i] ∧ t ∈ U)
  | x :: U, 0, _, h => by
    rw [List.nodup_cons] at h
    simp only [List.eraseIdx_cons_zero, List.getElem_cons_zero, List.mem_cons]
    constructor
    · intro ht; exact ⟨fun hc => h.1 (hc ▸ ht), .inr ht⟩
    · rintro ⟨h1, h2 | h2⟩
      · exact absurd h2 h1
      · exact h2
  | x :: U, i + 1, hi, h => by
    rw [List.nodup_cons] at h
    have hi' : i < U.length := by simpa using hi
    have ih := mem_erase_nodup (t := t) U i hi' h.2
    simp only [List.eraseIdx_cons_succ, List.getElem_cons_succ, List.mem_cons, ih]
    constructor
    · rintro (h1 | ⟨h1, h2⟩)
      · subst h1; exact ⟨fun hc => h.1 (hc ▸ List.getElem_mem hi'), .inl rfl⟩
      · exact ⟨h1, .inr h2⟩
    · rintro ⟨h1, h2 | h2⟩
      · exact .inl h2
      · exact .inr ⟨h1, h2⟩

/-! ### While the open operations are told that one is done -/
def mixF (l : List Opn) (o : List Int) (j : Int) (U : List (Int × Nat)) (t : Int × Nat) : Nat × List (Int × Value) := (t.2, if t ∈ U then cont l o t.1 else cont l (o ++ [j]) t.1)
def mix (l : List Opn) (o : List Int) (j : Int) (T U : List (Int × Nat)) : List (Nat × List (Int × Value)) := T.map (mixF l o j U)
theorem mix_all (l : List Opn) (o : List Int) (j : Int) (T : List (Int × Nat)) : mix l o j T T = conts l o T := by
  unfold mix conts
  apply List.map_congr_left
  intro t ht
  unfold mixF
  rw [if_pos ht]
theorem mix_none (l : List Opn) (o : List Int) (j : Int) (T : List (Int × Nat)) : mix l o j T [] = conts l (o ++ [j]) T := by
  unfold mix conts
  apply List.map_congr_left
  intro t ht
  unfold mixF
  rw [if_neg (by simp)]
theorem maps_sub {es es' : List (Nat × List (Int × Value))} {L : List Res} (h : es'.Sublist es) : Ent (MapsR es :: L) (MapsR es' :: L) := fun w0 w s => by
  obtain ⟨h1, h2⟩ := s.head
  exact s.turn (Nat.le_refl _) rfl rfl rfl (fun _ _ _ => rfl) ⟨h1.sublist h, fun e he => h2 e (h.subset he)⟩ fun c ⟨e, he, hc⟩ => .inl ⟨e, h.subset he, hc⟩
theorem mix_at {l : List Opn} {o : List Int} {j : Int} {T U : List (Int × Nat)} (hT : T.Nodup) (hU : U.Sublist T) {i : Nat} (hi : i < U.length) : ∃ A B, mix l o j T U = A ++ (U[i].2, cont l o U[i].1) :: B ∧ mix l o j T (U.eraseIdx i) = A ++ (U[i].2, cont l (o ++ [j]) U[i].1) :: B := by
  have hm : U[i] ∈ U := List.getElem_mem hi
  have hUn : U.Nodup := hT.sublist hU
  have hme : ∀ t, t ∈ U.eraseIdx i ↔ t ≠ U[i] ∧ t ∈ U := fun t => mem_erase_nodup U i hi hUn
  obtain ⟨A, B, hAB⟩ := List.append_of_mem (hU.subset hm)
  have hnd := hT
  rw [hAB, List.nodup_append, List.nodup_cons] at hnd
  obtain ⟨_, ⟨h2, _⟩, h3⟩ := hnd
  have hsame : ∀ t, t ≠ U[i] → mixF l o j (U.eraseIdx i) t = mixF l o j U t := fun t ht => by
    unfold mixF
    by_cases hU' : t ∈ U
    · rw [if_pos hU', if_pos ((hme t).2 ⟨ht, hU'⟩)]
    · rw [if_neg hU', if_neg (fun h => hU' ((hme t).1 h).2)]
  refine ⟨A.map (mixF l o j U), B.map (mixF l o j U), ?_, ?_⟩
  · unfold mix
    rw [hAB, List.map_append, List.map_cons]
    congr 2
    unfold mixF
    rw [if_pos hm]
  · unfold mix
    rw [hAB, List.map_append, List.map_cons]
    have e1 : A.map (mixF l o j (U.eraseIdx i)) = A.map (mixF l o j U) := List.map_congr_left fun t ht => hsame t fun hc => h3 t ht U[i] List.mem_cons_self hc
    have e2 : B.map (mixF l o j (U.eraseIdx i)) = B.map (mixF l o j U) := List.map_congr_left fun t ht => hsame t fun hc => h2 (hc ▸ ht)
    have e3 : mixF l o j (U.eraseIdx i) U[i] = (U[i].2, cont l (o ++ [j]) U[i].1) := by
      unfold mixF
      rw [if_neg (fun h => ((hme _).1 h).1 rfl)]
    rw [e1, e2, e3]

theorem arrange_ok (w : World) (v : Value) (l : List Opn) (hl : Sl rOp w w.heap.size v l) (h16 : l.length ≤ 16) :
    OkM Tryz.prog 91 [v].toArray w (fun x : Option Addr × Nat => .tuple #[.slice x.1 (if fullB l = true then l.length else 0) x.2, .bool (fullB l)])
      (fun x => if fullB l = true then [Own x.1 l.length x.2 3 1 ((sortedL l).map (Value.int .i64))] else []) := by
  obtain ⟨A0, c0, rfl, hc, hm⟩ := len_small hl
  unfold OkM
  refine ok_enter Tryz.func91 rfl Tryz.ntmps91 rfl ?_
  focus (refine gc_seq ?_; refine gc_region ?_; refine gM rfl rfl (by conv => (lhs; whnf)) ?_; refine gM rfl rfl (by conv => (lhs; whnf)) ?_; refine gN ?_)
  refine gw_makeMap kInt rfl (fun bo => ?_)
  focus (refine gM rfl rfl (by conv => (lhs; whnf)) ?_; refine gO ?_; refine gc_seq ?_; refine gc_seq ?_; refine gc_region ?_; refine gM rfl rfl (by conv => (lhs; whnf)) ?_; refine gL rfl rfl rfl ?_; refine gM rfl rfl (by conv => (lhs; whnf)) ?_; refine gO ?_; refine gc_block ?_)
  refine gc_maps0 ?_
  refine gc_loop (σ := Nat × List (Int × Nat)) [19, 20, 21, 22, 6, 5, 23, 24, 25, 26, 27, 28, 29, 30, 31, 32, 8, 33, 34, 35, 36, 37, 38, 18] (fun s => [(18, .int .i64 s.1)]) (fun s => [MapR bo kInt (openA s.2), MapsR (conts l [] s.2)]) (fun s => s.1 ≤ l.length ∧ s.2.map (·.1) = ixs s.1) (fun s => l.length - s.1) (0, []) ⟨Nat.zero_le _, rfl⟩ ⟨rfl, trivial⟩ (.cons (.there .here) (.cons .here .nil)) ?_
  rintro ⟨k, T⟩ base ⟨hk, hT⟩
  dsimp only at hk hT ⊢
  focus (refine gc_seq ?_; refine gc_region ?_; refine gC rfl rfl rfl rfl rfl ?_; refine gO ?_; refine gc_seq ?_)
  refine gc_if_dec rfl (fun h => ?_) (fun h => ?_)
  · have hlt : k < l.length := by omega
    obtain ⟨ad, _, hv, _, _, hb, hcell⟩ := hl.at' 5 rfl (by omega)
    injection hv with e1 e2 e3
    subst e1 e3
    obtain ⟨cs, hce, Aa, ca, Au, cu, rfl, _, q1, q2⟩ := hcell k hlt
    have ha : Sl rInt w w.heap.size (.slice Aa l[k].after.length ca) l[k].after := q1
    obtain ⟨_, _, hv, hac, ham, hacell⟩ := ha.int
    injection hv with e1 e2 e3
    subst e1 e3
    have hnew : ¬ (k : Int) ∈ (openA T).map (·.1) := by rw [openA_keys, hT, ixs_mem]; omega
    focus (refine gc_skip ?_; refine gx_next ?_; refine gc_seq ?_; refine gc_block ?_; refine gc_seq ?_; refine gc_region ?_; refine gM rfl rfl (by conv => (lhs; whnf)) ?_; apply gw_d; exact w_index rfl rfl rfl rfl (by with_reducible exact rfl) (by omega); apply gw_d; exact w_load_elem rfl rfl rfl (by assumption) (by assumption) (by rfl); refine w_alloc rfl (fun _ => ?_); refine gM rfl rfl (by conv => (lhs; whnf)) ?_; refine w_store_all rfl rfl rfl rfl rfl .here rfl ?_; refine gN ?_; refine gM rfl rfl (by conv => (lhs; whnf)) ?_; refine gM rfl rfl (by conv => (lhs; whnf)) ?_)
    refine gw_makeMap kInt rfl (fun b => ?_)
    refine gw_mapSet (k := (k : Int)) (v := .map (some b)) intLawC rfl rfl rfl rfl (.there (.there .here)) ?_
    rw [aset_new hnew, show openA T ++ [((k : Int), Value.map (some b))] = openA (T ++ [((k : Int), b)]) by simp [openA]]
    have hT' : (T ++ [((k : Int), b)]).map (·.1) = ixs (k + 1) := by rw [List.map_append, hT]; unfold ixs; rw [List.range_succ, List.map_append]; rfl
    have hget : aget (openA (T ++ [((k : Int), b)])) (k : Int) = some (.map (some b)) := aget_at (p := ((k : Int), .map (some b))) (by rw [openA_keys, hT']; exact ixs_nodup _) (by simp [openA])
    focus (refine gN ?_; refine gF rfl rfl rfl ?_; apply gw_d; exact w_load_box rfl rfl rfl (.there (.there .here)) rfl; refine gL rfl rfl rfl ?_; refine gM rfl rfl (by conv => (lhs; whnf)) ?_; refine gO ?_; refine gc_block ?_)
    refine gc_loop (σ := Nat) [30, 31, 32, 8, 33, 34, 35, 36, 37, 29] (fun j => [(29, .int .i64 j)]) (fun j => [MapR b kInt (setM (l[k].after.take j)), MapR bo kInt (openA (T ++ [((k : Int), b)])), MapsR (conts l [] T)]) (fun j => j ≤ l[k].after.length) (fun j => l[k].after.length - j) 0 (Nat.zero_le _) ⟨rfl, trivial⟩ (.cons (.there .here) (.cons .here (.cons (.there .here) .nil))) ?_
    rintro j base2 hj
    focus (refine gc_seq ?_; refine gc_region ?_; refine gC rfl rfl rfl rfl rfl ?_; refine gO ?_; refine gc_seq ?_)
    refine gc_if_dec rfl (fun h2 => ?_) (fun h2 => ?_)
    · have hjl : j < l[k].after.length := by omega
      obtain ⟨ad2, rfl, hb2, hce2, _⟩ := hacell j hjl
      focus (refine gc_skip ?_; refine gx_next ?_; refine gc_seq ?_; refine gc_block ?_; refine gc_seq ?_; refine gc_region ?_; apply gw_d; exact w_index rfl rfl rfl rfl (by with_reducible exact rfl) (by omega); apply gw_d; exact w_load_at rfl rfl rfl (by assumption) (by assumption); refine gM rfl rfl (by conv => (lhs; whnf)) ?_; refine gO ?_; refine gc_region ?_; refine gM rfl rfl (by conv => (lhs; whnf)) ?_; refine gM rfl rfl (by conv => (lhs; whnf)) ?_; apply gw_d; exact det_eq (c' := .map (some b)) (w_lookup (k := (k : Int)) intLawC rfl rfl rfl rfl (.there .here)) (by rw [hget]; rfl); refine gM rfl rfl (by conv => (lhs; whnf)) ?_)
      refine gw_mapSet (k := l[k].after[j]) (v := .bool true) intLawC rfl rfl rfl rfl .here ?_
      rw [← setM_snoc, ← List.take_succ_eq_append_getElem hjl]
      focus (refine gw_nil ?_; refine gx_block ?_; refine gx_next ?_; refine gc_region ?_; apply gw_d; exact det_ar rfl rfl rfl rfl rfl (by omega); refine gM rfl rfl (by conv => (lhs; whnf)) ?_; refine gw_nil ?_)
      exact gx_round (j + 1) hjl (by omega) (by repeat (first | exact Keeps.refl | refine Keeps.upd rfl ?_ | refine Keeps.sets rfl ?_ | refine Keeps.havoc rfl ?_)) ⟨rfl, trivial⟩ (Sub.all _)
    · obtain rfl : j = l[k].after.length := by omega
      rw [List.take_length]
      focus (refine gc_exit ?_; refine gx_then_exit ?_; refine gx_then_exit ?_; refine gx_block_exit ?_; refine gx_block ?_; refine gx_next ?_; refine gc_region ?_; apply gw_d; exact det_ar rfl rfl rfl rfl rfl (by omega); refine gM rfl rfl (by conv => (lhs; whnf)) ?_; refine gw_nil ?_)
      refine gx_roundE (k + 1, T ++ [((k : Int), b)]) ⟨hlt, hT'⟩ (by dsimp only; omega) (by repeat (first | exact Keeps.refl | refine Keeps.upd rfl ?_ | refine Keeps.sets rfl ?_ | refine Keeps.havoc rfl ?_)) ⟨rfl, trivial⟩ ?_
      refine Ent.trans (Sub.ent (.cons (.there .here) (.cons .here (.cons .here .nil)))) (Ent.cons ?_ ?_)
      · have := maps_join (A := conts l [] T) (B := []) (b := b) (c := setM l[k].after) (L := [])
        rw [List.append_nil] at this
        have hc2 : conts l [] (T ++ [((k : Int), b)]) = conts l [] T ++ [(b, setM l[k].after)] := by
          unfold conts
          rw [List.map_append]
          simp [cont_nil, afterOf_get hlt]
        dsimp only
        rw [hc2]
        exact this
      · intro q hq x hx
        rw [List.mem_singleton] at hq
        subst hq
        obtain ⟨e, he, hxe⟩ := hx
        obtain ⟨t, ht, rfl⟩ := List.mem_map.1 he
        rcases List.mem_append.1 ht with h3 | h3
        · exact ⟨_, List.mem_cons_of_mem _ List.mem_cons_self, _, List.mem_map_of_mem h3, hxe⟩
        · rw [List.mem_singleton] at h3
          subst h3
          exact ⟨_, List.mem_cons_self, hxe⟩
  obtain rfl : k = l.length := by omega
  have hA0 : Arr l [] T := ⟨by rw [hT]; symm; exact List.filter_eq_self.2 fun _ _ => rfl, by have := congrArg List.length hT; simpa [ixs] using this, rfl⟩
  focus (refine gc_exit ?_; refine gx_then_exit ?_; refine gx_then_exit ?_; refine gx_block_exit ?_; refine gx_next ?_; refine gc_seq ?_; refine gc_region ?_; refine gM rfl rfl (by conv => (lhs; whnf)) ?_; refine gO ?_; refine gc_seq ?_; refine gc_block ?_)
  refine gc_own0 3 1 ?_
  refine gc_loop (σ := List Int × List (Int × Nat) × Option Addr × Nat) [39, 40, 41, 10, 42, 43, 44, 45, 47, 48, 49, 46, 50, 51, 11, 12, 52, 53, 54, 55, 56, 57, 58, 59, 60, 61, 62, 63, 2, 3, 64, 65, 66, 67, 68, 69, 70, 71, 14, 72, 73, 74, 75, 76, 77, 9] (fun s => [(9, .slice s.2.2.1 s.1.length s.2.2.2)])
    (fun s => [MapR bo kInt (openA s.2.1), MapsR (conts l s.1 s.2.1), Own s.2.2.1 s.1.length s.2.2.2 3 1 (s.1.map (Value.int .i64))]) (fun s => Arr l s.1 s.2.1) (fun s => s.2.1.length) ([], T, none, 0) hA0 ⟨rfl, trivial⟩ (.cons (.there .here) (.cons (.there .here) (.cons .here .nil))) ?_
  rintro ⟨o, T, A, c⟩ base3 hA
  dsimp only at hA ⊢
  have hTlen := openA_len T
  have hAl := hA.len
  focus (refine gc_seq ?_; refine gc_seq ?_; refine gc_region ?_; refine gM rfl rfl (by conv => (lhs; whnf)) ?_; apply gw_d; exact w_maplen rfl rfl rfl .here; refine gC rfl rfl rfl rfl rfl ?_; refine gO ?_)
  refine gc_if_dec rfl (fun h => ?_) (fun h => ?_)
  · focus (refine gc_skip ?_; refine gx_next ?_; refine gc_block ?_; refine gc_seq ?_; refine gc_region ?_; refine gM rfl rfl (by conv => (lhs; whnf)) ?_; refine gO ?_; refine gc_seq ?_; refine gc_block ?_)
    refine gc_loopK (σ := Nat) [42, 43, 44, 45, 47, 48, 49, 46, 50, 51, 11, 12, 52, 53, 54, 55, 56, 57, 58, 59, 10] (fun j => [(10, .int .i64 j)]) (fun j => j ≤ l.length ∧ ∀ i, i < j → readyB l o i = false) (fun j => l.length - j) 0 ⟨Nat.zero_le _, fun i hi => by omega⟩ ⟨rfl, trivial⟩ ?_
    rintro j base4 ⟨hj, hJ⟩
    focus (refine gc_seq ?_; refine gc_seq ?_; refine gc_region ?_; refine gM rfl rfl (by conv => (lhs; whnf)) ?_; refine gM rfl rfl (by conv => (lhs; whnf)) ?_; refine gL rfl rfl rfl ?_; refine gC rfl rfl rfl rfl rfl ?_; refine gO ?_)
    refine gc_if_dec rfl (fun h2 => ?_) (fun h2 => ?_)
    · have hjl : j < l.length := by omega
      have hsn : readyB l o j = false → ∀ i, i < j + 1 → readyB l o i = false := fun hr i hi => by
        by_cases hij : i = j
        · rw [hij]; exact hr
        · exact hJ i (by omega)
      by_cases ho : hasB o (j : Int) = false
      · obtain ⟨⟨ti, b⟩, ht, htj⟩ := List.mem_map.1 ((hA.mem hjl).2 ho)
        dsimp only at htj
        subst htj
        have hget : aget (openA T) (j : Int) = some (.map (some b)) := aget_at (p := ((j : Int), .map (some b))) (by rw [openA_keys]; exact hA.nodup) (List.mem_map_of_mem (f := fun t : Int × Nat => (t.1, Value.map (some t.2))) ht)
        have hce := cont_empty (l := l) (o := o) (i := (j : Int))
        rw [Int.toNat_natCast] at hce
        focus (refine gc_skip ?_; refine gx_next ?_; refine gc_block ?_; refine gc_seq ?_; refine gc_seq ?_; refine gc_region ?_; refine gM rfl rfl (by conv => (lhs; whnf)) ?_; refine gM rfl rfl (by conv => (lhs; whnf)) ?_; apply gw_d; exact det_eq (c' := .tuple #[.map (some b), .bool true]) (w_lookup_ok (k := (j : Int)) intLawC rfl rfl rfl rfl .here) (by rw [hget]; rfl); refine gM rfl rfl (by conv => (lhs; whnf)) ?_; apply gw_d; exact det_extract rfl rfl rfl (by conv => (lhs; whnf)); apply gw_d; exact det_extract rfl rfl rfl (by conv => (lhs; whnf)); refine gM rfl rfl (by conv => (lhs; whnf)) ?_; refine gM rfl rfl (by conv => (lhs; whnf)) ?_; refine gN ?_; refine gM rfl rfl (by conv => (lhs; whnf)) ?_; refine gM rfl rfl (by conv => (lhs; whnf)) ?_; refine gM rfl rfl (by conv => (lhs; whnf)) ?_; apply gw_d; exact w_maplenP (l := cont l o (j : Int)) rfl rfl rfl (fun w s => maps_read s (.there .here) (e := (b, cont l o (j : Int))) (List.mem_map_of_mem (f := fun t : Int × Nat => (t.2, cont l o t.1)) ht)); refine gC rfl rfl rfl rfl rfl ?_; apply gw_d; exact det_pick_t (v := .bool _) rfl rfl rfl rfl; refine gO ?_)
        refine gc_if_dec rfl (fun h3 => ?_) (fun h3 => ?_)
        · have hready : readyB l o j = true := by
            unfold readyB
            rw [ho, Bool.not_false, Bool.true_and]
            exact hce.1 (by omega)
          have hA2 := hA.step hjl hready hJ
          have hA2l := hA2.len
          rw [List.length_append, List.length_singleton] at hA2l
          focus (refine gc_exit ?_; refine gx_then_exit ?_; refine gx_block_other rfl ?_; refine gx_then_exit ?_; refine gx_block_exit ?_; refine gx_next ?_; refine gc_seq ?_; refine gc_seq ?_; refine gc_region ?_; refine gM rfl rfl (by conv => (lhs; whnf)) ?_; refine gM rfl rfl (by conv => (lhs; whnf)) ?_; refine gL rfl rfl rfl ?_; refine gC rfl rfl rfl rfl rfl ?_; refine gO ?_)
          refine gc_if_dec rfl (fun h4 => by omega) (fun _ => ?_)
          focus (refine gc_skip ?_; refine gx_next ?_; refine gc_seq ?_; refine gc_region ?_; refine gM rfl rfl (by conv => (lhs; whnf)) ?_; refine gM rfl rfl (by conv => (lhs; whnf)) ?_)
          refine gw_mapDel (k := (j : Int)) intLawC rfl rfl rfl .here ?_
          have hdel : adel (openA T) (j : Int) = openA (T.filter fun t => !decide (t.1 = (j : Int))) := by
            rw [adel_filter (by rw [openA_keys]; exact hA.nodup)]
            unfold openA
            rw [List.filter_map]
            rfl
          rw [hdel]
          refine gw_ent (K := [MapR bo kInt (openA (T.filter fun t => !decide (t.1 = (j : Int)))), MapsR (conts l o (T.filter fun t => !decide (t.1 = (j : Int)))), Own A o.length c 3 1 (o.map (Value.int .i64))]) ?_ ?_
          · refine Ent.cons (maps_sub (List.filter_sublist.map _)) fun q hq x hx => ?_
            rcases List.mem_cons.1 hq with h | h
            · subst h
              obtain ⟨e, he, hxe⟩ := hx
              exact ⟨_, List.mem_cons_self, e, (List.filter_sublist.map _).subset he, hxe⟩
            · exact ⟨q, List.mem_cons_of_mem _ h, hx⟩
          generalize T.filter (fun t => !decide (t.1 = (j : Int))) = T2 at hA2 hA2l ⊢
          have hTn : T2.Nodup := (List.pairwise_map.1 hA2.nodup).imp fun h hc => h (congrArg (·.1) hc)
          rw [← mix_all l o (j : Int) T2]
          focus (refine gO ?_; refine gc_seq ?_; refine gc_seq ?_; refine gc_region ?_; refine gM rfl rfl (by conv => (lhs; whnf)) ?_)
          refine gw_range rfl rfl .here (fun r => ?_)
          focus (refine gO ?_; refine gc_block ?_)
          refine gc_loop (σ := List (Int × Nat) × Option (Int × Value)) [68, 69, 70, 71, 14, 72, 73] (fun _ => []) (fun s => [ItR bo r kInt (openA T2) (openA s.1) s.2, MapsR (mix l o (j : Int) T2 s.1), Own A o.length c 3 1 (o.map (Value.int .i64))]) (fun s => s.1.Sublist T2) (fun s => s.1.length) (T2, none) (List.Sublist.refl _) trivial (Sub.all _) ?_
          rintro ⟨U, cur⟩ base5 hU
          dsimp only at hU ⊢
          focus (refine gc_seq ?_; refine gc_region ?_)
          refine gw_next rfl rfl .here (fun hU0 => ?_) (fun i hi => ?_)
          · have hU1 : U = [] := by
              have := congrArg List.length hU0
              rw [openA_len] at this
              exact List.eq_nil_of_length_eq_zero this
            subst hU1
            rw [mix_none]
            focus (apply gw_d; exact det_extract rfl rfl rfl (by conv => (lhs; whnf)); refine gO ?_; refine gc_seq ?_)
            refine gc_if_false rfl ?_
            focus (refine gc_exit ?_; refine gx_then_exit ?_; refine gx_then_exit ?_; refine gx_block_exit ?_; refine gx_next ?_; refine gc_region ?_; refine gM rfl rfl (by conv => (lhs; whnf)) ?_; refine gM rfl rfl (by conv => (lhs; whnf)) ?_)
            refine gw_bslice1 (v := .int .i64 (j : Int)) rfl rfl rfl rfl rfl (fun bb => ?_)
            refine gw_append (news := [.int .i64 (j : Int)]) rfl rfl rfl (.there (.there (.there .here))) rfl (fun w' s _ => ?_) (fun u hu => ?_) (by unfold maxLen; omega) (by omega) (by decide) rfl (fun A2 c3 => ?_)
            · refine ⟨⟨bb, 0, none⟩, rfl, fun i u hu => ?_⟩
              rw [add_zero]
              refine (Box.cell s.head i).trans ?_
              change (#[Value.int .i64 (j : Int)] : Array Value)[i]? = some u
              rw [List.getElem?_toArray]
              exact hu
            · rw [List.mem_singleton] at hu
              subst hu
              rfl
            · focus (refine gM rfl rfl (by conv => (lhs; whnf)) ?_; refine gw_nil ?_; refine gx_block ?_)
              refine gx_roundE (o ++ [(j : Int)], T2, A2, c3) hA2 (by dsimp only; omega) (by repeat (first | exact Keeps.refl | refine Keeps.upd rfl ?_ | refine Keeps.sets rfl ?_ | refine Keeps.havoc rfl ?_)) ⟨by rw [List.length_append]; rfl, trivial⟩ ?_
              dsimp only
              rw [List.length_append, List.map_append]
              exact Ent.trans (Sub.ent (.cons (.there (.there .here)) (.cons (.there (.there .here)) (.cons .here .nil)))) ItR.done
          · have hi' : i < U.length := by rw [openA_len] at hi; exact hi
            have hUi : (openA U)[i] = (U[i].1, Value.map (some U[i].2)) := by simp [openA]
            have herase : (openA U).eraseIdx i = openA (U.eraseIdx i) := (ChangeMaps.map_eraseIdx _ _ _).symm
            obtain ⟨MA, MB, hm1, hm2⟩ := mix_at (l := l) (o := o) (j := (j : Int)) hTn hU hi'
            rw [hUi, herase, hm1]
            focus (apply gw_d; exact det_extract rfl rfl rfl (by conv => (lhs; whnf)); refine gO ?_; refine gc_seq ?_)
            refine gc_if_true rfl ?_
            focus (refine gc_skip ?_; refine gx_next ?_; refine gc_block ?_; refine gc_seq ?_; refine gc_region ?_; apply gw_d; exact w_entry rfl rfl rfl .here; apply gw_d; exact det_extract rfl rfl rfl (by conv => (lhs; whnf)); refine gM rfl rfl (by conv => (lhs; whnf)) ?_; refine gO ?_; refine gc_region ?_; refine gM rfl rfl (by conv => (lhs; whnf)) ?_; refine gM rfl rfl (by conv => (lhs; whnf)) ?_)
            refine gw_ent (Ent.trans (Sub.ent (.cons (.there .here) (.cons .here (.cons .here .nil)))) maps_split) ?_
            refine gw_mapDel (k := (j : Int)) intLawC rfl rfl rfl .here ?_
            rw [cont_del]
            focus (refine gw_nil ?_; refine gx_block ?_)
            refine gx_roundE (U.eraseIdx i, some (U[i].1, Value.map (some U[i].2))) ((List.eraseIdx_sublist _ _).trans hU) (by dsimp only; rw [List.length_eraseIdx_of_lt hi']; omega) (by repeat (first | exact Keeps.refl | refine Keeps.upd rfl ?_ | refine Keeps.sets rfl ?_ | refine Keeps.havoc rfl ?_)) trivial ?_
            dsimp only
            rw [hm2]
            exact Ent.trans maps_join (Sub.ent (.cons (.there .here) (.cons .here (.cons .here .nil))))
        · focus (refine gc_skip ?_; refine gx_next ?_; refine gc_region ?_; refine gM rfl rfl (by conv => (lhs; whnf)) ?_; apply gw_d; exact det_ar rfl rfl rfl rfl rfl (by omega); refine gM rfl rfl (by conv => (lhs; whnf)) ?_; refine gw_nil ?_; refine gx_block ?_)
          refine gx_round (j + 1) ⟨by omega, hsn ?_⟩ (by omega) (by repeat (first | exact Keeps.refl | refine Keeps.upd rfl ?_ | refine Keeps.sets rfl ?_ | refine Keeps.havoc rfl ?_)) ⟨rfl, trivial⟩ (Sub.all _)
          unfold readyB
          rw [ho, Bool.not_false, Bool.true_and, ← Bool.not_eq_true]
          exact fun hc => h3 (by have := hce.2 hc; omega)
      · have hget : aget (openA T) (j : Int) = none := aget_out (by rw [openA_keys, hA.mem hjl]; exact ho)
        focus (refine gc_skip ?_; refine gx_next ?_; refine gc_block ?_; refine gc_seq ?_; refine gc_seq ?_; refine gc_region ?_; refine gM rfl rfl (by conv => (lhs; whnf)) ?_; refine gM rfl rfl (by conv => (lhs; whnf)) ?_; apply gw_d; exact det_eq (c' := .tuple #[.map none, .bool false]) (w_lookup_ok (k := (j : Int)) intLawC rfl rfl rfl rfl .here) (by rw [hget]; rfl); refine gM rfl rfl (by conv => (lhs; whnf)) ?_; apply gw_d; exact det_extract rfl rfl rfl (by conv => (lhs; whnf)); apply gw_d; exact det_extract rfl rfl rfl (by conv => (lhs; whnf)); refine gM rfl rfl (by conv => (lhs; whnf)) ?_; refine gM rfl rfl (by conv => (lhs; whnf)) ?_; refine gN ?_; refine gM rfl rfl (by conv => (lhs; whnf)) ?_; refine gM rfl rfl (by conv => (lhs; whnf)) ?_; refine gU rfl ?_; refine gU rfl ?_; refine gU rfl ?_; apply gw_d; exact det_pick_f (v := .bool _) rfl rfl rfl rfl; refine gO ?_; refine gc_if_false rfl ?_; refine gc_skip ?_; refine gx_next ?_; refine gc_region ?_; refine gM rfl rfl (by conv => (lhs; whnf)) ?_; apply gw_d; exact det_ar rfl rfl rfl rfl rfl (by omega); refine gM rfl rfl (by conv => (lhs; whnf)) ?_; refine gw_nil ?_; refine gx_block ?_)
        refine gx_round (j + 1) ⟨by omega, hsn ?_⟩ (by omega) (by repeat (first | exact Keeps.refl | refine Keeps.upd rfl ?_ | refine Keeps.sets rfl ?_ | refine Keeps.havoc rfl ?_)) ⟨rfl, trivial⟩ (Sub.all _)
        unfold readyB
        rw [Bool.not_eq_false] at ho
        rw [ho]
        rfl
    · obtain rfl : j = l.length := by omega
      have hnone : nextOf l o = none := List.find?_eq_none.2 fun i hi => by rw [hJ i (List.mem_range.1 hi)]; decide
      have hso : sortedL l = o := by rw [← hA.arr, arr_end hnone]
      have hfull : fullB l = false := by unfold fullB; rw [hso]; exact decide_eq_false (by omega)
      focus (refine gc_exit ?_; refine gx_then_exit ?_; refine gx_then_exit ?_; refine gx_block_exit ?_; refine gx_next ?_; refine gc_seq ?_; refine gc_seq ?_; refine gc_region ?_; refine gM rfl rfl (by conv => (lhs; whnf)) ?_; refine gM rfl rfl (by conv => (lhs; whnf)) ?_; refine gL rfl rfl rfl ?_; refine gC rfl rfl rfl rfl rfl ?_; refine gO ?_)
      refine gc_if_dec rfl (fun _ => ?_) (fun h4 => absurd rfl h4)
      focus (refine gc_seq ?_; refine gc_region ?_; refine gM rfl rfl (by conv => (lhs; whnf)) ?_; refine gM rfl rfl (by conv => (lhs; whnf)) ?_; refine gO ?_; refine gc_ret ?_; refine gx_then_ret ?_; refine gx_block_ret ?_; refine gx_then_ret ?_; refine gx_block_ret ?_; refine gx_then_ret ?_)
      refine gx_ret2 (u := .slice _ _ _) (v := .bool _) rfl rfl rfl (fun w' s => ⟨(none, 0), ?_, ?_⟩)
      · rw [hfull]; rfl
      · rw [hfull]; exact trivial
  · have hT0 : T.length = 0 := by omega
    have hso : sortedL l = o := by rw [← hA.arr, show l.length - o.length = 0 by omega]; rfl
    have hfull : fullB l = true := by unfold fullB; rw [hso]; exact decide_eq_true (by omega)
    have hol : o.length = l.length := by omega
    focus (refine gc_exit ?_; refine gx_then_exit ?_; refine gx_then_exit ?_; refine gx_block_exit ?_; refine gx_next ?_; refine gc_seq ?_; refine gc_region ?_; refine gM rfl rfl (by conv => (lhs; whnf)) ?_; refine gM rfl rfl (by conv => (lhs; whnf)) ?_; refine gM rfl rfl (by conv => (lhs; whnf)) ?_; refine gO ?_; refine gc_ret ?_)
    refine gx_ret2 (u := .slice _ _ _) (v := .bool _) rfl rfl rfl (fun w' s => ⟨(A, c), ?_, ?_⟩)
    · rw [if_pos hfull, hfull, hol]
    · rw [if_pos hfull, hso, ← hol]
      exact (s.sub (.cons (.there (.there .here)) .nil)).sep
end Go.Proofs.YtckhibfbdnoigaaGreatDoor

/- Contracts: lists of operations are checked and ordered. -/
namespace Go.Proofs.YtckhibfbdnoigaaGreatDoor
open Go.RowKit
set_option maxRecDepth 100000
set_option maxHeartbeats 2000000

/-! ### Rows of integers of the function's own -/
section
variable {P : Program} {ops : Array Oper} {Q : Exit → Act → World → Prop} {N : Nat} {w0 : World} {L L' : List Res} {rest : List Oper} {e : Env}
end
theorem arrange_good (w : World) (v : Value) (l : List Opn) (hl : Sl rOp w w.heap.size v l) (h16 : l.length ≤ 16) (hf : fullB l = true) :
    OkM Tryz.prog 91 [v].toArray w (fun x : Option Addr × Nat => .tuple #[.slice x.1 l.length x.2, .bool true]) (fun x => [Own x.1 l.length x.2 3 1 ((sortedL l).map (Value.int .i64))]) := by
  have h := arrange_ok w v l hl h16
  simp only [hf, if_true] at h
  exact h
theorem arrange_bad (w : World) (v : Value) (l : List Opn) (hl : Sl rOp w w.heap.size v l) (h16 : l.length ≤ 16) (hf : fullB l = false) :
    OkM Tryz.prog 91 [v].toArray w (fun x : Option Addr × Nat => .tuple #[.slice x.1 0 x.2, .bool false]) (fun _ => []) := by
  have h := arrange_ok w v l hl h16
  simp only [hf, Bool.false_eq_true, if_false] at h
  exact h

def listE (l : List Opn) (uses : Int) : Int := if 16 < l.length then 5 else if ¬ firstE (opE l uses) l.length = 0 then firstE (opE l uses) l.length else if fullB l = true then 0 else 9

theorem checkList_bad (w : World) (v : Value) (l : List Opn) (uses : Int) (hl : Sl rOp w w.heap.size v l) (hne : ¬ listE l uses = 0) :
    Ok Tryz.prog 73 [v, .int .i64 uses].toArray w fun r _ => r = .tuple #[.slice none 0 0, .int .i64 (listE l uses)] := by
  obtain ⟨A0, c0, rfl, hc, hm⟩ := len_small hl
  refine ok_enter Tryz.func73 rfl Tryz.ntmps73 rfl ?_
  focus (refine gc_seq ?_; refine gc_region ?_; refine gM rfl rfl (by conv => (lhs; whnf)) ?_; refine gM rfl rfl (by conv => (lhs; whnf)) ?_; refine gO ?_; refine gc_seq ?_; refine gc_seq ?_; refine gc_region ?_; refine gM rfl rfl (by conv => (lhs; whnf)) ?_; refine gL rfl rfl rfl ?_; refine gC rfl rfl rfl rfl rfl ?_; refine gO ?_)
  refine gc_if_dec rfl (fun h => ?_) (fun h => ?_)
  · focus (refine gc_seq ?_; refine gc_region ?_; refine gM rfl rfl (by conv => (lhs; whnf)) ?_; refine gM rfl rfl (by conv => (lhs; whnf)) ?_; refine gO ?_; refine gc_ret ?_; refine gx_then_ret ?_)
    refine gx_ret2 (u := .slice _ _ _) (v := .int _ _) rfl rfl rfl (fun _ _ => ?_)
    unfold listE
    rw [if_pos (by omega)]
  have h16 : ¬ 16 < l.length := by omega
  focus (refine gc_skip ?_; refine gx_next ?_; refine gc_seq ?_; refine gc_seq ?_; refine gc_region ?_; refine gM rfl rfl (by conv => (lhs; whnf)) ?_; refine gL rfl rfl rfl ?_; refine gM rfl rfl (by conv => (lhs; whnf)) ?_; refine gO ?_; refine gc_block ?_)
  refine gc_loop (σ := Nat) [16, 17, 6, 18, 19, 20, 21, 7, 22, 23, 24, 4, 5, 25, 15] (fun k => [(15, .int .i64 k)]) (fun _ => []) (fun k => k ≤ l.length ∧ firstE (opE l uses) k = 0) (fun k => l.length - k) 0 ⟨Nat.zero_le _, rfl⟩ ⟨rfl, trivial⟩ .nil ?_
  rintro k base ⟨hk, hI⟩
  focus (refine gc_seq ?_; refine gc_region ?_; refine gC rfl rfl rfl rfl rfl ?_; refine gO ?_; refine gc_seq ?_)
  refine gc_if_dec rfl (fun h => ?_) (fun h => ?_)
  · have hlt : k < l.length := by omega
    focus (refine gc_skip ?_; refine gx_next ?_; refine gc_seq ?_; refine gc_block ?_; refine gc_seq ?_; refine gc_region ?_; refine gM rfl rfl (by conv => (lhs; whnf)) ?_; refine gM rfl rfl (by conv => (lhs; whnf)) ?_; refine gN ?_; refine gM rfl rfl (by conv => (lhs; whnf)) ?_; refine gM rfl rfl (by conv => (lhs; whnf)) ?_; refine gM rfl rfl (by conv => (lhs; whnf)) ?_; apply gw_d; exact w_call rfl rfl (fun w s => checkOne_ok w _ l k uses (hl.later s) hlt) rfl; refine gM rfl rfl (by conv => (lhs; whnf)) ?_; refine gN ?_; refine gM rfl rfl (by conv => (lhs; whnf)) ?_; refine gC rfl rfl rfl rfl rfl ?_; refine gO ?_)
    refine gc_if_dec rfl (fun h => ?_) (fun h => ?_)
    · focus (refine gc_seq ?_; refine gc_region ?_; refine gM rfl rfl (by conv => (lhs; whnf)) ?_; refine gM rfl rfl (by conv => (lhs; whnf)) ?_; refine gM rfl rfl (by conv => (lhs; whnf)) ?_; refine gO ?_; refine gc_ret ?_; refine gx_block_ret ?_; refine gx_then_ret ?_; refine gx_then_ret ?_; refine gx_block_ret ?_; refine gx_then_ret ?_)
      refine gx_ret2 (u := .slice _ _ _) (v := .int _ _) rfl rfl rfl (fun _ _ => ?_)
      have := firstE_stop hI h hlt
      unfold listE
      rw [if_neg h16, this, if_pos h]
    · focus (refine gc_skip ?_; refine gx_block ?_; refine gx_next ?_; refine gc_region ?_; apply gw_d; exact det_ar rfl rfl rfl rfl rfl (by omega); refine gM rfl rfl (by conv => (lhs; whnf)) ?_; refine gw_nil ?_)
      exact gx_round (k + 1) ⟨by omega, firstE_snoc hI (by simpa using h)⟩ (by omega) (by repeat (first | exact Keeps.refl | refine Keeps.upd rfl ?_ | refine Keeps.sets rfl ?_ | refine Keeps.havoc rfl ?_)) ⟨rfl, trivial⟩ .nil
  obtain rfl : k = l.length := by omega
  have hE : listE l uses = if fullB l = true then 0 else 9 := by unfold listE; rw [if_neg h16, if_neg (by rw [hI]; decide)]
  have hf : fullB l = false := by
    cases hb : fullB l with
    | false => rfl
    | true => rw [hE, hb] at hne; exact absurd rfl hne
  focus (refine gc_exit ?_; refine gx_then_exit ?_; refine gx_then_exit ?_; refine gx_block_exit ?_; refine gx_next ?_; refine gc_seq ?_; refine gc_region ?_; refine gM rfl rfl (by conv => (lhs; whnf)) ?_)
  refine gw_callm rfl (fun w s => arrange_bad w _ l (hl.later s) (by omega) hf) rfl (fun x => ?_)
  focus (refine gM rfl rfl (by conv => (lhs; whnf)) ?_; apply gw_d; exact det_extract rfl rfl rfl (by conv => (lhs; whnf)); apply gw_d; exact det_extract rfl rfl rfl (by conv => (lhs; whnf)); refine gM rfl rfl (by conv => (lhs; whnf)) ?_; refine gM rfl rfl (by conv => (lhs; whnf)) ?_; refine gO ?_; refine gc_seq ?_; refine gc_seq ?_; refine gc_region ?_; refine gM rfl rfl (by conv => (lhs; whnf)) ?_; apply gw_d; exact det_not_ rfl rfl rfl; refine gO ?_)
  refine gc_if_true rfl ?_
  focus (refine gc_seq ?_; refine gc_region ?_; refine gM rfl rfl (by conv => (lhs; whnf)) ?_; refine gM rfl rfl (by conv => (lhs; whnf)) ?_; refine gO ?_; refine gc_ret ?_; refine gx_then_ret ?_)
  refine gx_ret2 (u := .slice _ _ _) (v := .int _ _) rfl rfl rfl (fun _ _ => ?_)
  rw [hE, hf]
  rfl
theorem checkList_good (w : World) (v : Value) (l : List Opn) (uses : Int) (hl : Sl rOp w w.heap.size v l) (he : listE l uses = 0) :
    OkM Tryz.prog 73 [v, .int .i64 uses].toArray w (fun x : Option Addr × Nat => .tuple #[.slice x.1 l.length x.2, .int .i64 0]) (fun x => [Own x.1 l.length x.2 3 1 ((sortedL l).map (Value.int .i64))]) := by
  obtain ⟨A0, c0, rfl, hc, hm⟩ := len_small hl
  have h16 : ¬ 16 < l.length := fun h => by unfold listE at he; rw [if_pos h] at he; cases he
  have hI0 : firstE (opE l uses) l.length = 0 := by
    unfold listE at he
    rw [if_neg h16] at he
    split at he
    · rename_i h1; exact absurd he h1
    · rename_i h1; simpa using h1
  have hf : fullB l = true := by
    unfold listE at he
    rw [if_neg h16, if_neg (by rw [hI0]; decide)] at he
    split at he
    · assumption
    · cases he
  unfold OkM
  refine ok_enter Tryz.func73 rfl Tryz.ntmps73 rfl ?_
  focus (refine gc_seq ?_; refine gc_region ?_; refine gM rfl rfl (by conv => (lhs; whnf)) ?_; refine gM rfl rfl (by conv => (lhs; whnf)) ?_; refine gO ?_; refine gc_seq ?_; refine gc_seq ?_; refine gc_region ?_; refine gM rfl rfl (by conv => (lhs; whnf)) ?_; refine gL rfl rfl rfl ?_; refine gC rfl rfl rfl rfl rfl ?_; refine gO ?_)
  refine gc_if_dec rfl (fun h => by omega) (fun h => ?_)
  focus (refine gc_skip ?_; refine gx_next ?_; refine gc_seq ?_; refine gc_seq ?_; refine gc_region ?_; refine gM rfl rfl (by conv => (lhs; whnf)) ?_; refine gL rfl rfl rfl ?_; refine gM rfl rfl (by conv => (lhs; whnf)) ?_; refine gO ?_; refine gc_block ?_)
  refine gc_loop (σ := Nat) [16, 17, 6, 18, 19, 20, 21, 7, 22, 23, 24, 4, 5, 25, 15] (fun k => [(15, .int .i64 k)]) (fun _ => []) (fun k => k ≤ l.length) (fun k => l.length - k) 0 (Nat.zero_le _) ⟨rfl, trivial⟩ .nil ?_
  rintro k base hk
  focus (refine gc_seq ?_; refine gc_region ?_; refine gC rfl rfl rfl rfl rfl ?_; refine gO ?_; refine gc_seq ?_)
  refine gc_if_dec rfl (fun h => ?_) (fun h => ?_)
  · have hlt : k < l.length := by omega
    have h0 := firstE_at hI0 k hlt
    focus (refine gc_skip ?_; refine gx_next ?_; refine gc_seq ?_; refine gc_block ?_; refine gc_seq ?_; refine gc_region ?_; refine gM rfl rfl (by conv => (lhs; whnf)) ?_; refine gM rfl rfl (by conv => (lhs; whnf)) ?_; refine gN ?_; refine gM rfl rfl (by conv => (lhs; whnf)) ?_; refine gM rfl rfl (by conv => (lhs; whnf)) ?_; refine gM rfl rfl (by conv => (lhs; whnf)) ?_; apply gw_d; exact w_call rfl rfl (fun w s => checkOne_ok w _ l k uses (hl.later s) hlt) rfl; refine gM rfl rfl (by conv => (lhs; whnf)) ?_; refine gN ?_; refine gM rfl rfl (by conv => (lhs; whnf)) ?_; refine gC rfl rfl rfl rfl rfl ?_; refine gO ?_)
    refine gc_if_dec rfl (fun h => absurd h0 h) (fun h => ?_)
    focus (refine gc_skip ?_; refine gx_block ?_; refine gx_next ?_; refine gc_region ?_; apply gw_d; exact det_ar rfl rfl rfl rfl rfl (by omega); refine gM rfl rfl (by conv => (lhs; whnf)) ?_; refine gw_nil ?_)
    exact gx_round (k + 1) hlt (by omega) (by repeat (first | exact Keeps.refl | refine Keeps.upd rfl ?_ | refine Keeps.sets rfl ?_ | refine Keeps.havoc rfl ?_)) ⟨rfl, trivial⟩ .nil
  obtain rfl : k = l.length := by omega
  focus (refine gc_exit ?_; refine gx_then_exit ?_; refine gx_then_exit ?_; refine gx_block_exit ?_; refine gx_next ?_; refine gc_seq ?_; refine gc_region ?_; refine gM rfl rfl (by conv => (lhs; whnf)) ?_)
  refine gw_callm rfl (fun w s => arrange_good w _ l (hl.later s) (by omega) hf) rfl (fun x => ?_)
  focus (refine gM rfl rfl (by conv => (lhs; whnf)) ?_; apply gw_d; exact det_extract rfl rfl rfl (by conv => (lhs; whnf)); apply gw_d; exact det_extract rfl rfl rfl (by conv => (lhs; whnf)); refine gM rfl rfl (by conv => (lhs; whnf)) ?_; refine gM rfl rfl (by conv => (lhs; whnf)) ?_; refine gO ?_; refine gc_seq ?_; refine gc_seq ?_; refine gc_region ?_; refine gM rfl rfl (by conv => (lhs; whnf)) ?_; apply gw_d; exact det_not_ rfl rfl rfl; refine gO ?_)
  refine gc_if_false rfl ?_
  focus (refine gc_skip ?_; refine gx_next ?_; refine gc_seq ?_; refine gc_region ?_; refine gM rfl rfl (by conv => (lhs; whnf)) ?_; refine gM rfl rfl (by conv => (lhs; whnf)) ?_; refine gM rfl rfl (by conv => (lhs; whnf)) ?_; refine gO ?_; refine gc_ret ?_)
  exact gx_ret2 (u := .slice _ _ _) (v := .int _ _) rfl rfl rfl (fun w' s => ⟨x, rfl, s.sep⟩)

end Go.Proofs.YtckhibfbdnoigaaGreatDoor

/- Bundles, workers, scans, pays: how they lie in memory; what scans come to. No program in sight. -/
namespace Go.Proofs.YtckhibfbdnoigaaGreatDoor
open Go.RowKit

/-! ### How they lie -/
structure Bun where
  (tick garm size lot fr upto : Int)
def rBun : Rp Bun where
  size := 6
  rep _ _ b cs := cs = [.int .i64 b.tick, .int .i64 b.garm, .int .i64 b.size, .int .i64 b.lot, .int .i64 b.fr, .int .i64 b.upto] ∧ inI64 b.tick ∧ inI64 b.fr ∧ inI64 b.upto
  len h := by rw [h.1]; rfl
  mono _ h := h
  grow _ h := h
structure Wrk where
  (name : ByteArray) (machines : List Int)
def rWrk : Rp Wrk where
  size := 2
  rep w S o cs := ∃ A c, cs = [.string o.name, .slice A o.machines.length c] ∧ o.name.size ≤ maxLen ∧ SlS rInt w S (.slice A o.machines.length c) o.machines
  len h := by obtain ⟨_, _, rfl, _⟩ := h; rfl
  mono hb h := by obtain ⟨A, c, h0, h1, h2⟩ := h; exact ⟨A, c, h0, h1, h2.mono hb⟩
  grow hb h := by obtain ⟨A, c, h0, h1, h2⟩ := h; exact ⟨A, c, h0, h1, h2.grow hb⟩
structure Scn where
  (tick op who time : Int)
  deriving DecidableEq
def rScn : Rp Scn where
  size := 4
  rep _ _ b cs := cs = [.int .i64 b.tick, .int .i64 b.op, .int .i64 b.who, .int .i64 b.time] ∧ inI64 b.tick ∧ inI64 b.op ∧ inI64 b.who ∧ inI64 b.time
  len h := by rw [h.1]; rfl
  mono _ h := h
  grow _ h := h
/-! ### What scans come to -/
def paidB (ps : List Scn) (t o : Int) : Bool := ps.any fun y => decide (y.tick = t) && decide (y.op = o)
def lastT (ps : List Scn) (t : Int) : Int := ps.foldl (fun a y => if y.tick = t then y.time else a) 0
def afterAt (l : List Opn) (o : Int) : List Int := ((l[o.toNat]?).map (·.after)).getD []
def machAt (l : List Opn) (o : Int) : Int := ((l[o.toNat]?).map (·.machine)).getD 0
def canAt (ws : List Wrk) (k m : Int) : Bool := hasB (((ws[k.toNat]?).map (·.machines)).getD []) m
def knownB (l : List Opn) (ws : List Wrk) (x : Scn) : Bool := decide (0 ≤ x.op ∧ x.op < l.length ∧ 0 ≤ x.who ∧ x.who < ws.length ∧ 0 ≤ x.time ∧ x.time ≤ 1073741824)
def judgeE (l : List Opn) (ws : List Wrk) (ps : List Scn) (x : Scn) : Int :=
  if knownB l ws x = false then 3 else if canAt ws x.who (machAt l x.op) = false then 4 else if paidB ps x.tick x.op = true then 2 else if (afterAt l x.op).all (fun a => paidB ps x.tick a) = false then 5 else if x.time < lastT ps x.tick then 6 else 1
def outE (l : List Opn) (ws : List Wrk) (tk : List Int) (ps : List Scn) (x : Scn) : Int := if hasB tk x.tick = false then 3 else judgeE l ws ps x
def nextP (l : List Opn) (ws : List Wrk) (tk : List Int) (ps : List Scn) (x : Scn) : List Scn := if outE l ws tk ps x = 1 then ps ++ [x] else ps
def paidL (l : List Opn) (ws : List Wrk) (tk : List Int) (xs : List Scn) : List Scn := xs.foldl (nextP l ws tk) []
def outs (l : List Opn) (ws : List Wrk) (tk : List Int) : List Scn → List Scn → List Int
  | _, [] => []
  | ps, x :: xs => outE l ws tk ps x :: outs l ws tk (nextP l ws tk ps x) xs
theorem outs_len (l : List Opn) (ws : List Wrk) (tk : List Int) : ∀ (xs ps : List Scn), (outs l ws tk ps xs).length = xs.length
  | [], _ => rfl
  | _ :: xs, _ => congrArg (· + 1) (outs_len l ws tk xs _)
theorem outs_snoc (l : List Opn) (ws : List Wrk) (tk : List Int) (x : Scn) : ∀ (xs ps : List Scn), outs l ws tk ps (xs ++ [x]) = outs l ws tk ps xs ++ [outE l ws tk (xs.foldl (nextP l ws tk) ps) x]
  | [], _ => rfl
  | y :: xs, ps => by
    show _ :: outs l ws tk _ (xs ++ [x]) = _
    rw [outs_snoc l ws tk x xs]
    rfl
theorem paidL_snoc (l : List Opn) (ws : List Wrk) (tk : List Int) (xs : List Scn) (x : Scn) : paidL l ws tk (xs ++ [x]) = nextP l ws tk (paidL l ws tk xs) x := by
  unfold paidL
  rw [List.foldl_append]
  rfl

/-! ### The record of a ticket -/
def recC (ps : List Scn) (t : Int) : Array Value := ((List.range 16).map (fun k => Value.bool (paidB ps t (k : Nat))) ++ [Value.int .i64 (lastT ps t)]).toArray
theorem recC_size (ps : List Scn) (t : Int) : (recC ps t).size = 17 := by simp [recC]
theorem recC_paid (ps : List Scn) (t : Int) {o : Nat} (ho : o < 16) : (recC ps t)[o]? = some (.bool (paidB ps t o)) := by
  unfold recC
  rw [List.getElem?_toArray, List.getElem?_append_left (by simp; omega), List.getElem?_map, List.getElem?_range ho]
  rfl
theorem recC_last (ps : List Scn) (t : Int) : (recC ps t)[16]? = some (.int .i64 (lastT ps t)) := by
  unfold recC
  rw [List.getElem?_toArray, List.getElem?_append_right (by simp)]
  simp
theorem paidB_snoc (ps : List Scn) (x : Scn) (t o : Int) : paidB (ps ++ [x]) t o = (paidB ps t o || (decide (x.tick = t) && decide (x.op = o))) := by
  unfold paidB
  rw [List.any_append]
  simp
theorem lastT_snoc (ps : List Scn) (x : Scn) (t : Int) : lastT (ps ++ [x]) t = if x.tick = t then x.time else lastT ps t := by
  unfold lastT
  rw [List.foldl_append]
  rfl
theorem recC_other (ps : List Scn) (x : Scn) {t : Int} (h : ¬ x.tick = t) : recC (ps ++ [x]) t = recC ps t := by
  unfold recC
  have e1 : ∀ o, paidB (ps ++ [x]) t o = paidB ps t o := fun o => by rw [paidB_snoc, decide_eq_false h]; simp
  simp only [e1, lastT_snoc, if_neg h]
theorem recC_pay (ps : List Scn) (x : Scn) {o : Nat} (ho : x.op = (o : Int)) (h16 : o < 16) : ((recC ps x.tick).toList.set o (.bool true)).set 16 (.int .i64 x.time) = (recC (ps ++ [x]) x.tick).toList := by
  apply List.ext_getElem?
  intro j
  have hl : (recC ps x.tick).toList.length = 17 := by rw [Array.length_toList]; exact recC_size _ _
  have e1 : ∀ q t (j : Nat), (recC q t).toList[j]? = (recC q t)[j]? := fun q t j => by rw [Array.getElem?_toList]
  rw [List.getElem?_set, List.getElem?_set, List.length_set, hl, e1, e1]
  by_cases h1 : 16 = j
  · subst h1
    rw [if_pos rfl, if_pos (by omega), recC_last, lastT_snoc, if_pos rfl]
  · rw [if_neg h1]
    by_cases h2 : o = j
    · subst h2
      rw [if_pos rfl, if_pos (by omega), recC_paid _ _ h16, paidB_snoc, ho]
      simp
    · rw [if_neg h2]
      by_cases h3 : j < 16
      · rw [recC_paid _ _ h3, recC_paid _ _ h3, paidB_snoc, ho, decide_eq_false (p := (o : Int) = (j : Int)) (by omega)]
        simp
      · rw [Array.getElem?_eq_none (by rw [recC_size]; omega), Array.getElem?_eq_none (by rw [recC_size]; omega)]
theorem set_row {cs : Array Value} {i : Nat} {v : Value} (hi : i < cs.size) (hv : v.cells = #[v]) : (cs.toList.take i ++ v.cells.toList ++ cs.toList.drop (i + 1)).toArray = (cs.toList.set i v).toArray := by
  rw [List.set_eq_take_append_cons_drop, if_pos (by rw [Array.length_toList]; exact hi), hv, List.append_assoc]
  rfl
end Go.Proofs.YtckhibfbdnoigaaGreatDoor

/- The records of all tickets, and the map that leads to them. No program in sight. -/
namespace Go.Proofs.YtckhibfbdnoigaaGreatDoor
open Go.RowKit

def tkAt (tk : List Int) (i : Nat) : Int := tk.getD i 0
def Tix (tk : List Int) : Prop := ∀ i j, i < j → j < tk.length → ¬ tkAt tk i = tkAt tk j
def ptrAt (β : Nat → Nat) (i : Nat) : Value := .pointer (some ⟨β i, 0, none⟩)
def recF (tk : List Int) (β : Nat → Nat) (rt : TypeId) (ps : List Scn) (i : Nat) : Res := Box (β i) rt (recC ps (tkAt tk i))
def mapK (tk : List Int) (β : Nat → Nat) : Nat → List (Int × Value)
  | 0 => []
  | k + 1 => aset (mapK tk β k) (tkAt tk k) (ptrAt β k)
theorem Tix.inj {tk : List Int} (h : Tix tk) {i j : Nat} (hi : i < tk.length) (hj : j < tk.length) (he : tkAt tk i = tkAt tk j) : i = j := by
  rcases Nat.lt_trichotomy i j with h1 | h1 | h1
  · exact absurd he (h i j h1 hj)
  · exact h1
  · exact absurd he.symm (h j i h1 hi)
theorem mapK_old {tk : List Int} {β : Nat → Nat} (h : Tix tk) : ∀ k, k ≤ tk.length → ∀ i, i < k → aget (mapK tk β k) (tkAt tk i) = some (ptrAt β i)
  | 0, _, i, hi => by omega
  | k + 1, hk, i, hi => by
    show aget (aset (mapK tk β k) (tkAt tk k) (ptrAt β k)) (tkAt tk i) = _
    rw [aget_aset]
    split
    · rename_i he
      rw [h.inj (by omega) (by omega) he]
    · rename_i he
      exact mapK_old h k (by omega) i (by
        have : ¬ i = k := fun hc => he (by rw [hc])
        omega)
theorem mapK_none {tk : List Int} {β : Nat → Nat} {t : Int} : ∀ k, (∀ i, i < k → ¬ tkAt tk i = t) → aget (mapK tk β k) t = none
  | 0, _ => rfl
  | k + 1, h => by
    show aget (aset (mapK tk β k) (tkAt tk k) (ptrAt β k)) t = _
    rw [aget_aset, if_neg (h k (by omega))]
    exact mapK_none k fun i hi => h i (by omega)
theorem mapK_congr {tk : List Int} {β β' : Nat → Nat} : ∀ k, (∀ i, i < k → β i = β' i) → mapK tk β k = mapK tk β' k
  | 0, _ => rfl
  | k + 1, h => by
    show aset (mapK tk β k) (tkAt tk k) (ptrAt β k) = aset (mapK tk β' k) (tkAt tk k) (ptrAt β' k)
    rw [mapK_congr k fun i hi => h i (by omega)]
    unfold ptrAt
    rw [h k (by omega)]
theorem tk_has {tk : List Int} {t : Int} (h : hasB tk t = true) : ∃ i, i < tk.length ∧ tkAt tk i = t := by
  obtain ⟨i, hi, he⟩ := List.getElem_of_mem (hasB_iff.1 h)
  exact ⟨i, hi, by unfold tkAt; rw [List.getD_eq_getElem?_getD, List.getElem?_eq_getElem hi]; exact he⟩
theorem tk_not {tk : List Int} {t : Int} (h : hasB tk t = false) : ∀ i, i < tk.length → ¬ tkAt tk i = t := fun i hi he => by
  have : hasB tk t = true := hasB_iff.2 (by
    rw [← he]
    unfold tkAt
    rw [List.getD_eq_getElem?_getD, List.getElem?_eq_getElem hi]
    exact List.getElem_mem hi)
  rw [this] at h
  cases h
/-- One more record. -/
theorem rec_push {tk : List Int} {β : Nat → Nat} {rt : TypeId} {k b : Nat} {ps : List Scn} {L : List Res} : Ent (Box b rt (recC ps (tkAt tk k)) :: Coll k (recF tk β rt ps) :: L) (Coll (k + 1) (recF tk (fun i => if i = k then b else β i) rt ps) :: L) :=
  Ent.trans coll_push (coll_congr fun i hi => by
    unfold setR recF
    by_cases h : i = k
    · subst h; simp
    · simp [h])
theorem rec_take {tk : List Int} {β : Nat → Nat} {rt : TypeId} {n i : Nat} {ps : List Scn} {L : List Res} (hi : i < n) : Ent (Coll n (recF tk β rt ps) :: L) (Box (β i) rt (recC ps (tkAt tk i)) :: Coll n (setR (recF tk β rt ps) i Emp) :: L) := coll_take hi
theorem rec_put {tk : List Int} {β : Nat → Nat} {rt : TypeId} {i : Nat} {ps : List Scn} {x : Scn} {L : List Res} (h : Tix tk) (hi : i < tk.length) (hx : tkAt tk i = x.tick) : Ent (Box (β i) rt (recC (ps ++ [x]) x.tick) :: Coll tk.length (setR (recF tk β rt ps) i Emp) :: L) (Coll tk.length (recF tk β rt (ps ++ [x])) :: L) :=
  Ent.trans (coll_put hi) (coll_congr fun j hj => by
    unfold setR recF
    by_cases hji : j = i
    · subst hji; simp [hx]
    · simp only [if_neg hji]
      rw [recC_other _ _ fun hc => hji (h.inj hj hi (by rw [hx, hc]))])
/-- The row of outcomes, so far. -/
def outRow (l : List Int) (n : Nat) : List Int := l ++ List.replicate (n - l.length) 0
theorem outRow_len {l : List Int} {n : Nat} (h : l.length ≤ n) : (outRow l n).length = n := by simp [outRow]; omega
theorem outRow_set {l : List Int} {n : Nat} (h : l.length < n) (v : Int) : (outRow l n).set l.length v = outRow (l ++ [v]) n := by
  unfold outRow
  rw [List.set_append_right _ _ (Nat.le_refl _), Nat.sub_self]
  obtain ⟨m, hm⟩ : ∃ m, n - l.length = m + 1 := ⟨n - l.length - 1, by omega⟩
  rw [hm, List.replicate_succ, List.set_cons_zero, List.append_assoc, List.length_append]
  have : n - (l.length + [v].length) = m := by simp; omega
  rw [this]
  rfl
theorem outRow_full {l : List Int} : outRow l l.length = l := by simp [outRow]
theorem outRow_nil (n : Nat) : outRow [] n = List.replicate n 0 := by simp [outRow]
end Go.Proofs.YtckhibfbdnoigaaGreatDoor

/- Contracts: workers. -/
namespace Go.Proofs.YtckhibfbdnoigaaGreatDoor
open Go.RowKit
set_option maxRecDepth 100000
set_option maxHeartbeats 2000000

theorem Sl.wrk {w : World} {B : Nat} {v : Value} {l : List Wrk} (h : Sl rWrk w B v l) : ∃ A c, v = .slice A l.length c ∧ l.length ≤ c ∧ l.length ≤ 9223372036854775807 ∧
    ∀ k (hk : k < l.length), ∃ ad Am cm, A = some ad ∧ ad.block < B ∧ (∀ j u, [Value.string l[k].name, .slice Am l[k].machines.length cm][j]? = some u → w.cell? (ad.add (k * 2 + j)) = some u) ∧ l[k].name.size ≤ 9223372036854775807 ∧ Sl rInt w B (.slice Am l[k].machines.length cm) l[k].machines := by
  obtain ⟨A, c, hv, h1, h2, h3⟩ := h
  refine ⟨A, c, hv, h1, by unfold maxLen at h2; omega, fun k hk => ?_⟩
  obtain ⟨ad, cs, ha, hlt, hc, Am, cm, rfl, hn, hs⟩ := h3 k hk
  exact ⟨ad, Am, cm, ha, hlt, hc, by unfold maxLen at hn; omega, hs⟩

theorem isMachine_ok (w : World) (m : Int) : Ok Tryz.prog 75 [.int .i64 m].toArray w fun x _ => x = .bool (decide (0 ≤ m ∧ m < 8)) := by
  refine ok_enter Tryz.func75 rfl Tryz.ntmps75 rfl ?_
  focus (refine gc_seq ?_; refine gc_region ?_; refine gM rfl rfl (by conv => (lhs; whnf)) ?_; refine gN ?_; refine gM rfl rfl (by conv => (lhs; whnf)) ?_; refine gC rfl rfl rfl rfl rfl ?_; refine gM rfl rfl (by conv => (lhs; whnf)) ?_; refine gw_guard_dec rfl rfl (fun _ => ?_) (fun _ => ?_); refine gM rfl rfl (by conv => (lhs; whnf)) ?_; refine gC rfl rfl rfl rfl rfl ?_; apply gw_d; exact det_pick_t (v := .bool _) rfl rfl rfl rfl; refine gM rfl rfl (by conv => (lhs; whnf)) ?_; refine gO ?_; refine gc_ret ?_; rotate_left; refine gU rfl ?_; refine gU rfl ?_; apply gw_d; exact det_pick_f (v := .bool _) rfl rfl rfl rfl; refine gM rfl rfl (by conv => (lhs; whnf)) ?_; refine gO ?_; refine gc_ret ?_; rotate_left)
  · refine gx_ret1 (v := .bool _) rfl rfl (fun _ _ => ?_)
    rename_i h _ _
    congr 1
    simp only [show 0 ≤ m from h, true_and]
  · refine gx_ret1 (v := .bool _) rfl rfl (fun _ _ => ?_)
    rename_i h _ _
    congr 1
    rw [decide_eq_false (fun h2 => h h2.1)]
theorem can_ok (w : World) (nm : ByteArray) (A : Option Addr) (_c m : Int) (k : Nat) (ms : List Int) (hl : Sl rInt w w.heap.size (.slice A ms.length k) ms) : Ok Tryz.prog 65 [.agg #[.string nm, .slice A ms.length k], .int .i64 m].toArray w fun x _ => x = .bool (hasB ms m) := by
  refine ok_enter Tryz.func65 rfl Tryz.ntmps65 rfl ?_
  focus (refine gc_seq ?_; refine gc_region ?_; refine gw_boxd (v := .agg _) rfl rfl (fun _ => ?_); refine gM rfl rfl (by conv => (lhs; whnf)) ?_; refine gN ?_; refine gF rfl rfl rfl ?_; apply gw_d; exact w_load_box rfl rfl rfl .here rfl; refine gM rfl rfl (by conv => (lhs; whnf)) ?_; apply gw_d; exact w_call rfl rfl (fun w' s => containsInt_ok w' _ ms m (hl.later s)) rfl; refine gM rfl rfl (by conv => (lhs; whnf)) ?_; refine gO ?_; refine gc_ret ?_)
  refine gx_ret1 (v := .bool _) rfl rfl (fun _ _ => ?_)
  congr 1
  unfold hasB isI
  congr 1
  funext x
  simp [eq_comm]
/-! ### The machines of a worker -/
def machF (ms : List Int) (j : Nat) : Int := match ms[j]? with
  | some m => if ¬ (0 ≤ m ∧ m < 8) then 3 else if hasB (ms.take j) m = true then 7 else 0
  | none => 0
def machE (ms : List Int) : Int := firstE (machF ms) ms.length
def wrkE (l : List Wrk) (i : Nat) : Int := match l[i]? with
  | some x => if nameB x.name = false then 1 else if ((l.take i).any fun y => eqS y.name x.name) = true then 7 else machE x.machines
  | none => 0
def skillE (l : List Wrk) : Int := if l.length > 12 then 5 else firstE (wrkE l) l.length
def seenL (ms : List Int) : List Bool := (List.range 8).map fun i => hasB ms ((i : Nat) : Int)
theorem seenL_len (ms : List Int) : (seenL ms).length = 8 := by simp [seenL]
theorem seenL_get (ms : List Int) {m : Nat} (hm : m < 8) : (seenL ms).getD m false = hasB ms m := by
  simp [seenL, hm]
theorem seenL_snoc (ms : List Int) {m : Nat} (_hm : m < 8) : (seenL ms).set m true = seenL (ms ++ [(m : Int)]) := by
  apply List.ext_getElem
  · simp [seenL]
  · intro i h1 h2
    simp only [seenL, List.getElem_set, List.getElem_map, List.getElem_range, hasB, List.any_append]
    by_cases h : m = i
    · subst h; simp
    · have : ¬ (m : Int) = (i : Int) := by omega
      simp [h, this]
theorem skillCheck_ok (w : World) (v : Value) (l : List Wrk) (hl : Sl rWrk w w.heap.size v l) : Ok Tryz.prog 64 [v].toArray w fun x _ => x = .int .i64 (skillE l) := by
  obtain ⟨A, c, rfl, hc, hm, hcell⟩ := hl.wrk
  refine ok_enter Tryz.func64 rfl Tryz.ntmps64 rfl ?_
  focus (refine gc_seq ?_; refine gc_region ?_; refine gM rfl rfl (by conv => (lhs; whnf)) ?_; refine gO ?_; refine gc_seq ?_; refine gc_seq ?_; refine gc_region ?_; refine gM rfl rfl (by conv => (lhs; whnf)) ?_; refine gL rfl rfl rfl ?_; refine gC rfl rfl rfl rfl rfl ?_; refine gO ?_)
  refine gc_if_dec rfl (fun h => ?_) (fun h12 => ?_)
  · focus (refine gc_seq ?_; refine gc_region ?_; refine gM rfl rfl (by conv => (lhs; whnf)) ?_; refine gO ?_; refine gc_ret ?_; refine gx_then_ret ?_)
    refine gx_ret1 (v := .int _ _) rfl rfl (fun _ _ => ?_)
    unfold skillE
    rw [if_pos (by omega)]
  have hE : skillE l = firstE (wrkE l) l.length := by unfold skillE; rw [if_neg (by omega)]
  rw [hE]
  focus (refine gc_skip ?_; refine gx_next ?_; refine gc_seq ?_; refine gc_seq ?_; refine gc_region ?_; refine gM rfl rfl (by conv => (lhs; whnf)) ?_; refine gL rfl rfl rfl ?_; refine gM rfl rfl (by conv => (lhs; whnf)) ?_; refine gO ?_; refine gc_block ?_)
  refine gc_loopK (σ := Nat) [16, 17, 18, 19, 4, 3, 20, 21, 22, 23, 24, 2, 25, 26, 27, 28, 29, 30, 31, 32, 6, 33, 34, 35, 36, 37, 38, 7, 39, 40, 41, 42, 43, 44, 45, 9, 46, 47, 48, 49, 50, 51, 52, 53, 54, 55, 15] (fun k => [(15, .int .i64 k)]) (fun k => k ≤ l.length ∧ firstE (wrkE l) k = 0) (fun k => l.length - k) 0 ⟨Nat.zero_le _, rfl⟩ ⟨rfl, trivial⟩ ?_
  rintro k base ⟨hk, hI⟩
  focus (refine gc_seq ?_; refine gc_region ?_; refine gC rfl rfl rfl rfl rfl ?_; refine gO ?_; refine gc_seq ?_)
  refine gc_if_dec rfl (fun h => ?_) (fun h => ?_)
  · have hlt : k < l.length := by omega
    obtain ⟨ad, Am, cm, rfl, hb, hce, hnm, hms⟩ := hcell k hlt
    have hW : wrkE l k = if nameB l[k].name = false then 1 else if ((l.take k).any fun y => eqS y.name l[k].name) = true then 7 else machE l[k].machines := by
      unfold wrkE
      rw [List.getElem?_eq_getElem hlt]
    focus (refine gc_skip ?_; refine gx_next ?_; refine gc_seq ?_; refine gc_block ?_; refine gc_seq ?_; refine gc_region ?_; refine gM rfl rfl (by conv => (lhs; whnf)) ?_; apply gw_d; exact w_index rfl rfl rfl rfl (by with_reducible exact rfl) (by omega); apply gw_d; exact w_load_elem rfl rfl rfl (by assumption) (by assumption) (by rfl); refine w_alloc rfl (fun _ => ?_); refine gM rfl rfl (by conv => (lhs; whnf)) ?_; refine w_store_all rfl rfl rfl rfl rfl .here rfl ?_; refine gO ?_; refine gc_seq ?_; refine gc_seq ?_; refine gc_region ?_; refine gF rfl rfl rfl ?_; apply gw_d; exact w_load_box rfl rfl rfl .here rfl)
    focus (apply gw_d; exact w_buildP [(0, .int .i64 2), (2, .string l[k].name)] (cells := #[.int .i64 2, .bool false, .slice none 0 0, .slice none 0 0, .string l[k].name, .slice none 0 0]) (by rfl) rfl rfl rfl; apply gw_d; exact w_call rfl rfl (fun w _ => fcheck_ok w l[k].name hnm) rfl; refine gC rfl rfl rfl rfl rfl ?_; refine gO ?_)
    refine gc_if_dec rfl (fun h => ?_) (fun h => ?_)
    · focus (refine gc_seq ?_; refine gc_region ?_; refine gM rfl rfl (by conv => (lhs; whnf)) ?_; refine gO ?_; refine gc_ret ?_; refine gx_then_ret ?_; refine gx_block_ret ?_; refine gx_then_ret ?_; refine gx_then_ret ?_; refine gx_block_ret ?_; refine gx_then_ret ?_)
      refine gx_ret1 (v := .int _ _) rfl rfl (fun _ _ => ?_)
      have hn : nameB l[k].name = false := by cases h2 : nameB l[k].name <;> simp_all
      rw [if_pos hn] at hW
      rw [firstE_stop hI (by rw [hW]; decide) hlt, hW]
    have hn : nameB l[k].name = true := by cases h2 : nameB l[k].name <;> simp_all
    rw [if_neg (by rw [hn]; decide)] at hW
    focus (refine gc_skip ?_; refine gx_next ?_; refine gc_seq ?_; refine gc_seq ?_; refine gc_region ?_; refine gM rfl rfl (by conv => (lhs; whnf)) ?_; refine gM rfl rfl (by conv => (lhs; whnf)) ?_; apply gw_d; exact w_cut_hi rfl rfl rfl rfl (by with_reducible exact rfl) (by omega); refine gL rfl rfl rfl ?_; refine gM rfl rfl (by conv => (lhs; whnf)) ?_; refine gO ?_; refine gc_block ?_)
    refine gc_loopK (σ := Nat) [30, 31, 32, 6, 33, 34, 35, 36, 37, 2, 38, 29] (fun j => [(29, .int .i64 j)]) (fun j => j ≤ k ∧ ((l.take j).any fun y => eqS y.name l[k].name) = false) (fun j => k - j) 0 ⟨Nat.zero_le _, rfl⟩ ⟨rfl, trivial⟩ ?_
    rintro j base2 ⟨hj, hJ⟩
    focus (refine gc_seq ?_; refine gc_region ?_; refine gC rfl rfl rfl rfl rfl ?_; refine gO ?_; refine gc_seq ?_)
    refine gc_if_dec rfl (fun h => ?_) (fun h => ?_)
    · have hjl : j < l.length := by omega
      obtain ⟨ad2, Am2, cm2, h2, hb2, hce2, _, _⟩ := hcell j hjl
      injection h2 with h2
      subst h2
      focus (refine gc_skip ?_; refine gx_next ?_; refine gc_seq ?_; refine gc_block ?_; refine gc_seq ?_; refine gc_region ?_; apply gw_d; exact w_index rfl rfl rfl rfl (by with_reducible exact rfl) (by omega); apply gw_d; exact w_load_elem rfl rfl rfl (by assumption) (by assumption) (by rfl); refine w_alloc rfl (fun _ => ?_); refine w_store_all rfl rfl rfl rfl rfl .here rfl ?_; refine gN ?_; refine gF rfl rfl rfl ?_; apply gw_d; exact w_load_box rfl rfl rfl .here rfl; refine gF rfl rfl rfl ?_; apply gw_d; exact w_load_box rfl rfl rfl (.there .here) rfl; apply gw_d; exact det_seq rfl rfl rfl rfl; refine gO ?_)
      refine gc_if rfl (fun h => ?_) (fun h => ?_)
      · focus (refine gc_seq ?_; refine gc_region ?_; refine gM rfl rfl (by conv => (lhs; whnf)) ?_; refine gO ?_; refine gc_ret ?_; refine gx_block_ret ?_; refine gx_then_ret ?_; refine gx_then_ret ?_; refine gx_block_ret ?_; refine gx_then_ret ?_; refine gx_block_ret ?_; refine gx_then_ret ?_; refine gx_then_ret ?_; refine gx_block_ret ?_; refine gx_then_ret ?_)
        refine gx_ret1 (v := .int _ _) rfl rfl (fun _ _ => ?_)
        rw [if_pos (List.any_eq_true.2 ⟨l[j], List.mem_take_iff_getElem.2 ⟨j, by omega, rfl⟩, h⟩)] at hW
        rw [firstE_stop hI (by rw [hW]; decide) hlt, hW]
      · focus (refine gc_skip ?_; refine gx_block ?_; refine gx_next ?_; refine gc_region ?_; apply gw_d; exact det_ar rfl rfl rfl rfl rfl (by omega); refine gM rfl rfl (by conv => (lhs; whnf)) ?_; refine gw_nil ?_)
        exact gx_round (j + 1) ⟨by omega, take_any_snoc hjl hJ h⟩ (by omega) (by repeat (first | exact Keeps.refl | refine Keeps.upd rfl ?_ | refine Keeps.sets rfl ?_ | refine Keeps.havoc rfl ?_)) ⟨rfl, trivial⟩ Sub.tail
    obtain rfl : j = k := by omega
    rw [if_neg (by rw [hJ]; decide)] at hW
    obtain ⟨_, _, hv, hmc, hmm, hmcell⟩ := hms.int
    injection hv with e1 e2 e3
    subst e1 e3
    focus (refine gc_exit ?_; refine gx_then_exit ?_; refine gx_then_exit ?_; refine gx_block_exit ?_; refine gx_next ?_; refine gc_seq ?_; refine gc_region ?_; refine w_alloc rfl (fun _ => ?_); refine gN ?_; refine gF rfl rfl rfl ?_; apply gw_d; exact w_load_box rfl rfl rfl (.there .here) rfl; refine gL rfl rfl rfl ?_; refine gM rfl rfl (by conv => (lhs; whnf)) ?_; refine gO ?_; refine gc_block ?_)
    refine gc_loop1 (σ := Nat) [43, 44, 45, 9, 46, 47, 48, 2, 49, 50, 51, 52, 53, 54, 42] (fun i => [(42, .int .i64 i)]) (fun i => Box _ 157 ((seenL (l[j].machines.take i)).map Value.bool).toArray) (fun i => i ≤ l[j].machines.length ∧ firstE (machF l[j].machines) i = 0) (fun i => l[j].machines.length - i) 0 ⟨Nat.zero_le _, rfl⟩ ⟨rfl, trivial⟩ rfl ?_
    rintro i base3 ⟨hi, hM⟩
    focus (refine gc_seq ?_; refine gc_region ?_; refine gC rfl rfl rfl rfl rfl ?_; refine gO ?_; refine gc_seq ?_)
    refine gc_if_dec rfl (fun h => ?_) (fun h => ?_)
    · have hil : i < l[j].machines.length := by omega
      obtain ⟨ad3, rfl, hb3, hce3, _⟩ := hmcell i hil
      have hF : machF l[j].machines i = if ¬ (0 ≤ l[j].machines[i] ∧ l[j].machines[i] < 8) then 3 else if hasB (l[j].machines.take i) l[j].machines[i] = true then 7 else 0 := by
        unfold machF
        rw [List.getElem?_eq_getElem hil]
      focus (refine gc_skip ?_; refine gx_next ?_; refine gc_seq ?_; refine gc_block ?_; refine gc_seq ?_; refine gc_region ?_; apply gw_d; exact w_index rfl rfl rfl rfl (by with_reducible exact rfl) (by omega); apply gw_d; exact w_load_at rfl rfl rfl (by assumption) (by assumption); refine gM rfl rfl (by conv => (lhs; whnf)) ?_; refine gO ?_; refine gc_seq ?_; refine gc_seq ?_; refine gc_region ?_; refine gM rfl rfl (by conv => (lhs; whnf)) ?_; apply gw_d; exact w_call rfl rfl (fun w _ => isMachine_ok w _) rfl; apply gw_d; exact det_not_dec rfl rfl rfl; refine gO ?_)
      refine gc_if rfl (fun h => ?_) (fun h => ?_)
      · focus (refine gc_seq ?_; refine gc_region ?_; refine gM rfl rfl (by conv => (lhs; whnf)) ?_; refine gO ?_; refine gc_ret ?_; refine gx_then_ret ?_; refine gx_block_ret ?_; refine gx_then_ret ?_; refine gx_then_ret ?_; refine gx_block_ret ?_; refine gx_block_ret ?_; refine gx_then_ret ?_; refine gx_then_ret ?_; refine gx_block_ret ?_; refine gx_then_ret ?_)
        refine gx_ret1 (v := .int _ _) rfl rfl (fun _ _ => ?_)
        have h' : ¬ (0 ≤ l[j].machines[i] ∧ l[j].machines[i] < 8) := by
          have h9 : l[j].machines[i] < 0 ∨ 8 ≤ l[j].machines[i] := by simpa using h
          omega
        rw [if_pos h'] at hF
        have hME : machE l[j].machines = 3 := by unfold machE; rw [firstE_stop hM (by rw [hF]; decide) hil, hF]
        rw [hME] at hW
        rw [firstE_stop hI (by rw [hW]; decide) hlt, hW]
      have h8 : 0 ≤ l[j].machines[i] ∧ l[j].machines[i] < 8 := by simpa using h
      obtain ⟨m, hmm⟩ : ∃ m : Nat, l[j].machines[i] = (m : Int) := ⟨l[j].machines[i].toNat, by omega⟩
      have hm8 : m < 8 := by omega
      rw [hmm] at hF
      rw [if_neg (by omega)] at hF
      have hsl := seenL_len (l[j].machines.take i)
      have hg : ((seenL (l[j].machines.take i)).map Value.bool).toArray[m * 1]? = some (.bool ((seenL (l[j].machines.take i)).getD m false)) := row_get Value.bool false (by omega)
      rw [seenL_get _ hm8] at hg
      focus (refine gc_skip ?_; refine gx_next ?_; refine gc_seq ?_; refine gc_seq ?_; refine gc_region ?_; refine gM rfl rfl (by conv => (lhs; whnf)) ?_; apply gw_d; exact w_index_arr (m := m) rfl rfl rfl rfl hmm hm8; apply gw_d; exact w_load_row rfl rfl rfl .here hg; refine gO ?_)
      refine gc_if rfl (fun h => ?_) (fun h => ?_)
      · focus (refine gc_seq ?_; refine gc_region ?_; refine gM rfl rfl (by conv => (lhs; whnf)) ?_; refine gO ?_; refine gc_ret ?_; refine gx_then_ret ?_; refine gx_block_ret ?_; refine gx_then_ret ?_; refine gx_then_ret ?_; refine gx_block_ret ?_; refine gx_block_ret ?_; refine gx_then_ret ?_; refine gx_then_ret ?_; refine gx_block_ret ?_; refine gx_then_ret ?_)
        refine gx_ret1 (v := .int _ _) rfl rfl (fun _ _ => ?_)
        rw [if_pos h] at hF
        have hME : machE l[j].machines = 7 := by unfold machE; rw [firstE_stop hM (by rw [hF]; decide) hil, hF]
        rw [hME] at hW
        rw [firstE_stop hI (by rw [hW]; decide) hlt, hW]
      rw [if_neg (by rw [h]; decide)] at hF
      focus (refine gc_skip ?_; refine gx_next ?_; refine gc_region ?_; refine gM rfl rfl (by conv => (lhs; whnf)) ?_; apply gw_d; exact w_index_arr (m := m) rfl rfl rfl rfl hmm hm8)
      refine w_store_row (n := 1) (v := .bool true) rfl rfl rfl rfl rfl .here (by simp; omega) (row_set Value.bool (by omega) true) ?_
      rw [seenL_snoc _ hm8, ← hmm, ← List.take_succ_eq_append_getElem hil]
      focus (refine gw_nil ?_; refine gx_block ?_; refine gx_next ?_; refine gc_region ?_; apply gw_d; exact det_ar rfl rfl rfl rfl rfl (by omega); refine gM rfl rfl (by conv => (lhs; whnf)) ?_; refine gw_nil ?_)
      exact gx_round (i + 1) ⟨by omega, firstE_snoc hM hF⟩ (by omega) (by repeat (first | exact Keeps.refl | refine Keeps.upd rfl ?_ | refine Keeps.sets rfl ?_ | refine Keeps.havoc rfl ?_)) ⟨rfl, trivial⟩ (Sub.all _)
    · obtain rfl : i = l[j].machines.length := by omega
      have hME : machE l[j].machines = 0 := hM
      rw [hME] at hW
      focus (refine gc_exit ?_; refine gx_then_exit ?_; refine gx_then_exit ?_; refine gx_block_exit ?_; refine gx_block ?_; refine gx_next ?_; refine gc_region ?_; apply gw_d; exact det_ar rfl rfl rfl rfl rfl (by omega); refine gM rfl rfl (by conv => (lhs; whnf)) ?_; refine gw_nil ?_)
      exact gx_round (j + 1) ⟨by omega, firstE_snoc hI hW⟩ (by omega) (by repeat (first | exact Keeps.refl | refine Keeps.upd rfl ?_ | refine Keeps.sets rfl ?_ | refine Keeps.havoc rfl ?_)) ⟨rfl, trivial⟩ (Sub.weak (Sub.weak (Sub.all _)))
  · obtain rfl : k = l.length := by omega
    focus (refine gc_exit ?_; refine gx_then_exit ?_; refine gx_then_exit ?_; refine gx_block_exit ?_; refine gx_next ?_; refine gc_seq ?_; refine gc_region ?_; refine gM rfl rfl (by conv => (lhs; whnf)) ?_; refine gO ?_; refine gc_ret ?_)
    refine gx_ret1 (v := .int _ _) rfl rfl (fun _ _ => ?_)
    rw [hI]
end Go.Proofs.YtckhibfbdnoigaaGreatDoor

/- Contracts: bundles; scan.Check, given what operation.Check answers. -/
namespace Go.Proofs.YtckhibfbdnoigaaGreatDoor
open Go.RowKit
set_option maxRecDepth 100000
set_option maxHeartbeats 2000000

theorem Sl.bun {w : World} {B : Nat} {v : Value} {l : List Bun} (h : Sl rBun w B v l) : ∃ A c, v = .slice A l.length c ∧ l.length ≤ c ∧ l.length ≤ 9223372036854775807 ∧
    ∀ k (hk : k < l.length), ∃ ad, A = some ad ∧ ad.block < B ∧ (∀ j u, [Value.int .i64 l[k].tick, .int .i64 l[k].garm, .int .i64 l[k].size, .int .i64 l[k].lot, .int .i64 l[k].fr, .int .i64 l[k].upto][j]? = some u → w.cell? (ad.add (k * 6 + j)) = some u) ∧ inI64 l[k].tick ∧ inI64 l[k].fr ∧ inI64 l[k].upto := by
  obtain ⟨A, c, hv, h1, h2, h3⟩ := h
  refine ⟨A, c, hv, h1, by unfold maxLen at h2; omega, fun k hk => ?_⟩
  obtain ⟨ad, cs, ha, hlt, hc, rfl, hr⟩ := h3 k hk
  exact ⟨ad, ha, hlt, hc, hr⟩
def bunE (l : List Bun) (i : Nat) : Int := match l[i]? with
  | some b => if b.fr ≥ b.upto ∨ b.upto - b.fr > 40 then 3 else if ((l.take i).any fun y => decide (y.tick = b.tick)) = true then 7 else 0
  | none => 0
def scanE (e : Int) (bs : List Bun) (ws : List Wrk) : Int := if ¬ e = 0 then e else if bs.length > 60 then 5 else if ¬ firstE (bunE bs) bs.length = 0 then firstE (bunE bs) bs.length else skillE ws
theorem wrap_u64 (i : Int) : IntKind.u64.wrap i = i % 18446744073709551616 := by
  unfold IntKind.wrap
  rfl
theorem scanCheck_ok (w : World) (v0 v1 v2 v3 v4 v5 v6 vb vw : Value) (e : Int) (bs : List Bun) (ws : List Wrk) (hO : ∀ (L : List Res) (w' : World), St w L w' → Ok Tryz.prog 63 [.agg #[v0, v1, v2, v3, v4, v5, v6]].toArray w' fun x _ => x = .int .i64 e)
    (hb : Sl rBun w w.heap.size vb bs) (hw : Sl rWrk w w.heap.size vw ws) : Ok Tryz.prog 53 [.agg #[v0, v1, v2, v3, v4, v5, v6], vb, vw].toArray w fun x _ => x = .int .i64 (scanE e bs ws) := by
  obtain ⟨A, c, rfl, hc, hm, hcell⟩ := hb.bun
  obtain ⟨Aw, cw, rfl, hwc, hwm, _⟩ := hw.wrk
  refine ok_enter Tryz.func53 rfl Tryz.ntmps53 rfl ?_
  focus (refine gc_seq ?_; refine gc_region ?_; refine gw_boxd (v := .agg _) rfl rfl (fun _ => ?_); refine gM rfl rfl (by conv => (lhs; whnf)) ?_; refine gO ?_; refine gc_seq ?_; refine gc_seq ?_; refine gc_region ?_; apply gw_d; exact w_load_boxN rfl rfl rfl .here rfl; apply gw_d; exact w_call rfl rfl (hO _) rfl; refine gM rfl rfl (by conv => (lhs; whnf)) ?_; refine gN ?_; refine gM rfl rfl (by conv => (lhs; whnf)) ?_; refine gC rfl rfl rfl rfl rfl ?_; refine gO ?_)
  refine gc_if_dec rfl (fun h => ?_) (fun h => ?_)
  · focus (refine gc_seq ?_; refine gc_region ?_; refine gM rfl rfl (by conv => (lhs; whnf)) ?_; refine gM rfl rfl (by conv => (lhs; whnf)) ?_; refine gO ?_; refine gc_ret ?_; refine gx_then_ret ?_)
    refine gx_ret1 (v := .int _ _) rfl rfl (fun _ _ => ?_)
    unfold scanE
    rw [if_pos h]
  have he : e = 0 := by simpa using h
  focus (refine gc_skip ?_; refine gx_next ?_; refine gc_seq ?_; refine gc_seq ?_; refine gc_region ?_; refine gM rfl rfl (by conv => (lhs; whnf)) ?_; refine gL rfl rfl rfl ?_; refine gC rfl rfl rfl rfl rfl ?_; refine gO ?_)
  refine gc_if_dec rfl (fun h => ?_) (fun h60 => ?_)
  · focus (refine gc_seq ?_; refine gc_region ?_; refine gM rfl rfl (by conv => (lhs; whnf)) ?_; refine gO ?_; refine gc_ret ?_; refine gx_then_ret ?_)
    refine gx_ret1 (v := .int _ _) rfl rfl (fun _ _ => ?_)
    unfold scanE
    rw [if_neg (by rw [he]; decide), if_pos (by omega)]
  have hE : scanE e bs ws = if ¬ firstE (bunE bs) bs.length = 0 then firstE (bunE bs) bs.length else skillE ws := by
    unfold scanE
    rw [if_neg (by rw [he]; decide), if_neg (by omega)]
  rw [hE]
  focus (refine gc_skip ?_; refine gx_next ?_; refine gc_seq ?_; refine gc_seq ?_; refine gc_region ?_; refine gM rfl rfl (by conv => (lhs; whnf)) ?_; refine gL rfl rfl rfl ?_; refine gM rfl rfl (by conv => (lhs; whnf)) ?_; refine gO ?_; refine gc_block ?_)
  refine gc_loopK (σ := Nat) [23, 24, 25, 26, 9, 8, 27, 28, 29, 30, 31, 32, 33, 34, 35, 36, 37, 38, 39, 40, 41, 6, 42, 43, 44, 45, 46, 47, 48, 49, 11, 50, 51, 52, 53, 54, 55, 56, 22] (fun k => [(22, .int .i64 k)]) (fun k => k ≤ bs.length ∧ firstE (bunE bs) k = 0) (fun k => bs.length - k) 0 ⟨Nat.zero_le _, rfl⟩ ⟨rfl, trivial⟩ ?_
  rintro k base ⟨hk, hI⟩
  focus (refine gc_seq ?_; refine gc_region ?_; refine gC rfl rfl rfl rfl rfl ?_; refine gO ?_; refine gc_seq ?_)
  refine gc_if_dec rfl (fun h => ?_) (fun h => ?_)
  · have hlt : k < bs.length := by omega
    obtain ⟨ad, rfl, hbk, hce, h1, h2, h3⟩ := hcell k hlt
    unfold inI64 at h1 h2 h3
    have hW : bunE bs k = if bs[k].fr ≥ bs[k].upto ∨ bs[k].upto - bs[k].fr > 40 then 3 else if ((bs.take k).any fun y => decide (y.tick = bs[k].tick)) = true then 7 else 0 := by
      unfold bunE
      rw [List.getElem?_eq_getElem hlt]
    have hstop : ∀ x : Int, bunE bs k = x → ¬ x = 0 → (if ¬ firstE (bunE bs) bs.length = 0 then firstE (bunE bs) bs.length else skillE ws) = x := fun x hx hx0 => by
      have := firstE_stop hI (by rw [hx]; exact hx0) hlt
      rw [this, hx, if_pos hx0]
    focus (refine gc_skip ?_; refine gx_next ?_; refine gc_seq ?_; refine gc_block ?_; refine gc_seq ?_; refine gc_region ?_; refine gM rfl rfl (by conv => (lhs; whnf)) ?_; apply gw_d; exact w_index rfl rfl rfl rfl (by with_reducible exact rfl) (by omega); apply gw_d; exact w_load_elem rfl rfl rfl (by assumption) (by assumption) (by rfl); refine w_alloc rfl (fun _ => ?_); refine gM rfl rfl (by conv => (lhs; whnf)) ?_; refine w_store_all rfl rfl rfl rfl rfl .here rfl ?_; refine gO ?_; refine gc_seq ?_; refine gc_seq ?_; refine gc_region ?_; refine gF rfl rfl rfl ?_; apply gw_d; exact w_load_box rfl rfl rfl .here rfl; refine gF rfl rfl rfl ?_; apply gw_d; exact w_load_box rfl rfl rfl .here rfl; refine gC rfl rfl rfl rfl rfl ?_; refine gM rfl rfl (by conv => (lhs; whnf)) ?_)
    by_cases h4 : bs[k].fr ≥ bs[k].upto
    · rw [if_pos (.inl h4)] at hW
      focus (refine gw_guard_dec rfl rfl (fun _ => ?_) (fun _ => ?_); refine gU rfl ?_; refine gU rfl ?_; refine gU rfl ?_; refine gU rfl ?_; refine gU rfl ?_; refine gU rfl ?_; refine gU rfl ?_; refine gU rfl ?_; apply gw_d; exact det_pick_t (v := .bool _) rfl rfl rfl rfl; refine gO ?_; refine gc_if_true rfl ?_; refine gc_seq ?_; refine gc_region ?_; refine gM rfl rfl (by conv => (lhs; whnf)) ?_; refine gO ?_; refine gc_ret ?_; refine gx_then_ret ?_; refine gx_block_ret ?_; refine gx_then_ret ?_; refine gx_then_ret ?_; refine gx_block_ret ?_; refine gx_then_ret ?_; rotate_left; refine gF rfl rfl rfl ?_; apply gw_d; exact w_load_box rfl rfl rfl .here rfl; rotate_left)
      all_goals first | (exfalso; omega) | skip
      refine gx_ret1 (v := .int _ _) rfl rfl (fun _ _ => ?_)
      rw [hstop 3 hW (by decide)]
    have hu : (bs[k].upto % 18446744073709551616 - bs[k].fr % 18446744073709551616) % 18446744073709551616 = bs[k].upto - bs[k].fr := by omega
    by_cases h5 : bs[k].upto - bs[k].fr > 40
    · rw [if_pos (.inr h5)] at hW
      focus (refine gw_guard_dec rfl rfl (fun _ => ?_) (fun _ => ?_); refine gU rfl ?_; refine gU rfl ?_; refine gU rfl ?_; refine gU rfl ?_; refine gU rfl ?_; refine gU rfl ?_; refine gU rfl ?_; refine gU rfl ?_; apply gw_d; exact det_pick_t (v := .bool _) rfl rfl rfl rfl; refine gO ?_; refine gc_if_true rfl ?_; refine gc_seq ?_; refine gc_region ?_; refine gM rfl rfl (by conv => (lhs; whnf)) ?_; refine gO ?_; refine gc_ret ?_; refine gx_then_ret ?_; refine gx_block_ret ?_; refine gx_then_ret ?_; refine gx_then_ret ?_; refine gx_block_ret ?_; refine gx_then_ret ?_; rotate_left; refine gF rfl rfl rfl ?_; apply gw_d; exact w_load_box rfl rfl rfl .here rfl; apply gw_d; exact det_conv (r := bs[k].upto % 18446744073709551616) rfl rfl rfl (wrap_u64 _); refine gF rfl rfl rfl ?_; apply gw_d; exact w_load_box rfl rfl rfl .here rfl; apply gw_d; exact det_conv (r := bs[k].fr % 18446744073709551616) rfl rfl rfl (wrap_u64 _); apply gw_d; exact det_eq (c' := .int .u64 (bs[k].upto - bs[k].fr)) (det_ar_wrap rfl rfl rfl rfl rfl) (by rw [wrap_u64, hu]); refine gC rfl rfl rfl rfl rfl ?_; apply gw_d; exact det_pick_f (v := .bool _) rfl rfl rfl rfl; refine gO ?_; refine gc_if_dec rfl (fun _ => ?_) (fun _ => ?_); refine gc_seq ?_; refine gc_region ?_; refine gM rfl rfl (by conv => (lhs; whnf)) ?_; refine gO ?_; refine gc_ret ?_; refine gx_then_ret ?_; refine gx_block_ret ?_; refine gx_then_ret ?_; refine gx_then_ret ?_; refine gx_block_ret ?_; refine gx_then_ret ?_; rotate_left; refine gc_skip ?_; refine gx_next ?_; refine gc_seq ?_; refine gc_region ?_; refine gM rfl rfl (by conv => (lhs; whnf)) ?_; refine gM rfl rfl (by conv => (lhs; whnf)) ?_; apply gw_d; exact w_cut_hi rfl rfl rfl rfl (by with_reducible exact rfl) (by omega); refine gL rfl rfl rfl ?_; refine gM rfl rfl (by conv => (lhs; whnf)) ?_; refine gO ?_; refine gc_block ?_; rotate_left)
      all_goals first | (exfalso; omega) | skip
      refine gx_ret1 (v := .int _ _) rfl rfl (fun _ _ => ?_)
      rw [hstop 3 hW (by decide)]
    rw [if_neg (by omega)] at hW
    focus (refine gw_guard_dec rfl rfl (fun _ => ?_) (fun _ => ?_); refine gU rfl ?_; refine gU rfl ?_; refine gU rfl ?_; refine gU rfl ?_; refine gU rfl ?_; refine gU rfl ?_; refine gU rfl ?_; refine gU rfl ?_; apply gw_d; exact det_pick_t (v := .bool _) rfl rfl rfl rfl; refine gO ?_; refine gc_if_true rfl ?_; refine gc_seq ?_; refine gc_region ?_; refine gM rfl rfl (by conv => (lhs; whnf)) ?_; refine gO ?_; refine gc_ret ?_; refine gx_then_ret ?_; refine gx_block_ret ?_; refine gx_then_ret ?_; refine gx_then_ret ?_; refine gx_block_ret ?_; refine gx_then_ret ?_; rotate_left; refine gF rfl rfl rfl ?_; apply gw_d; exact w_load_box rfl rfl rfl .here rfl; apply gw_d; exact det_conv (r := bs[k].upto % 18446744073709551616) rfl rfl rfl (wrap_u64 _); refine gF rfl rfl rfl ?_; apply gw_d; exact w_load_box rfl rfl rfl .here rfl; apply gw_d; exact det_conv (r := bs[k].fr % 18446744073709551616) rfl rfl rfl (wrap_u64 _); apply gw_d; exact det_eq (c' := .int .u64 (bs[k].upto - bs[k].fr)) (det_ar_wrap rfl rfl rfl rfl rfl) (by rw [wrap_u64, hu]); refine gC rfl rfl rfl rfl rfl ?_; apply gw_d; exact det_pick_f (v := .bool _) rfl rfl rfl rfl; refine gO ?_; refine gc_if_dec rfl (fun _ => ?_) (fun _ => ?_); refine gc_seq ?_; refine gc_region ?_; refine gM rfl rfl (by conv => (lhs; whnf)) ?_; refine gO ?_; refine gc_ret ?_; refine gx_then_ret ?_; refine gx_block_ret ?_; refine gx_then_ret ?_; refine gx_then_ret ?_; refine gx_block_ret ?_; refine gx_then_ret ?_; rotate_left; refine gc_skip ?_; refine gx_next ?_; refine gc_seq ?_; refine gc_region ?_; refine gM rfl rfl (by conv => (lhs; whnf)) ?_; refine gM rfl rfl (by conv => (lhs; whnf)) ?_; apply gw_d; exact w_cut_hi rfl rfl rfl rfl (by with_reducible exact rfl) (by omega); refine gL rfl rfl rfl ?_; refine gM rfl rfl (by conv => (lhs; whnf)) ?_; refine gO ?_; refine gc_block ?_; rotate_left)
    all_goals first | (exfalso; omega) | skip
    refine gc_loopK (σ := Nat) [47, 48, 49, 11, 50, 51, 52, 53, 54, 6, 55, 46] (fun j => [(46, .int .i64 j)]) (fun j => j ≤ k ∧ ((bs.take j).any fun y => decide (y.tick = bs[k].tick)) = false) (fun j => k - j) 0 ⟨Nat.zero_le _, rfl⟩ ⟨rfl, trivial⟩ ?_
    rintro j base2 ⟨hj, hJ⟩
    focus (refine gc_seq ?_; refine gc_region ?_; refine gC rfl rfl rfl rfl rfl ?_; refine gO ?_; refine gc_seq ?_)
    refine gc_if_dec rfl (fun h => ?_) (fun h => ?_)
    · have hjl : j < bs.length := by omega
      obtain ⟨ad2, h6, hb2, hce2, _⟩ := hcell j hjl
      injection h6 with h6
      subst h6
      focus (refine gc_skip ?_; refine gx_next ?_; refine gc_seq ?_; refine gc_block ?_; refine gc_seq ?_; refine gc_region ?_; apply gw_d; exact w_index rfl rfl rfl rfl (by with_reducible exact rfl) (by omega); apply gw_d; exact w_load_elem rfl rfl rfl (by assumption) (by assumption) (by rfl); refine w_alloc rfl (fun _ => ?_); refine w_store_all rfl rfl rfl rfl rfl .here rfl ?_; refine gN ?_; refine gF rfl rfl rfl ?_; apply gw_d; exact w_load_box rfl rfl rfl .here rfl; refine gF rfl rfl rfl ?_; apply gw_d; exact w_load_box rfl rfl rfl (.there .here) rfl; refine gC rfl rfl rfl rfl rfl ?_; refine gO ?_)
      refine gc_if_dec rfl (fun h => ?_) (fun h => ?_)
      · focus (refine gc_seq ?_; refine gc_region ?_; refine gM rfl rfl (by conv => (lhs; whnf)) ?_; refine gO ?_; refine gc_ret ?_; refine gx_block_ret ?_; refine gx_then_ret ?_; refine gx_then_ret ?_; refine gx_block_ret ?_; refine gx_block_ret ?_; refine gx_then_ret ?_; refine gx_then_ret ?_; refine gx_block_ret ?_; refine gx_then_ret ?_)
        refine gx_ret1 (v := .int _ _) rfl rfl (fun _ _ => ?_)
        rw [if_pos (List.any_eq_true.2 ⟨bs[j], List.mem_take_iff_getElem.2 ⟨j, by omega, rfl⟩, decide_eq_true h⟩)] at hW
        rw [hstop 7 hW (by decide)]
      · focus (refine gc_skip ?_; refine gx_block ?_; refine gx_next ?_; refine gc_region ?_; apply gw_d; exact det_ar rfl rfl rfl rfl rfl (by omega); refine gM rfl rfl (by conv => (lhs; whnf)) ?_; refine gw_nil ?_)
        exact gx_round (j + 1) ⟨by omega, take_any_snoc hjl hJ (decide_eq_false h)⟩ (by omega) (by repeat (first | exact Keeps.refl | refine Keeps.upd rfl ?_ | refine Keeps.sets rfl ?_ | refine Keeps.havoc rfl ?_)) ⟨rfl, trivial⟩ Sub.tail
    · obtain rfl : j = k := by omega
      rw [if_neg (by rw [hJ]; decide)] at hW
      focus (refine gc_exit ?_; refine gx_then_exit ?_; refine gx_then_exit ?_; refine gx_block_exit ?_; refine gx_block ?_; refine gx_next ?_; refine gc_region ?_; apply gw_d; exact det_ar rfl rfl rfl rfl rfl (by omega); refine gM rfl rfl (by conv => (lhs; whnf)) ?_; refine gw_nil ?_)
      exact gx_round (j + 1) ⟨by omega, firstE_snoc hI hW⟩ (by omega) (by repeat (first | exact Keeps.refl | refine Keeps.upd rfl ?_ | refine Keeps.sets rfl ?_ | refine Keeps.havoc rfl ?_)) ⟨rfl, trivial⟩ Sub.tail
  · obtain rfl : k = bs.length := by omega
    rw [if_neg (by rw [hI]; decide)]
    focus (refine gc_exit ?_; refine gx_then_exit ?_; refine gx_then_exit ?_; refine gx_block_exit ?_; refine gx_next ?_; refine gc_seq ?_; refine gc_region ?_; refine gM rfl rfl (by conv => (lhs; whnf)) ?_; apply gw_d; exact w_call rfl rfl (fun w' s => skillCheck_ok w' _ ws (hw.later s)) rfl; refine gM rfl rfl (by conv => (lhs; whnf)) ?_; refine gO ?_; refine gc_ret ?_)
    refine gx_ret1 (v := .int _ _) rfl rfl (fun _ _ => ?_)
    rfl
end Go.Proofs.YtckhibfbdnoigaaGreatDoor

/- Contracts: the outcome of a scan. -/
namespace Go.Proofs.YtckhibfbdnoigaaGreatDoor
open Go.RowKit
set_option maxRecDepth 100000
set_option maxHeartbeats 2000000

def Small (l : List Opn) : Prop := l.length ≤ 16 ∧ ∀ k (hk : k < l.length), ∀ a ∈ l[k].after, 0 ≤ a ∧ a < l.length
theorem judge_nil (w : World) (vl vw : Value) (x : Scn) : Ok Tryz.prog 54 [vl, vw, .pointer none, .agg #[.int .i64 x.tick, .int .i64 x.op, .int .i64 x.who, .int .i64 x.time]].toArray w fun r _ => r = .int .i64 3 := by
  refine ok_enter Tryz.func54 rfl Tryz.ntmps54 rfl ?_
  focus (refine gc_seq ?_; refine gc_region ?_; refine gw_boxd (v := .agg _) rfl rfl (fun _ => ?_); refine gM rfl rfl (by conv => (lhs; whnf)) ?_; refine gO ?_; refine gc_seq ?_; refine gc_seq ?_; refine gc_region ?_; refine gM rfl rfl (by conv => (lhs; whnf)) ?_; apply gw_d; exact w_peqnil (te := 130) (by kernel_rfl) rfl rfl rfl rfl; refine gM rfl rfl (by conv => (lhs; whnf)) ?_; refine gU rfl ?_; refine gU rfl ?_; refine gU rfl ?_; apply gw_d; exact det_pick_t (v := .bool _) rfl rfl rfl rfl; refine gM rfl rfl (by conv => (lhs; whnf)) ?_; refine gU rfl ?_; refine gU rfl ?_; refine gU rfl ?_; refine gU rfl ?_; refine gU rfl ?_; apply gw_d; exact det_pick_t (v := .bool _) rfl rfl rfl rfl; refine gM rfl rfl (by conv => (lhs; whnf)) ?_; refine gU rfl ?_; refine gU rfl ?_; refine gU rfl ?_; apply gw_d; exact det_pick_t (v := .bool _) rfl rfl rfl rfl; refine gM rfl rfl (by conv => (lhs; whnf)) ?_; refine gU rfl ?_; refine gU rfl ?_; refine gU rfl ?_; refine gU rfl ?_; refine gU rfl ?_; apply gw_d; exact det_pick_t (v := .bool _) rfl rfl rfl rfl; refine gM rfl rfl (by conv => (lhs; whnf)) ?_; refine gU rfl ?_; refine gU rfl ?_; refine gU rfl ?_; apply gw_d; exact det_pick_t (v := .bool _) rfl rfl rfl rfl; refine gM rfl rfl (by conv => (lhs; whnf)) ?_; refine gU rfl ?_; refine gU rfl ?_; refine gU rfl ?_; apply gw_d; exact det_pick_t (v := .bool _) rfl rfl rfl rfl; refine gO ?_; refine gc_if_true rfl ?_; refine gc_seq ?_; refine gc_region ?_; refine gM rfl rfl (by conv => (lhs; whnf)) ?_; refine gO ?_; refine gc_ret ?_; refine gx_then_ret ?_)
  refine gx_ret1 (v := .int _ _) rfl rfl (fun _ _ => ?_)
  rfl
theorem judge_ok (w : World) (vl vw : Value) (b : Nat) (ty : TypeId) (l : List Opn) (ws : List Wrk) (ps : List Scn) (x : Scn) (hl : Sl rOp w w.heap.size vl l) (hw : Sl rWrk w w.heap.size vw ws) (hS : Small l)
    (hr : w.heap[b]? = some (.cells (recC ps x.tick) ty (0, 0))) :
    Ok Tryz.prog 54 [vl, vw, .pointer (some ⟨b, 0, none⟩), .agg #[.int .i64 x.tick, .int .i64 x.op, .int .i64 x.who, .int .i64 x.time]].toArray w fun r _ => r = .int .i64 (judgeE l ws ps x) := by
  obtain ⟨A, c, rfl, hc, hm⟩ := len_small hl
  obtain ⟨Aw, cw, rfl, hwc, hwm, hwcell⟩ := hw.wrk
  have hbb : (⟨b, 0, none⟩ : Addr).block < w.heap.size := (Array.getElem?_eq_some_iff.1 hr).1
  have hcell : ∀ i, w.cell? ((⟨b, 0, none⟩ : Addr).add i) = (recC ps x.tick)[i]? := fun i => by
    rw [add_zero]
    exact Box.cell (ty := ty) hr i
  have hP : ∀ m : Nat, m < 16 → w.cell? ((⟨b, 0, none⟩ : Addr).add (0 + m * 1)) = some (.bool (paidB ps x.tick m)) := fun m hm => by
    rw [hcell, Nat.zero_add, Nat.mul_one, recC_paid _ _ hm]
  have hLst : w.cell? ((⟨b, 0, none⟩ : Addr).add 16) = some (.int .i64 (lastT ps x.tick)) := by rw [hcell, recC_last]
  by_cases hK : 0 ≤ x.op ∧ x.op < l.length ∧ 0 ≤ x.who ∧ x.who < ws.length ∧ 0 ≤ x.time ∧ x.time ≤ 1073741824
  · have hE : judgeE l ws ps x = if canAt ws x.who (machAt l x.op) = false then 4 else if paidB ps x.tick x.op = true then 2 else if (afterAt l x.op).all (fun a => paidB ps x.tick a) = false then 5 else if x.time < lastT ps x.tick then 6 else 1 := by
      unfold judgeE knownB
      rw [if_neg (by rw [decide_eq_true hK]; decide)]
    rw [hE]
    obtain ⟨o, ho⟩ : ∃ o : Nat, x.op = (o : Int) := ⟨x.op.toNat, by omega⟩
    obtain ⟨m, hmw⟩ : ∃ m : Nat, x.who = (m : Int) := ⟨x.who.toNat, by omega⟩
    have hol : o < l.length := by omega
    have hml : m < ws.length := by omega
    have ho16 : o < 16 := by have := hS.1; omega
    obtain ⟨ad, _, hv, _, _, hb, hocell⟩ := hl.at' 5 rfl (by omega)
    injection hv with e1 e2 e3
    subst e1 e3
    obtain ⟨cs, hce, Aa, ca, Au, cu, rfl, hnm, q1, q2⟩ := hocell o hol
    have ha : Sl rInt w w.heap.size (.slice Aa l[o].after.length ca) l[o].after := q1
    obtain ⟨_, _, hv, hac, ham, hacell⟩ := ha.int
    injection hv with e1 e2 e3
    subst e1 e3
    obtain ⟨ad2, Am, cm, rfl, hb2, hce2, hnm2, hms⟩ := hwcell m hml
    have hcan : canAt ws x.who (machAt l x.op) = hasB ws[m].machines l[o].machine := by
      unfold canAt machAt
      rw [ho, hmw, Int.toNat_natCast, Int.toNat_natCast, List.getElem?_eq_getElem hol, List.getElem?_eq_getElem hml]
      rfl
    have haft : afterAt l x.op = l[o].after := by
      unfold afterAt
      rw [ho, Int.toNat_natCast, List.getElem?_eq_getElem hol]
      rfl
    rw [hcan, haft]
    have hPo := hP o ho16
    rw [← ho] at hPo
    have hSa := hS.2 o hol
    have hCan : ∀ (L : List Res) (w' : World), St w L w' → Ok Tryz.prog 65 [.agg #[.string ws[m].name, .slice Am ws[m].machines.length cm], .int .i64 l[o].machine].toArray w' fun x _ => x = .bool (hasB ws[m].machines l[o].machine) := fun L w' s => can_ok w' ws[m].name Am 0 l[o].machine cm ws[m].machines (hms.later s)
    refine ok_enter Tryz.func54 rfl Tryz.ntmps54 rfl ?_
    focus (refine gc_seq ?_; refine gc_region ?_; refine gw_boxd (v := .agg _) rfl rfl (fun _ => ?_); refine gM rfl rfl (by conv => (lhs; whnf)) ?_; refine gO ?_; refine gc_seq ?_; refine gc_seq ?_; refine gc_region ?_; refine gM rfl rfl (by conv => (lhs; whnf)) ?_; apply gw_d; exact w_peqnil (te := 130) (by kernel_rfl) rfl rfl rfl rfl; refine gM rfl rfl (by conv => (lhs; whnf)) ?_; refine gF rfl rfl rfl ?_; apply gw_d; exact w_load_box rfl rfl rfl .here rfl; refine gC rfl rfl rfl rfl rfl ?_; apply gw_d; exact det_pick_f (v := .bool _) rfl rfl rfl rfl; refine gM rfl rfl (by conv => (lhs; whnf)) ?_; refine gw_guard_dec rfl rfl (fun _ => ?_) (fun _ => ?_); refine gU rfl ?_; refine gU rfl ?_; refine gU rfl ?_; refine gU rfl ?_; refine gU rfl ?_; apply gw_d; exact det_pick_t (v := .bool _) rfl rfl rfl rfl; refine gM rfl rfl (by conv => (lhs; whnf)) ?_; refine gU rfl ?_; refine gU rfl ?_; refine gU rfl ?_; apply gw_d; exact det_pick_t (v := .bool _) rfl rfl rfl rfl; refine gM rfl rfl (by conv => (lhs; whnf)) ?_; refine gU rfl ?_; refine gU rfl ?_; refine gU rfl ?_; refine gU rfl ?_; refine gU rfl ?_; apply gw_d; exact det_pick_t (v := .bool _) rfl rfl rfl rfl; refine gM rfl rfl (by conv => (lhs; whnf)) ?_; refine gU rfl ?_; refine gU rfl ?_; refine gU rfl ?_; apply gw_d; exact det_pick_t (v := .bool _) rfl rfl rfl rfl; refine gM rfl rfl (by conv => (lhs; whnf)) ?_; refine gU rfl ?_; refine gU rfl ?_; refine gU rfl ?_; apply gw_d; exact det_pick_t (v := .bool _) rfl rfl rfl rfl; refine gO ?_; refine gc_if_true rfl ?_; refine gc_seq ?_; refine gc_region ?_; refine gM rfl rfl (by conv => (lhs; whnf)) ?_; refine gO ?_; refine gc_ret ?_; refine gx_then_ret ?_; rotate_left; refine gF rfl rfl rfl ?_; apply gw_d; exact w_load_box rfl rfl rfl .here rfl; refine gM rfl rfl (by conv => (lhs; whnf)) ?_; refine gL rfl rfl rfl ?_; refine gC rfl rfl rfl rfl rfl ?_; apply gw_d; exact det_pick_f (v := .bool _) rfl rfl rfl rfl; refine gM rfl rfl (by conv => (lhs; whnf)) ?_; refine gw_guard_dec rfl rfl (fun _ => ?_) (fun _ => ?_); refine gU rfl ?_; refine gU rfl ?_; refine gU rfl ?_; apply gw_d; exact det_pick_t (v := .bool _) rfl rfl rfl rfl; refine gM rfl rfl (by conv => (lhs; whnf)) ?_; refine gU rfl ?_; refine gU rfl ?_; refine gU rfl ?_; refine gU rfl ?_; refine gU rfl ?_; apply gw_d; exact det_pick_t (v := .bool _) rfl rfl rfl rfl; refine gM rfl rfl (by conv => (lhs; whnf)) ?_; refine gU rfl ?_; refine gU rfl ?_; refine gU rfl ?_; apply gw_d; exact det_pick_t (v := .bool _) rfl rfl rfl rfl; refine gM rfl rfl (by conv => (lhs; whnf)) ?_; refine gU rfl ?_; refine gU rfl ?_; refine gU rfl ?_; apply gw_d; exact det_pick_t (v := .bool _) rfl rfl rfl rfl; refine gO ?_; refine gc_if_true rfl ?_; refine gc_seq ?_; refine gc_region ?_; refine gM rfl rfl (by conv => (lhs; whnf)) ?_; refine gO ?_; refine gc_ret ?_; refine gx_then_ret ?_; rotate_left; refine gF rfl rfl rfl ?_; apply gw_d; exact w_load_box rfl rfl rfl .here rfl; refine gC rfl rfl rfl rfl rfl ?_; apply gw_d; exact det_pick_f (v := .bool _) rfl rfl rfl rfl; refine gM rfl rfl (by conv => (lhs; whnf)) ?_; refine gw_guard_dec rfl rfl (fun _ => ?_) (fun _ => ?_); refine gU rfl ?_; refine gU rfl ?_; refine gU rfl ?_; refine gU rfl ?_; refine gU rfl ?_; apply gw_d; exact det_pick_t (v := .bool _) rfl rfl rfl rfl; refine gM rfl rfl (by conv => (lhs; whnf)) ?_; refine gU rfl ?_; refine gU rfl ?_; refine gU rfl ?_; apply gw_d; exact det_pick_t (v := .bool _) rfl rfl rfl rfl; refine gM rfl rfl (by conv => (lhs; whnf)) ?_; refine gU rfl ?_; refine gU rfl ?_; refine gU rfl ?_; apply gw_d; exact det_pick_t (v := .bool _) rfl rfl rfl rfl; refine gO ?_; refine gc_if_true rfl ?_; refine gc_seq ?_; refine gc_region ?_; refine gM rfl rfl (by conv => (lhs; whnf)) ?_; refine gO ?_; refine gc_ret ?_; refine gx_then_ret ?_; rotate_left; refine gF rfl rfl rfl ?_; apply gw_d; exact w_load_box rfl rfl rfl .here rfl; refine gM rfl rfl (by conv => (lhs; whnf)) ?_; refine gL rfl rfl rfl ?_; refine gC rfl rfl rfl rfl rfl ?_; apply gw_d; exact det_pick_f (v := .bool _) rfl rfl rfl rfl; refine gM rfl rfl (by conv => (lhs; whnf)) ?_; refine gw_guard_dec rfl rfl (fun _ => ?_) (fun _ => ?_); refine gU rfl ?_; refine gU rfl ?_; refine gU rfl ?_; apply gw_d; exact det_pick_t (v := .bool _) rfl rfl rfl rfl; refine gM rfl rfl (by conv => (lhs; whnf)) ?_; refine gU rfl ?_; refine gU rfl ?_; refine gU rfl ?_; apply gw_d; exact det_pick_t (v := .bool _) rfl rfl rfl rfl; refine gO ?_; refine gc_if_true rfl ?_; refine gc_seq ?_; refine gc_region ?_; refine gM rfl rfl (by conv => (lhs; whnf)) ?_; refine gO ?_; refine gc_ret ?_; refine gx_then_ret ?_; rotate_left; refine gF rfl rfl rfl ?_; apply gw_d; exact w_load_box rfl rfl rfl .here rfl; refine gC rfl rfl rfl rfl rfl ?_; apply gw_d; exact det_pick_f (v := .bool _) rfl rfl rfl rfl; refine gM rfl rfl (by conv => (lhs; whnf)) ?_; refine gw_guard_dec rfl rfl (fun _ => ?_) (fun _ => ?_); refine gU rfl ?_; refine gU rfl ?_; refine gU rfl ?_; apply gw_d; exact det_pick_t (v := .bool _) rfl rfl rfl rfl; refine gO ?_; refine gc_if_true rfl ?_; refine gc_seq ?_; refine gc_region ?_; refine gM rfl rfl (by conv => (lhs; whnf)) ?_; refine gO ?_; refine gc_ret ?_; refine gx_then_ret ?_; rotate_left; refine gF rfl rfl rfl ?_; apply gw_d; exact w_load_box rfl rfl rfl .here rfl; refine gC rfl rfl rfl rfl rfl ?_; apply gw_d; exact det_pick_f (v := .bool _) rfl rfl rfl rfl; refine gO ?_; refine gc_if_dec rfl (fun _ => ?_) (fun _ => ?_); refine gc_seq ?_; refine gc_region ?_; refine gM rfl rfl (by conv => (lhs; whnf)) ?_; refine gO ?_; refine gc_ret ?_; refine gx_then_ret ?_; rotate_left; refine gc_skip ?_; refine gx_next ?_; refine gc_seq ?_; refine gc_region ?_; refine gM rfl rfl (by conv => (lhs; whnf)) ?_; refine gF rfl rfl rfl ?_; apply gw_d; exact w_load_box rfl rfl rfl .here rfl; rotate_left)
    all_goals first | (exfalso; omega) | skip
    focus (apply gw_d; exact w_index (m := o) rfl rfl rfl rfl ho hol; apply gw_d; exact w_load_elem rfl rfl rfl (by assumption) (by assumption) (by rfl); refine w_alloc rfl (fun _ => ?_); refine w_store_all rfl rfl rfl rfl rfl .here rfl ?_; refine gO ?_; refine gc_seq ?_; refine gc_seq ?_)
    refine gc_draw 9 (by kernel_rfl) (by kernel_rfl) ?_
    focus (apply gd_d; exact det_m rfl rfl (by conv => (lhs; whnf)); apply gd_d; exact w_field rfl rfl rfl; apply gd_d; exact w_load_box rfl rfl rfl (.there .here) rfl; apply gd_d; exact w_index (m := m) rfl rfl rfl rfl hmw hml; apply gd_d; exact w_load_elem rfl rfl rfl (by assumption) (by assumption) (by rfl); apply gd_d; exact w_field rfl rfl rfl; apply gd_d; exact w_load_box rfl rfl rfl .here rfl; apply gd_d; exact w_call rfl rfl (hCan _) rfl; apply gd_d; exact det_not_ rfl rfl rfl; refine gd_nil ?_; refine gO ?_)
    refine gc_if rfl (fun h => ?_) (fun h => ?_)
    · focus (refine gc_seq ?_; refine gc_region ?_; refine gM rfl rfl (by conv => (lhs; whnf)) ?_; refine gO ?_; refine gc_ret ?_; refine gx_then_ret ?_)
      refine gx_ret1 (v := .int _ _) rfl rfl (fun _ _ => ?_)
      rw [if_pos (by simpa using h)]
    rw [if_neg (by rw [show hasB ws[m].machines l[o].machine = true by simpa using h]; decide)]
    focus (refine gc_skip ?_; refine gx_next ?_; refine gc_seq ?_; refine gc_seq ?_)
    refine gc_draw 7 (by kernel_rfl) (by kernel_rfl) ?_
    focus (apply gd_d; exact det_m rfl rfl (by conv => (lhs; whnf)); apply gd_d; exact w_field rfl rfl rfl; apply gd_d; exact w_load_box rfl rfl rfl (.there .here) rfl; apply gd_d; exact w_nilcheck rfl rfl rfl; apply gd_d; exact w_field rfl rfl rfl; apply gd_d; exact w_index_arr (m := o) rfl rfl rfl rfl ho ho16; apply gd_d; exact w_load_fld rfl rfl rfl (by assumption) (by assumption); refine gd_nil ?_; refine gO ?_)
    refine gc_if rfl (fun h => ?_) (fun h => ?_)
    · focus (refine gc_seq ?_; refine gc_region ?_; refine gM rfl rfl (by conv => (lhs; whnf)) ?_; refine gO ?_; refine gc_ret ?_; refine gx_then_ret ?_)
      refine gx_ret1 (v := .int _ _) rfl rfl (fun _ _ => ?_)
      rw [if_pos h]
    rw [if_neg (by rw [h]; decide)]
    focus (refine gc_skip ?_; refine gx_next ?_; refine gc_seq ?_; refine gc_seq ?_; refine gc_region ?_; refine gF rfl rfl rfl ?_; apply gw_d; exact w_load_box rfl rfl rfl .here rfl; refine gL rfl rfl rfl ?_; refine gM rfl rfl (by conv => (lhs; whnf)) ?_; refine gO ?_; refine gc_block ?_)
    refine gc_loopK (σ := Nat) [73, 74, 75, 11, 76, 77, 78, 79, 80, 81, 82, 8, 83, 72] (fun k => [(72, .int .i64 k)]) (fun k => k ≤ l[o].after.length ∧ (l[o].after.take k).all (fun a => paidB ps x.tick a) = true) (fun k => l[o].after.length - k) 0 ⟨Nat.zero_le _, rfl⟩ ⟨rfl, trivial⟩ ?_
    rintro k base ⟨hk, hI⟩
    focus (refine gc_seq ?_; refine gc_region ?_; refine gC rfl rfl rfl rfl rfl ?_; refine gO ?_; refine gc_seq ?_)
    refine gc_if_dec rfl (fun h2 => ?_) (fun h2 => ?_)
    · have hkl : k < l[o].after.length := by omega
      obtain ⟨ad3, rfl, hb3, hce3, _⟩ := hacell k hkl
      have hpr := hSa l[o].after[k] (List.getElem_mem hkl)
      obtain ⟨p, hp⟩ : ∃ p : Nat, l[o].after[k] = (p : Int) := ⟨l[o].after[k].toNat, by omega⟩
      have hp16 : p < 16 := by have := hS.1; omega
      have hPp := hP p hp16
      rw [← hp] at hPp
      focus (refine gc_skip ?_; refine gx_next ?_; refine gc_seq ?_; refine gc_block ?_; refine gc_seq ?_; refine gc_region ?_; apply gw_d; exact w_index rfl rfl rfl rfl (by with_reducible exact rfl) (by omega); apply gw_d; exact w_load_at rfl rfl rfl (by assumption) (by assumption); refine gM rfl rfl (by conv => (lhs; whnf)) ?_; refine gN ?_; refine gM rfl rfl (by conv => (lhs; whnf)) ?_; refine gM rfl rfl (by conv => (lhs; whnf)) ?_; apply gw_d; exact w_nilcheck rfl rfl rfl; refine gF rfl rfl rfl ?_; apply gw_d; exact w_index_arr (m := p) rfl rfl rfl rfl hp hp16; apply gw_d; exact w_load_fld rfl rfl rfl (by assumption) (by assumption); apply gw_d; exact det_not_ rfl rfl rfl; refine gO ?_)
      refine gc_if rfl (fun h3 => ?_) (fun h3 => ?_)
      · focus (refine gc_seq ?_; refine gc_region ?_; refine gM rfl rfl (by conv => (lhs; whnf)) ?_; refine gO ?_; refine gc_ret ?_; refine gx_block_ret ?_; refine gx_then_ret ?_; refine gx_then_ret ?_; refine gx_block_ret ?_; refine gx_then_ret ?_)
        refine gx_ret1 (v := .int _ _) rfl rfl (fun _ _ => ?_)
        have h4 : l[o].after.all (fun a => paidB ps x.tick a) = false := by
          rw [List.all_eq_false]
          exact ⟨l[o].after[k], List.getElem_mem hkl, by simpa using h3⟩
        rw [if_pos h4]
      · focus (refine gc_skip ?_; refine gx_block ?_; refine gx_next ?_; refine gc_region ?_; apply gw_d; exact det_ar rfl rfl rfl rfl rfl (by omega); refine gM rfl rfl (by conv => (lhs; whnf)) ?_; refine gw_nil ?_)
        refine gx_round (k + 1) ⟨by omega, ?_⟩ (by omega) (by repeat (first | exact Keeps.refl | refine Keeps.upd rfl ?_ | refine Keeps.sets rfl ?_ | refine Keeps.havoc rfl ?_)) ⟨rfl, trivial⟩ (Sub.all _)
        rw [List.take_succ_eq_append_getElem hkl, List.all_append, hI]
        have : paidB ps x.tick l[o].after[k] = true := by simpa using h3
        simp [this]
    obtain rfl : k = l[o].after.length := by omega
    rw [List.take_length] at hI
    rw [if_neg (by rw [hI]; decide)]
    focus (refine gc_exit ?_; refine gx_then_exit ?_; refine gx_then_exit ?_; refine gx_block_exit ?_; refine gx_next ?_; refine gc_seq ?_; refine gc_seq ?_)
    refine gc_draw 7 (by kernel_rfl) (by kernel_rfl) ?_
    focus (apply gd_d; exact w_field rfl rfl rfl; apply gd_d; exact w_load_box rfl rfl rfl (.there .here) rfl; apply gd_d; exact det_m rfl rfl (by conv => (lhs; whnf)); apply gd_d; exact w_nilcheck rfl rfl rfl; apply gd_d; exact w_field rfl rfl rfl; apply gd_d; exact w_load_at rfl rfl rfl (by assumption) (by assumption); apply gd_d; exact det_cmp rfl rfl rfl rfl rfl; refine gd_nil ?_; refine gO ?_)
    refine gc_if_dec rfl (fun h3 => ?_) (fun h3 => ?_)
    · focus (refine gc_seq ?_; refine gc_region ?_; refine gM rfl rfl (by conv => (lhs; whnf)) ?_; refine gO ?_; refine gc_ret ?_; refine gx_then_ret ?_)
      refine gx_ret1 (v := .int _ _) rfl rfl (fun _ _ => ?_)
      rw [if_pos h3]
    · focus (refine gc_skip ?_; refine gx_next ?_; refine gc_seq ?_; refine gc_region ?_; refine gM rfl rfl (by conv => (lhs; whnf)) ?_; refine gO ?_; refine gc_ret ?_)
      refine gx_ret1 (v := .int _ _) rfl rfl (fun _ _ => ?_)
      rw [if_neg h3]
  · have hE : judgeE l ws ps x = 3 := by
      unfold judgeE knownB
      rw [if_pos (by rw [decide_eq_false hK])]
    rw [hE]
    refine ok_enter Tryz.func54 rfl Tryz.ntmps54 rfl ?_
    focus (refine gc_seq ?_; refine gc_region ?_; refine gw_boxd (v := .agg _) rfl rfl (fun _ => ?_); refine gM rfl rfl (by conv => (lhs; whnf)) ?_; refine gO ?_; refine gc_seq ?_; refine gc_seq ?_; refine gc_region ?_; refine gM rfl rfl (by conv => (lhs; whnf)) ?_; apply gw_d; exact w_peqnil (te := 130) (by kernel_rfl) rfl rfl rfl rfl; refine gM rfl rfl (by conv => (lhs; whnf)) ?_; refine gF rfl rfl rfl ?_; apply gw_d; exact w_load_box rfl rfl rfl .here rfl; refine gC rfl rfl rfl rfl rfl ?_; apply gw_d; exact det_pick_f (v := .bool _) rfl rfl rfl rfl; refine gM rfl rfl (by conv => (lhs; whnf)) ?_; refine gw_guard_dec rfl rfl (fun _ => ?_) (fun _ => ?_); refine gU rfl ?_; refine gU rfl ?_; refine gU rfl ?_; refine gU rfl ?_; refine gU rfl ?_; apply gw_d; exact det_pick_t (v := .bool _) rfl rfl rfl rfl; refine gM rfl rfl (by conv => (lhs; whnf)) ?_; refine gU rfl ?_; refine gU rfl ?_; refine gU rfl ?_; apply gw_d; exact det_pick_t (v := .bool _) rfl rfl rfl rfl; refine gM rfl rfl (by conv => (lhs; whnf)) ?_; refine gU rfl ?_; refine gU rfl ?_; refine gU rfl ?_; refine gU rfl ?_; refine gU rfl ?_; apply gw_d; exact det_pick_t (v := .bool _) rfl rfl rfl rfl; refine gM rfl rfl (by conv => (lhs; whnf)) ?_; refine gU rfl ?_; refine gU rfl ?_; refine gU rfl ?_; apply gw_d; exact det_pick_t (v := .bool _) rfl rfl rfl rfl; refine gM rfl rfl (by conv => (lhs; whnf)) ?_; refine gU rfl ?_; refine gU rfl ?_; refine gU rfl ?_; apply gw_d; exact det_pick_t (v := .bool _) rfl rfl rfl rfl; refine gO ?_; refine gc_if_true rfl ?_; refine gc_seq ?_; refine gc_region ?_; refine gM rfl rfl (by conv => (lhs; whnf)) ?_; refine gO ?_; refine gc_ret ?_; refine gx_then_ret ?_; rotate_left; refine gF rfl rfl rfl ?_; apply gw_d; exact w_load_box rfl rfl rfl .here rfl; refine gM rfl rfl (by conv => (lhs; whnf)) ?_; refine gL rfl rfl rfl ?_; refine gC rfl rfl rfl rfl rfl ?_; apply gw_d; exact det_pick_f (v := .bool _) rfl rfl rfl rfl; refine gM rfl rfl (by conv => (lhs; whnf)) ?_; refine gw_guard_dec rfl rfl (fun _ => ?_) (fun _ => ?_); refine gU rfl ?_; refine gU rfl ?_; refine gU rfl ?_; apply gw_d; exact det_pick_t (v := .bool _) rfl rfl rfl rfl; refine gM rfl rfl (by conv => (lhs; whnf)) ?_; refine gU rfl ?_; refine gU rfl ?_; refine gU rfl ?_; refine gU rfl ?_; refine gU rfl ?_; apply gw_d; exact det_pick_t (v := .bool _) rfl rfl rfl rfl; refine gM rfl rfl (by conv => (lhs; whnf)) ?_; refine gU rfl ?_; refine gU rfl ?_; refine gU rfl ?_; apply gw_d; exact det_pick_t (v := .bool _) rfl rfl rfl rfl; refine gM rfl rfl (by conv => (lhs; whnf)) ?_; refine gU rfl ?_; refine gU rfl ?_; refine gU rfl ?_; apply gw_d; exact det_pick_t (v := .bool _) rfl rfl rfl rfl; refine gO ?_; refine gc_if_true rfl ?_; refine gc_seq ?_; refine gc_region ?_; refine gM rfl rfl (by conv => (lhs; whnf)) ?_; refine gO ?_; refine gc_ret ?_; refine gx_then_ret ?_; rotate_left; refine gF rfl rfl rfl ?_; apply gw_d; exact w_load_box rfl rfl rfl .here rfl; refine gC rfl rfl rfl rfl rfl ?_; apply gw_d; exact det_pick_f (v := .bool _) rfl rfl rfl rfl; refine gM rfl rfl (by conv => (lhs; whnf)) ?_; refine gw_guard_dec rfl rfl (fun _ => ?_) (fun _ => ?_); refine gU rfl ?_; refine gU rfl ?_; refine gU rfl ?_; refine gU rfl ?_; refine gU rfl ?_; apply gw_d; exact det_pick_t (v := .bool _) rfl rfl rfl rfl; refine gM rfl rfl (by conv => (lhs; whnf)) ?_; refine gU rfl ?_; refine gU rfl ?_; refine gU rfl ?_; apply gw_d; exact det_pick_t (v := .bool _) rfl rfl rfl rfl; refine gM rfl rfl (by conv => (lhs; whnf)) ?_; refine gU rfl ?_; refine gU rfl ?_; refine gU rfl ?_; apply gw_d; exact det_pick_t (v := .bool _) rfl rfl rfl rfl; refine gO ?_; refine gc_if_true rfl ?_; refine gc_seq ?_; refine gc_region ?_; refine gM rfl rfl (by conv => (lhs; whnf)) ?_; refine gO ?_; refine gc_ret ?_; refine gx_then_ret ?_; rotate_left; refine gF rfl rfl rfl ?_; apply gw_d; exact w_load_box rfl rfl rfl .here rfl; refine gM rfl rfl (by conv => (lhs; whnf)) ?_; refine gL rfl rfl rfl ?_; refine gC rfl rfl rfl rfl rfl ?_; apply gw_d; exact det_pick_f (v := .bool _) rfl rfl rfl rfl; refine gM rfl rfl (by conv => (lhs; whnf)) ?_; refine gw_guard_dec rfl rfl (fun _ => ?_) (fun _ => ?_); refine gU rfl ?_; refine gU rfl ?_; refine gU rfl ?_; apply gw_d; exact det_pick_t (v := .bool _) rfl rfl rfl rfl; refine gM rfl rfl (by conv => (lhs; whnf)) ?_; refine gU rfl ?_; refine gU rfl ?_; refine gU rfl ?_; apply gw_d; exact det_pick_t (v := .bool _) rfl rfl rfl rfl; refine gO ?_; refine gc_if_true rfl ?_; refine gc_seq ?_; refine gc_region ?_; refine gM rfl rfl (by conv => (lhs; whnf)) ?_; refine gO ?_; refine gc_ret ?_; refine gx_then_ret ?_; rotate_left; refine gF rfl rfl rfl ?_; apply gw_d; exact w_load_box rfl rfl rfl .here rfl; refine gC rfl rfl rfl rfl rfl ?_; apply gw_d; exact det_pick_f (v := .bool _) rfl rfl rfl rfl; refine gM rfl rfl (by conv => (lhs; whnf)) ?_; refine gw_guard_dec rfl rfl (fun _ => ?_) (fun _ => ?_); refine gU rfl ?_; refine gU rfl ?_; refine gU rfl ?_; apply gw_d; exact det_pick_t (v := .bool _) rfl rfl rfl rfl; refine gO ?_; refine gc_if_true rfl ?_; refine gc_seq ?_; refine gc_region ?_; refine gM rfl rfl (by conv => (lhs; whnf)) ?_; refine gO ?_; refine gc_ret ?_; refine gx_then_ret ?_; rotate_left; refine gF rfl rfl rfl ?_; apply gw_d; exact w_load_box rfl rfl rfl .here rfl; refine gC rfl rfl rfl rfl rfl ?_; apply gw_d; exact det_pick_f (v := .bool _) rfl rfl rfl rfl; refine gO ?_; refine gc_if_dec rfl (fun _ => ?_) (fun _ => ?_); refine gc_seq ?_; refine gc_region ?_; refine gM rfl rfl (by conv => (lhs; whnf)) ?_; refine gO ?_; refine gc_ret ?_; refine gx_then_ret ?_; rotate_left; refine gc_skip ?_; refine gx_next ?_; refine gc_seq ?_; refine gc_region ?_; refine gM rfl rfl (by conv => (lhs; whnf)) ?_; refine gF rfl rfl rfl ?_; apply gw_d; exact w_load_box rfl rfl rfl .here rfl; rotate_left)
    all_goals first | (refine gx_ret1 (v := .int _ _) rfl rfl (fun _ _ => ?_); rfl) | skip
    exfalso
    omega
end Go.Proofs.YtckhibfbdnoigaaGreatDoor
