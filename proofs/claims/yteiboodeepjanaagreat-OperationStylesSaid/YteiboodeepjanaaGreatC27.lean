/- The examples of the chapter are met. -/
import Derived.Test.YteiboodeepjanaaGreatC26
namespace Go.Proofs.YteiboodeepjanaaGreat
open Go.RowKit
set_option maxRecDepth 100000
set_option maxHeartbeats 2000000

section
variable {w0 w : World} {L : List Res} {x : Nat × Nat × Nat}
def ownY (y : Option Addr × Nat) : Res := Own y.1 4 y.2 3 1 (([2, 0, 1, 3] : List Int).map (Value.int .i64))
def ownZ (y : Option Addr × Nat) : Res := Own y.1 2 y.2 3 1 (([0, 1] : List Int).map (Value.int .i64))
theorem four_order (s : St w0 (fourR x ++ L) w) : OkM Tryz.prog 17 [.slice (some ⟨x.2.2, 0, none⟩) 4 4].toArray w (fun y : Option Addr × Nat => .tuple #[.slice y.1 4 y.2, .int .i64 0]) (fun y => [ownY y]) := by
  have h := Order_good w _ fourL (four_sl s) e4
  rw [e5] at h
  exact h
theorem four_crit (s : St w0 (fourR x ++ L) w) : Ok Tryz.prog 19 [.slice (some ⟨x.2.2, 0, none⟩) 4 4].toArray w fun r _ => r = .tuple #[.int .i64 600, .int .i64 0] := by
  have h := Critical_good w _ fourL (four_sl s) e4
  rw [e6] at h
  exact h
theorem four_b1 (s : St w0 (fourR x ++ L) w) : Ok Tryz.prog 22 [.slice (some ⟨x.2.2, 0, none⟩) 4 4, .int .i64 2, .int .i64 1].toArray w fun r _ => r = .tuple #[.bool true, .int .i64 0] := by
  have h := Before_ok w _ fourL 2 1 (four_sl s) (inI rfl) (inI rfl)
  rw [e7.1, e7.2] at h
  exact h
theorem four_b2 (s : St w0 (fourR x ++ L) w) : Ok Tryz.prog 22 [.slice (some ⟨x.2.2, 0, none⟩) 4 4, .int .i64 0, .int .i64 0].toArray w fun r _ => r = .tuple #[.bool false, .int .i64 0] := by
  have h := Before_ok w _ fourL 0 0 (four_sl s) (inI rfl) (inI rfl)
  rw [e8.1, e8.2] at h
  exact h
theorem four_f1 (s : St w0 (fourR x ++ L) w) : OkM Tryz.prog 24 [.slice (some ⟨x.2.2, 0, none⟩) 4 4, .int .i64 2].toArray w (fun y : Option Addr × Nat => .tuple #[.slice y.1 2 y.2, .int .i64 0]) (fun y => [ownZ y]) := by
  have h := Followers_good w _ fourL 2 (four_sl s) (inI rfl) e9.1
  rw [e9.2] at h
  exact h
theorem four_f2 (s : St w0 (fourR x ++ L) w) : Ok Tryz.prog 24 [.slice (some ⟨x.2.2, 0, none⟩) 4 4, .int .i64 4].toArray w fun r _ => r = .tuple #[.slice none 0 0, .int .i64 3] := by
  have h := Followers_bad w _ fourL 4 (four_sl s) (inI rfl) (by rw [e10]; decide)
  rw [e10] at h
  exact h
def aroundCells (b1 b3 b : Nat) : Array Value := #[.string sJoin, .int .i64 0, .int .i64 300, .slice (some ⟨b1, 0, none⟩) 1 1, .slice none 0 0, .string sHem, .int .i64 0, .int .i64 100, .slice (some ⟨b3, 0, none⟩) 1 1, .slice none 0 0,
  .string sCuff, .int .i64 0, .int .i64 200, .slice (some ⟨b, 0, none⟩) 1 1, .slice none 0 0, .string sLabel, .int .i64 0, .int .i64 50, .slice none 0 0, .slice none 0 0]
theorem around_order {b : Nat} (s : St w0 (Box x.2.2 46 (aroundCells x.1 x.2.1 b) :: Box b 3 #[.int .i64 1] :: Box x.2.1 3 #[.int .i64 0] :: Box x.1 3 #[.int .i64 2] :: L) w) :
    Ok Tryz.prog 17 [.slice (some ⟨x.2.2, 0, none⟩) 4 4].toArray w fun r _ => r = .tuple #[.slice none 0 0, .int .i64 9] := by
  have h1 : w.heap[x.2.2]? = some (.cells (aroundCells x.1 x.2.1 b) 46 (0, 0)) := s.head
  have h4 : w.heap[b]? = some (.cells #[.int .i64 1] 3 (0, 0)) := s.drop.head
  have h2 : w.heap[x.2.1]? = some (.cells #[.int .i64 0] 3 (0, 0)) := s.drop.drop.head
  have h3 : w.heap[x.1]? = some (.cells #[.int .i64 2] 3 (0, 0)) := s.drop.drop.drop.head
  have a1 : Sl rInt w w.heap.size (.slice (some ⟨x.1, 0, none⟩) 1 1) [2] := Sl.ofCells h3 rfl (by decide) (by decide) ⟨⟨rfl, inI rfl⟩, trivial⟩
  have a2 : Sl rInt w w.heap.size (.slice (some ⟨x.2.1, 0, none⟩) 1 1) [0] := Sl.ofCells h2 rfl (by decide) (by decide) ⟨⟨rfl, inI rfl⟩, trivial⟩
  have a3 : Sl rInt w w.heap.size (.slice (some ⟨b, 0, none⟩) 1 1) [1] := Sl.ofCells h4 rfl (by decide) (by decide) ⟨⟨rfl, inI rfl⟩, trivial⟩
  have hsl : Sl rOp w w.heap.size (.slice (some ⟨x.2.2, 0, none⟩) 4 4) aroundL := Sl.ofCells h1 rfl (by decide) (by decide) ⟨⟨_, _, _, _, rfl, ⟨by decide, inI rfl, inI rfl⟩, a1, Sl.nil _ _⟩, ⟨_, _, _, _, rfl, ⟨by decide, inI rfl, inI rfl⟩, a2, Sl.nil _ _⟩, ⟨_, _, _, _, rfl, ⟨by decide, inI rfl, inI rfl⟩, a3, Sl.nil _ _⟩, ⟨_, _, _, _, rfl, ⟨by decide, inI rfl, inI rfl⟩, Sl.nil _ _, Sl.nil _ _⟩, trivial⟩
  have h := Order_bad w _ aroundL hsl (by rw [e11]; decide)
  rw [e11] at h
  exact h
theorem shirt_check {x : Nat → Nat} (s : St w0 (shirtR x ++ L) w) : Ok Tryz.prog 14 [shirtV x].toArray w fun r _ => r = .int .i64 0 := by
  have h9 : w.heap[x 9]? = some (.cells #[.int .i64 0] 3 (0, 0)) := s.drop.drop.drop.drop.drop.drop.drop.head
  have h := opCheck0_ok w _ _ (shirt_sty (us := [0]) s (Sl.ofCells h9 rfl (by decide) (by decide) ⟨⟨rfl, inI rfl⟩, trivial⟩)) (fun p hp => by rw [show p = _ from List.mem_singleton.1 hp])
  rw [e1] at h
  exact h
theorem gap_check {x : Nat → Nat} (s : St w0 (Box (x 11) 46 (opV (.slice none 0 0)) :: ((shirtR x).drop 1 ++ L)) w) : Ok Tryz.prog 14 [shirtV x].toArray w fun r _ => r = .int .i64 20 := by
  have h := opCheck0_ok w _ _ (shirt_sty (us := []) s (Sl.nil _ _)) (fun p hp => by rw [show p = _ from List.mem_singleton.1 hp])
  rw [e2] at h
  exact h
theorem no_check (w : World) : Ok Tryz.prog 14 [noV].toArray w fun r _ => r = .int .i64 1 := by
  have h := opCheck0_ok w _ _ (no_sty w) (fun p hp => by cases hp)
  rw [e3] at h
  exact h
theorem same_y {y : Option Addr × Nat} {b : Nat} (s : St w0 (Box b 3 #[.int .i64 2, .int .i64 0, .int .i64 1, .int .i64 3] :: ownY y :: L) w) : Ok Tryz.prog 21 [.slice y.1 4 y.2, .slice (some ⟨b, 0, none⟩) 4 4].toArray w fun r _ => r = .bool true := by
  have hin : ∀ i ∈ ([2, 0, 1, 3] : List Int), inI64 i := fun i hi => by
    simp only [List.mem_cons, List.not_mem_nil, or_false] at hi
    unfold inI64
    omega
  exact same_ok w _ _ [2, 0, 1, 3] [2, 0, 1, 3] (Sl.ownI s (.there .here) rfl hin) (Sl.boxI (o := [2, 0, 1, 3]) s .here rfl (by decide) (by decide) hin)
theorem same_z {y z : Option Addr × Nat} {b : Nat} (s : St w0 (Box b 3 #[.int .i64 0, .int .i64 1] :: ownY y :: ownZ z :: L) w) : Ok Tryz.prog 21 [.slice z.1 2 z.2, .slice (some ⟨b, 0, none⟩) 2 2].toArray w fun r _ => r = .bool true := by
  have hin : ∀ i ∈ ([0, 1] : List Int), inI64 i := fun i hi => by
    simp only [List.mem_cons, List.not_mem_nil, or_false] at hi
    unfold inI64
    omega
  exact same_ok w _ _ [0, 1] [0, 1] (Sl.ownI s (.there (.there .here)) rfl hin) (Sl.boxI (o := [0, 1]) s .here rfl (by decide) (by decide) hin)
end

theorem awake_ok (w : World) : Ok Tryz.prog 13 [].toArray w fun r _ => r = .bool true := by
  refine ok_enter Tryz.func13 rfl Tryz.ntmps13 rfl ?_
  focus (refine gc_seq ?_; refine gc_region ?_; apply gw_d; exact det_m rfl rfl (by conv => (lhs; whnf)); refine gw_nil ?_; refine gx_next ?_; refine gc_seq ?_; refine gc_region ?_)
  refine gw_callm rfl (fun w s => four_ok w) rfl (fun x1 => ?_)
  refine gw_callm rfl (fun w s => four_order s) rfl (fun y => ?_)
  refine gw_ent (K := [ownY y]) (Sub.ent (.cons .here .nil)) ?_
  focus (apply gw_d; exact det_m rfl rfl (by conv => (lhs; whnf)); apply gw_d; exact det_extract rfl rfl rfl (by conv => (lhs; whnf)); apply gw_d; exact det_extract rfl rfl rfl (by conv => (lhs; whnf)); apply gw_d; exact det_m rfl rfl (by conv => (lhs; whnf)); apply gw_d; exact det_m rfl rfl (by conv => (lhs; whnf)); refine gw_nil ?_; refine gx_next ?_; refine gc_seq ?_; refine gc_region ?_)
  refine gw_callm rfl (fun w s => four_ok w) rfl (fun x2 => ?_)
  focus (apply gw_d; exact w_call rfl rfl (fun w s => four_crit s) rfl; apply gw_d; exact det_m rfl rfl (by conv => (lhs; whnf)); apply gw_d; exact det_extract rfl rfl rfl (by conv => (lhs; whnf)); apply gw_d; exact det_extract rfl rfl rfl (by conv => (lhs; whnf)); apply gw_d; exact det_m rfl rfl (by conv => (lhs; whnf)); apply gw_d; exact det_m rfl rfl (by conv => (lhs; whnf)); refine gw_nil ?_; refine gx_next ?_; refine gc_seq ?_; refine gc_region ?_)
  refine gw_ent (K := [ownY y]) (Sub.ent (.cons (.there (.there (.there .here))) .nil)) ?_
  refine gw_callm rfl (fun w s => four_ok w) rfl (fun x3 => ?_)
  focus (apply gw_d; exact w_call rfl rfl (fun w s => four_b1 s) rfl; apply gw_d; exact det_m rfl rfl (by conv => (lhs; whnf)); apply gw_d; exact det_extract rfl rfl rfl (by conv => (lhs; whnf)); apply gw_d; exact det_extract rfl rfl rfl (by conv => (lhs; whnf)); apply gw_d; exact det_m rfl rfl (by conv => (lhs; whnf)); apply gw_d; exact det_m rfl rfl (by conv => (lhs; whnf)); refine gw_nil ?_; refine gx_next ?_; refine gc_seq ?_; refine gc_region ?_)
  refine gw_ent (K := [ownY y]) (Sub.ent (.cons (.there (.there (.there .here))) .nil)) ?_
  refine gw_callm rfl (fun w s => four_ok w) rfl (fun x4 => ?_)
  focus (apply gw_d; exact w_call rfl rfl (fun w s => four_b2 s) rfl; apply gw_d; exact det_m rfl rfl (by conv => (lhs; whnf)); apply gw_d; exact det_extract rfl rfl rfl (by conv => (lhs; whnf)); apply gw_d; exact det_extract rfl rfl rfl (by conv => (lhs; whnf)); apply gw_d; exact det_m rfl rfl (by conv => (lhs; whnf)); apply gw_d; exact det_m rfl rfl (by conv => (lhs; whnf)); refine gw_nil ?_; refine gx_next ?_; refine gc_seq ?_; refine gc_region ?_)
  refine gw_ent (K := [ownY y]) (Sub.ent (.cons (.there (.there (.there .here))) .nil)) ?_
  refine gw_callm rfl (fun w s => four_ok w) rfl (fun x5 => ?_)
  refine gw_callm rfl (fun w s => four_f1 s) rfl (fun z => ?_)
  refine gw_ent (K := [ownY y, ownZ z]) (Sub.ent (.cons (.there (.there (.there (.there .here)))) (.cons .here .nil))) ?_
  focus (apply gw_d; exact det_m rfl rfl (by conv => (lhs; whnf)); apply gw_d; exact det_extract rfl rfl rfl (by conv => (lhs; whnf)); apply gw_d; exact det_extract rfl rfl rfl (by conv => (lhs; whnf)); apply gw_d; exact det_m rfl rfl (by conv => (lhs; whnf)); apply gw_d; exact det_m rfl rfl (by conv => (lhs; whnf)); refine gw_nil ?_; refine gx_next ?_; refine gc_seq ?_; refine gc_region ?_)
  refine gw_callm rfl (fun w s => four_ok w) rfl (fun x6 => ?_)
  focus (apply gw_d; exact w_call rfl rfl (fun w s => four_f2 s) rfl; apply gw_d; exact det_m rfl rfl (by conv => (lhs; whnf)); apply gw_d; exact det_extract rfl rfl rfl (by conv => (lhs; whnf)); apply gw_d; exact det_extract rfl rfl rfl (by conv => (lhs; whnf)); apply gw_d; exact det_m rfl rfl (by conv => (lhs; whnf)); apply gw_d; exact det_m rfl rfl (by conv => (lhs; whnf)); refine gw_nil ?_; refine gx_next ?_; refine gc_seq ?_; refine gc_region ?_)
  refine gw_ent (K := [ownY y, ownZ z]) (Sub.ent (.cons (.there (.there (.there .here))) (.cons (.there (.there (.there .here))) .nil))) ?_
  refine gw_callm rfl (fun w s => four_ok w) rfl (fun x7 => ?_)
  focus (apply gw_d; exact det_m rfl rfl (by conv => (lhs; whnf)); refine gw_nil ?_; refine gx_next ?_; refine gc_seq ?_; refine gc_region ?_; apply gw_d; exact det_m rfl rfl (by conv => (lhs; whnf)))
  refine gw_bslice1 (v := .int .i64 1) rfl rfl rfl rfl rfl (fun ba => ?_)
  focus (apply gw_d; exact w_index (m := 2) rfl rfl rfl rfl (by rfl) (by decide); apply gw_d; exact w_field rfl rfl rfl)
  refine w_store (v := .slice (some ⟨ba, 0, none⟩) 1 1) (cs' := aroundCells x7.1 x7.2.1 ba) rfl rfl rfl rfl rfl (.there .here) rfl (by rfl) ?_
  focus (refine gw_nil ?_; refine gx_next ?_; refine gc_seq ?_; refine gc_region ?_; apply gw_d; exact det_m rfl rfl (by conv => (lhs; whnf)); apply gw_d; exact w_call rfl rfl (fun w s => around_order s) rfl; apply gw_d; exact det_m rfl rfl (by conv => (lhs; whnf)); apply gw_d; exact det_extract rfl rfl rfl (by conv => (lhs; whnf)); apply gw_d; exact det_extract rfl rfl rfl (by conv => (lhs; whnf)); apply gw_d; exact det_m rfl rfl (by conv => (lhs; whnf)); apply gw_d; exact det_m rfl rfl (by conv => (lhs; whnf)); refine gw_nil ?_; refine gx_next ?_; refine gc_seq ?_; refine gc_region ?_)
  refine gw_ent (K := [ownY y, ownZ z]) (Sub.ent (.cons (.there (.there (.there (.there .here)))) (.cons (.there (.there (.there (.there .here)))) .nil))) ?_
  refine gw_callm rfl (fun w s => shirt_ok w) rfl (fun g => ?_)
  focus (refine w_alloc rfl (fun _ => ?_); refine w_store_all rfl rfl rfl rfl rfl .here rfl ?_; refine gw_nil ?_; refine gx_next ?_; refine gc_seq ?_; refine gc_region ?_; apply gw_d; exact w_field rfl rfl rfl; apply gw_d; exact w_load_box rfl rfl rfl .here rfl; apply gw_d; exact w_index rfl rfl rfl rfl (by with_reducible exact cast0) (by omega); apply gw_d; exact w_field rfl rfl rfl; refine w_store rfl rfl rfl rfl rfl (.there .here) rfl rfl ?_; refine gw_nil ?_; refine gx_next ?_; refine gc_seq ?_; refine gc_seq ?_; refine gc_region ?_; apply gw_d; exact det_m rfl rfl (by conv => (lhs; whnf)); apply gw_d; exact det_cmp rfl rfl rfl rfl rfl; apply gw_d; exact det_m rfl rfl (by conv => (lhs; whnf)); apply gw_d; exact det_m rfl rfl (by conv => (lhs; whnf)); apply gw_d; exact det_cmp rfl rfl rfl rfl rfl; apply gw_d; exact det_pick_f (v := .bool _) rfl rfl rfl rfl; apply gw_d; exact det_m rfl rfl (by conv => (lhs; whnf)); apply gw_d; exact det_m rfl rfl (by conv => (lhs; whnf)); apply gw_d; exact det_cmp rfl rfl rfl rfl rfl; apply gw_d; exact det_pick_f (v := .bool _) rfl rfl rfl rfl; apply gw_d; exact det_m rfl rfl (by conv => (lhs; whnf)); apply gw_d; exact det_m rfl rfl (by conv => (lhs; whnf)); apply gw_d; exact det_cmp rfl rfl rfl rfl rfl; apply gw_d; exact det_pick_f (v := .bool _) rfl rfl rfl rfl; apply gw_d; exact det_m rfl rfl (by conv => (lhs; whnf)); apply gw_d; exact det_m rfl rfl (by conv => (lhs; whnf)); apply gw_d; exact det_cmp rfl rfl rfl rfl rfl; apply gw_d; exact det_pick_f (v := .bool _) rfl rfl rfl rfl; apply gw_d; exact det_m rfl rfl (by conv => (lhs; whnf)); apply gw_d; exact det_m rfl rfl (by conv => (lhs; whnf)); apply gw_d; exact det_cmp rfl rfl rfl rfl rfl; apply gw_d; exact det_pick_f (v := .bool _) rfl rfl rfl rfl; apply gw_d; exact det_m rfl rfl (by conv => (lhs; whnf)); apply gw_d; exact det_m rfl rfl (by conv => (lhs; whnf)); apply gw_d; exact det_cmp rfl rfl rfl rfl rfl; apply gw_d; exact det_pick_f (v := .bool _) rfl rfl rfl rfl; apply gw_d; exact det_m rfl rfl (by conv => (lhs; whnf)); apply gw_d; exact det_m rfl rfl (by conv => (lhs; whnf)); apply gw_d; exact det_not_ rfl rfl rfl; apply gw_d; exact det_pick_f (v := .bool _) rfl rfl rfl rfl; apply gw_d; exact det_m rfl rfl (by conv => (lhs; whnf)); apply gw_d; exact det_m rfl rfl (by conv => (lhs; whnf)); apply gw_d; exact det_pick_f (v := .bool _) rfl rfl rfl rfl; apply gw_d; exact det_m rfl rfl (by conv => (lhs; whnf)); apply gw_d; exact det_m rfl rfl (by conv => (lhs; whnf)); apply gw_d; exact det_cmp rfl rfl rfl rfl rfl; apply gw_d; exact det_pick_f (v := .bool _) rfl rfl rfl rfl; refine gw_nil ?_; refine gx_next ?_)
  rename_i bg
  refine gc_if_false rfl ?_
  refine gc_ent (K := ownY y :: ownZ z :: Box bg 29 (shirtV g).cells :: Box (g 11) 46 (opV (.slice none 0 0)) :: (shirtR g).drop 1) (Sub.ent (.cons (.there (.there (.there (.there (.there (.there (.there (.there (.there (.there (.there (.there .here)))))))))))) (.cons (.there (.there (.there (.there (.there (.there (.there (.there (.there (.there (.there (.there .here)))))))))))) (.cons (.there .here) (.cons .here (.cons .here (.cons .here (.cons .here (.cons .here (.cons .here (.cons .here (.cons .here (.cons .here (.cons .here (.cons .here .nil))))))))))))))) ?_
  focus (refine gc_skip ?_; refine gx_next ?_; refine gc_seq ?_; refine gc_region ?_; apply gw_d; exact det_m rfl rfl (by conv => (lhs; whnf)))
  refine gw_bslice (cells := #[.int .i64 2, .int .i64 0, .int .i64 1, .int .i64 3]) rfl ?_ ?_ ?_ (fun bb => ?_)
  · rfl
  · rfl
  · kernel_rfl
  focus (apply gw_d; exact w_call rfl rfl (fun w s => same_y s) rfl; apply gw_d; exact det_m rfl rfl (by conv => (lhs; whnf)); apply gw_d; exact det_m rfl rfl (by conv => (lhs; whnf)))
  refine gw_ent (K := ownY y :: ownZ z :: Box bg 29 (shirtV g).cells :: Box (g 11) 46 (opV (.slice none 0 0)) :: (shirtR g).drop 1) (Sub.ent Sub.tail) ?_
  refine gw_bslice (cells := #[.int .i64 0, .int .i64 1]) rfl ?_ ?_ ?_ (fun bc => ?_)
  · rfl
  · rfl
  · kernel_rfl
  focus (apply gw_d; exact w_call rfl rfl (fun w s => same_z s) rfl; apply gw_d; exact det_pick_t (v := .bool _) rfl rfl rfl rfl; apply gw_d; exact det_m rfl rfl (by conv => (lhs; whnf)))
  refine gw_ent (K := Box bg 29 (shirtV g).cells :: Box (g 11) 46 (opV (.slice none 0 0)) :: (shirtR g).drop 1) (Sub.ent (Sub.weak (Sub.weak (Sub.weak (Sub.all _))))) ?_
  refine gw_callm rfl (fun w s => shirt_ok w) rfl (fun h => ?_)
  focus (apply gw_d; exact w_call rfl rfl (fun w s => shirt_check s) rfl; apply gw_d; exact det_cmp rfl rfl rfl rfl rfl; apply gw_d; exact det_pick_t (v := .bool _) rfl rfl rfl rfl; apply gw_d; exact det_m rfl rfl (by conv => (lhs; whnf)))
  refine gw_ent (K := Box bg 29 (shirtV g).cells :: Box (g 11) 46 (opV (.slice none 0 0)) :: (shirtR g).drop 1) (Sub.ent (Sub.weak (Sub.weak (Sub.weak (Sub.weak (Sub.weak (Sub.weak (Sub.weak (Sub.weak (Sub.weak (Sub.weak (Sub.weak (Sub.all _))))))))))))) ?_
  have hgap : ∀ w', St w (Box bg 29 (shirtV g).cells :: Box (g 11) 46 (opV (.slice none 0 0)) :: (shirtR g).drop 1) w' → Ok Tryz.prog 14 [shirtV g].toArray w' fun r _ => r = .int .i64 20 := fun w' s => gap_check (L := []) s.drop
  focus (apply gw_d; exact w_load_boxN rfl rfl rfl .here rfl; apply gw_d; exact w_call rfl rfl hgap rfl; apply gw_d; exact det_cmp rfl rfl rfl rfl rfl; apply gw_d; exact det_pick_t (v := .bool _) rfl rfl rfl rfl; apply gw_d; exact det_m rfl rfl (by conv => (lhs; whnf)); apply gw_d; exact w_build (cells := #[.string ⟨#[]⟩, .slice none 0 0, .slice none 0 0, .slice none 0 0, .slice none 0 0, .slice none 0 0, .slice none 0 0]) rfl rfl (by rfl); apply gw_d; exact w_call rfl rfl (fun w _ => no_check w) rfl; apply gw_d; exact det_cmp rfl rfl rfl rfl rfl; apply gw_d; exact det_pick_t (v := .bool _) rfl rfl rfl rfl; apply gw_d; exact det_m rfl rfl (by conv => (lhs; whnf)); refine gw_nil ?_; refine gx_next ?_; refine gc_ret ?_)
  refine gx_ret1 (v := .bool _) rfl rfl (fun _ _ => ?_)
  rfl
end Go.Proofs.YteiboodeepjanaaGreat
