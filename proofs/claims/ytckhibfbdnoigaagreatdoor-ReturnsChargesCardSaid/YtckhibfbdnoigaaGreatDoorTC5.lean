/- Texts in one file: V5 V4 LT V6 V7 CH RN R1 FwR RO RP G1 RA. -/
import Derived.Test.YtckhibfbdnoigaaGreatDoorTC4
import Derived.Test.YtckhibfbdnoigaaGreatDoorTC3
import Derived.Test.YtckhibfbdnoigaaGreatDoorTC2
import Derived.LoopN
set_option maxRecDepth 100000
set_option maxHeartbeats 8000000
namespace Go.Proofs.YtckhibfbdnoigaaGreatDoor
open Go.RowKit
section
variable {P : Program} {ops : Array Oper} {N : Nat} {w0 : World} {L : List Res} {e : Env} {o : Oper} {t : TypeId} {x ix iy : Operand} {el sz : Nat}
theorem w_cut2 [CSlice P t el sz] {A : Option Addr} {n c l h : Nat} {k k' : IntKind} {z z' : Int} (hop : o.op = .slice t x (some ix) (some iy) none) (hw : wantedE N ops e o = true) (hx : ev N e x = .slice A n c) (hi : ev N e ix = .int k z) (hy : ev N e iy = .int k' z') (hz : z = (l : Int)) (hz' : z' = (h : Int)) (hlh : l ≤ h) (hhc : h ≤ c) :
  Det P ops N w0 L o e (.slice (if c = l then A else A.map (·.add (l * sz))) (h - l) (c - l)) :=
 det_pure hw fun w => by
  have ht := CSlice.h (P := P) (t := t) (el := el) (sz := sz)
  unfold sliceSz at ht
  split at ht
  ·rename_i el' hu
   obtain ⟨i, hinfo, heq⟩ := Option.map_eq_some_iff.1 ht
   injection heq with h1 h2
   subst hz h2 hz'
   have h0 : (0 : Int) ≤ (l : Int) ∧ (l : Int) ≤ (h : Int) := by omega
   have h1 : (0 : Int) ≤ (h : Int) ∧ (h : Int) ≤ (c : Int) := by omega
   unfold execOp
   simp only [hop, hx, hi, hy, Option.map_none, Option.map_some, Instr.sliceAt, Sem.run_bind, run_underlying hu, Result.andThen_ok, Instr.slice, Instr.sliceBounds, Instr.sliceBound, asIntOf, Sem.run_pure, sizeOf, typeInfo]
   simp [h0, h1, hinfo, program, Sem.run]
   intro hc
   omega
  ·cases ht
theorem w_scut2 [CIsStr P t] {s : ByteArray} {l h : Nat} {k k' : IntKind} {z z' : Int} (hop : o.op = .slice t x (some ix) (some iy) none) (hw : wantedE N ops e o = true) (hx : ev N e x = .string s) (hi : ev N e ix = .int k z) (hy : ev N e iy = .int k' z') (hz : z = (l : Int)) (hz' : z' = (h : Int)) (hlh : l ≤ h) (hhc : h ≤ s.size) :
  Det P ops N w0 L o e (.string (s.extract l h)) :=
 det_pure hw fun w => by
  have ht := CIsStr.h (P := P) (t := t)
  unfold isStringT at ht
  split at ht
  ·rename_i hu
   subst hz hz'
   have h0 : (0 : Int) ≤ (l : Int) ∧ (l : Int) ≤ (h : Int) := by omega
   have h1 : (0 : Int) ≤ (h : Int) ∧ (h : Int) ≤ (s.size : Int) := by omega
   unfold execOp
   simp only [hop, hx, hi, hy, Option.map_none, Option.map_some, Instr.sliceAt, Sem.run_bind, run_underlying hu, Result.andThen_ok, Instr.slice, Instr.sliceBounds, Instr.sliceBound, asIntOf, Sem.run_pure]
   simp [h0, h1, hlh, hhc]
  ·cases ht
theorem w_scat {p q : ByteArray} {yt : TypeId} (hop : o.op = .binOp .add t x ix yt) (hw : wantedE N ops e o = true) (hx : ev N e x = .string p) (hy : ev N e ix = .string q) (hs : p.size + q.size ≤ 1000) : Det P ops N w0 L o e (.string (p ++ q)) :=
 det_pure hw fun w => by
  have h1 : ¬ (((p.size + q.size : Nat) : Int) > IntKind.i64.max) := by
   have : IntKind.i64.max = 9223372036854775807 := by rfl
   omega
  unfold execOp
  simp only [hop, hx, hy, eqGuard, binOp, Op.stringOp, if_neg h1]
  rfl
end

def sShirt : ByteArray := ⟨#[115, 104, 105, 114, 116]⟩
def sFront : ByteArray := ⟨#[102, 114, 111, 110, 116]⟩
def sSew : ByteArray := ⟨#[115, 101, 119]⟩
def sAbcd : ByteArray := ⟨#[97, 98, 99, 100]⟩
def sE : ByteArray := ⟨#[101]⟩
def nameE (k : Nat) : ByteArray := sE ++ sAbcd.extract k (k + 1)
def lineE (ba k : Nat) : Value := .slice (some ((⟨ba, 0, none⟩ : Addr).add (k * 2))) 2 (5 - k)
def edgeC (ba k : Nat) : List Value := [.string (nameE k), lineE ba k]
def rowEd (ba k : Nat) : List Value := (List.range k).flatMap (edgeC ba)
theorem rowEd_succ (ba k : Nat) : rowEd ba (k + 1) = rowEd ba k ++ edgeC ba k := by
 unfold rowEd
 rw [List.range_succ, List.flatMap_append]
 simp
def atC : Array Value := #[.int .i64 0, .int .i64 0, .int .i64 10, .int .i64 0, .int .i64 10, .int .i64 10, .int .i64 0, .int .i64 10, .int .i64 0, .int .i64 0]
def z8 : Array Value := #[.int .i64 0, .int .i64 0, .int .i64 0, .int .i64 0, .int .i64 0, .int .i64 0, .int .i64 0, .int .i64 0]
def z4 : Array Value := #[.int .i64 0, .int .i64 0, .int .i64 0, .int .i64 0]
def pieceC (A : Option Addr) (n c bc bw : Nat) : Array Value := #[.string sFront, .slice A n c, .int .i64 2, .slice none 0 0, .slice (some ⟨bc, 0, none⟩) 4 4, .slice (some ⟨bw, 0, none⟩) 4 4, .bool false]
def shopZ : Array Value := #[.string ⟨#[]⟩, .slice none 0 0, .slice none 0 0, .slice none 0 0, .slice none 0 0, .slice none 0 0, .slice none 0 0, .slice none 0 0, .slice none 0 0, .slice none 0 0, .int .i64 0, .int .i64 0]
def one (b : Nat) : Value := .slice (some ⟨b, 0, none⟩) 1 1
def shopStyV (x : Nat → Nat) : Value := .agg #[.string sShirt, one (x 0), one (x 1), one (x 2), one (x 3), .slice none 0 0, one (x 5)]
def shopV58 (x : (Nat → Nat) × Option Addr × Nat) : Value := .agg #[.string sShirt, one (x.1 0), one (x.1 1), one (x.1 2), one (x.1 3), .slice none 0 0, one (x.1 5), one (x.1 6), one (x.1 8), one (x.1 9), .int .i64 260, .int .i64 0]
def shopR (x : (Nat → Nat) × Option Addr × Nat) : List Res := [Box (x.1 9) 51 #[.int .i64 7, .int .i64 0, .int .i64 0, .int .i64 5], Box (x.1 8) 85 #[.string sAnn, one (x.1 7)], Box (x.1 7) 3 #[.int .i64 0], Box (x.1 6) 44 #[.int .i64 7, .int .i64 0, .int .i64 0, .int .i64 0, .int .i64 0, .int .i64 10],
 Box (x.1 5) 55 #[.string sSew, .int .i64 0, .int .i64 120, .slice none 0 0, one (x.1 4)], Box (x.1 4) 3 #[.int .i64 0], Box (x.1 3) 115 #[.int .i64 0, .int .i64 1, .bool false], Box (x.1 2) 113 (pieceC x.2.1 4 x.2.2 (x.1 11) (x.1 12)), Box (x.1 1) 3 #[.int .i64 0], Box (x.1 0) 9 #[.string sS],
 Own x.2.1 4 x.2.2 109 2 (rowEd (x.1 10) 4), Box (x.1 10) 106 atC, Box (x.1 11) 106 z8, Box (x.1 12) 3 z4]
theorem cut_size {k : Nat} (hk : k < 4) : sE.size + (sAbcd.extract k (k + 1)).size ≤ 1000 := by
 obtain rfl | rfl | rfl | rfl : k = 0 ∨ k = 1 ∨ k = 2 ∨ k = 3 := by omega
 all_goals decide
theorem shop_ok (w : World) : OkM Tryz.prog 38 [].toArray w shopV58 shopR := by
 unfold OkM
 refine ok_enter Tryz.func38 rfl Tryz.ntmps38 rfl ?_
 (refine gV ?_; refine w_alloc rfl (fun _ => ?_); refine gN ?_; apply gw_d; exact w_buildP [] (cells := #[.int .i64 0, .int .i64 0]) (by kernel_rfl) rfl rfl rfl; apply gw_d; exact w_buildP [(0, .int .i64 10)] (cells := #[.int .i64 10, .int .i64 0]) (by kernel_rfl) rfl rfl rfl; apply gw_d; exact w_buildP [(0, .int .i64 10), (1, .int .i64 10)] (cells := #[.int .i64 10, .int .i64 10]) (by kernel_rfl) rfl rfl rfl; apply gw_d; exact w_buildP [(1, .int .i64 10)] (cells := #[.int .i64 0, .int .i64 10]) (by kernel_rfl) rfl rfl rfl; apply gw_d; exact w_buildP [] (cells := #[.int .i64 0, .int .i64 0]) (by kernel_rfl) rfl rfl rfl)
 rename_i b0
 refine gw_bslice (cells := atC) rfl ?_ ?_ ?_ (fun ba => ?_)
 ·rfl
 ·rfl
 ·kernel_rfl
 (refine gM ?_; refine gO ?_; refine gQ ?_)
 refine gc_block_draw Nat 4 (fun i => ([[], [], [0, 1], []] : List (List Nat)).getD i []) rfl (by kernel_rfl) ?_
 refine gb_makeN (n := 4) (cells := z8) id id (fun _ => rfl) (fun _ => rfl) (fun _ => rfl) (fun _ => rfl) rfl rfl (by decide) (by decide) (by kernel_rfl) ?_
 refine gb_makeN (n := 4) (cells := z4) id id (fun _ => rfl) (fun _ => rfl) (fun _ => rfl) (fun _ => rfl) rfl rfl (by decide) (by decide) (by kernel_rfl) ?_
 refine gb_d (V := fun γ => .agg #[.string sFront, .slice none 0 0, .int .i64 2, .slice none 0 0, .slice (some ⟨γ 0, 0, none⟩) 4 4, .slice (some ⟨γ 1, 0, none⟩) 4 4, .bool false]) (fun γ => w_buildP [(0, .string sFront), (2, .int .i64 2), (4, .slice (some ⟨γ 0, 0, none⟩) 4 4), (5, .slice (some ⟨γ 1, 0, none⟩) 4 4)] (by kernel_rfl) rfl rfl rfl) (fun _ _ => rfl) (fun _ => rfl) ?_
 refine gb_alloc id id (fun _ => rfl) (fun _ => rfl) ?_
 refine GB.nil (fun β => ?_)
 refine w_store_all rfl rfl rfl rfl rfl (.there (.there .here)) rfl ?_
 (refine gO ?_; refine gQ ?_; refine gV ?_; refine gM ?_; refine gO ?_; refine gB ?_)
 generalize β 0 = bc
 generalize β 1 = bw
 generalize β 3 = bp
 refine gc_own0 109 2 ?_
 refine gc_loop (σ := Nat × Option Addr × Nat) [14, 15, 18, 19, 20, 21, 22, 23, 24, 25, 26, 27, 28, 29, 30, 31, 32, 33, 16, 17, 3] (fun q => [(3, .int .i64 q.1)]) (fun q => [Own q.2.1 q.1 q.2.2 109 2 (rowEd ba q.1), Box bp 113 (pieceC q.2.1 q.1 q.2.2 bc bw), Box ba 106 atC, Box bc 106 z8, Box bw 3 z4, Box b0 65 shopZ]) (fun q => q.1 ≤ 4) (fun q => 4 - q.1) (0, none, 0) (Nat.zero_le _) ⟨rfl, trivial⟩ (.cons .here (.cons .here (.cons (.there (.there .here)) (.cons .here (.cons .here (.cons .here .nil)))))) ?_
 rintro ⟨k, A, c⟩ base hk
 dsimp only at hk ⊢
 (refine gQ ?_; refine gV ?_; refine gM ?_; refine gC ?_; refine gO ?_)
 refine gc_if_dec rfl (fun h => ?_) (fun h => ?_)
 ·have hk4 : k < 4 := by omega
  have hcs := cut_size hk4
  have hln : ∀ A5 : Option Addr, A5 = some ⟨ba, 0, none⟩ → Value.slice (if 5 = k then A5 else A5.map (·.add (k * 2))) (k + 2 - k) (5 - k) = lineE ba k := fun A5 h5 => by
   subst h5
   unfold lineE
   rw [if_neg (by omega), show k + 2 - k = 2 by omega]
   rfl
  (refine gK ?_; refine gX ?_; refine gQ ?_; refine gB ?_)
  generalize hLr : [Box bp 113 (pieceC A k c bc bw), Box ba 106 atC, Box bc 106 z8, Box bw 3 z4, Box b0 65 shopZ] = Lr
  obtain ⟨Lp, hpp⟩ : ∃ Lp, Pick Lr (Box bp 113 (pieceC A k c bc bw)) Lp := by rw [← hLr]; exact ⟨_, .here⟩
  refine gc_blockJ (P := Tryz.prog) (Nat × Option Addr × Nat) 15 (fun i => ([[], [0], [], [], [3], [2, 3, 4], [2, 3, 4, 5], [], [], [], [9], [7, 8, 9, 10], [2, 3, 4, 5, 6, 7, 8, 9, 10, 11], [2, 3, 4, 5, 6, 7, 8, 9, 10, 11, 12], [0, 1, 2, 3, 4, 5, 6, 7, 8, 9, 10, 11, 12, 13]] : List (List Nat)).getD i []) (fun i γ => match i with
   | 0 => .pointer (some ((⟨bp, 0, none⟩ : Addr).add 1))
   | 1 => .slice A k c
   | 2 => .int .i64 k
   | 3 => .int .i64 k
   | 4 => .int .i64 ((k : Int) + 1)
   | 5 => .string (sAbcd.extract k (k + 1))
   | 6 => .string (nameE k)
   | 7 => .slice (some ⟨ba, 0, none⟩) 5 5
   | 8 => .int .i64 k
   | 9 => .int .i64 k
   | 10 => .int .i64 ((k : Int) + 2)
   | 11 => lineE ba k
   | 12 => .agg #[.string (nameE k), lineE ba k]
   | 13 => .slice (some ⟨(γ 13).1, 0, none⟩) 1 1
   | 14 => .slice (γ 14).2.1 (k + 1) (γ 14).2.2
   | _ => undef) (fun ls β w' => St w ((if ls 14 = true then Own (β 14).2.1 (k + 1) (β 14).2.2 109 2 (rowEd ba k ++ edgeC ba k) else Own A k c 109 2 (rowEd ba k)) :: ((if ls 13 = true then [Box (β 13).1 109 #[.string (nameE k), lineE ba k]] else []) ++ Lr)) w') rfl (by kernel_rfl) (fun w' s => s) ?_ ?_
  ·intro i o ls β w' hi hik hls hpl hJ
   have hS0 : St w Lr w' := by
    have := hJ.drop
    exact this.sublist (List.sublist_append_right _ _)
   obtain rfl | rfl | rfl | rfl | rfl | rfl | rfl | rfl | rfl | rfl | rfl | rfl | rfl | rfl | rfl : i = 0 ∨ i = 1 ∨ i = 2 ∨ i = 3 ∨ i = 4 ∨ i = 5 ∨ i = 6 ∨ i = 7 ∨ i = 8 ∨ i = 9 ∨ i = 10 ∨ i = 11 ∨ i = 12 ∨ i = 13 ∨ i = 14 := by omega
   ·cases hi
    exact detG (w_field rfl rfl rfl) rfl hS0 (fun w2 hx => ⟨default, rfl, St.ext hJ hx⟩)
   ·cases hi
    exact detG (w_load_box rfl rfl rfl hpp rfl) rfl hS0 (fun w2 hx => ⟨default, rfl, St.ext hJ hx⟩)
   ·cases hi
    exact detG (det_m (v := .int .i64 (k : Int)) rfl rfl rfl) rfl hS0 (fun w2 hx => ⟨default, rfl, St.ext hJ hx⟩)
   ·cases hi
    exact detG (det_m (v := .int .i64 (k : Int)) rfl rfl rfl) rfl hS0 (fun w2 hx => ⟨default, rfl, St.ext hJ hx⟩)
   ·cases hi
    exact detG (det_ar (r := (k : Int) + 1) rfl rfl rfl rfl rfl (by omega)) rfl hS0 (fun w2 hx => ⟨default, rfl, St.ext hJ hx⟩)
   ·cases hi
    exact detG (w_scut2 (s := sAbcd) (l := k) (h := k + 1) rfl rfl rfl rfl rfl rfl (castA k) (by omega) (show k + 1 ≤ 4 by omega)) rfl hS0 (fun w2 hx => ⟨default, rfl, St.ext hJ hx⟩)
   ·cases hi
    exact detG (w_scat (p := sE) (q := sAbcd.extract k (k + 1)) rfl rfl rfl rfl hcs) rfl hS0 (fun w2 hx => ⟨default, rfl, St.ext hJ hx⟩)
   ·cases hi
    exact detG (det_m (v := .slice (some ⟨ba, 0, none⟩) 5 5) rfl rfl rfl) rfl hS0 (fun w2 hx => ⟨default, rfl, St.ext hJ hx⟩)
   ·cases hi
    exact detG (det_m (v := .int .i64 (k : Int)) rfl rfl rfl) rfl hS0 (fun w2 hx => ⟨default, rfl, St.ext hJ hx⟩)
   ·cases hi
    exact detG (det_m (v := .int .i64 (k : Int)) rfl rfl rfl) rfl hS0 (fun w2 hx => ⟨default, rfl, St.ext hJ hx⟩)
   ·cases hi
    exact detG (det_ar (r := (k : Int) + 2) rfl rfl rfl rfl rfl (by omega)) rfl hS0 (fun w2 hx => ⟨default, rfl, St.ext hJ hx⟩)
   ·cases hi
    exact detG (det_eq (c' := lineE ba k) (w_cut2 (A := some ⟨ba, 0, none⟩) (n := 5) (c := 5) (l := k) (h := k + 2) rfl rfl rfl rfl rfl rfl (castB k) (by omega) (by omega)) (hln _ rfl)) rfl hS0 (fun w2 hx => ⟨default, rfl, St.ext hJ hx⟩)
   ·cases hi
    exact detG (w_buildP [(0, .string (nameE k)), (1, lineE ba k)] (cells := #[.string (nameE k), lineE ba k]) (by rfl) rfl rfl rfl) rfl hS0 (fun w2 hx => ⟨default, rfl, St.ext hJ hx⟩)
   ·cases hi
    rw [hls] at hJ
    refine ⟨rfl, (stepG_bslice1 (v := .agg #[.string (nameE k), lineE ba k]) rfl rfl rfl rfl hJ).mono fun u w2 hu => ?_⟩
    obtain ⟨b, hu, s2⟩ := hu
    exact ⟨(b, none, 0), hu, St.sub (.cons (.there .here) (.cons .here (Sub.all _))) s2⟩
   ·cases hi
    have h13 : ls 13 = true := hpl 13 (by decide)
    rw [hls, h13] at hJ
    refine ⟨rfl, (stepG_append (sz := 2) (z := .agg #[.string ⟨#[]⟩, .slice none 0 0]) (n := k) (m := 1) (xs := rowEd ba k) (news := edgeC ba k) rfl rfl .here rfl (fun w3 s3 _ => ?_) (fun u hu => ?_) (by unfold maxLen; omega) (by omega) (by decide) rfl hJ).mono fun u w2 hu => ?_⟩
    ·refine ⟨⟨(β 13).1, 0, none⟩, rfl, fun i u hu => ?_⟩
     rw [add_zero]
     refine (Box.cell s3.drop.head i).trans ?_
     change (#[Value.string (nameE k), lineE ba k] : Array Value)[i]? = some u
     rw [List.getElem?_toArray]
     exact hu
    ·unfold edgeC at hu
     simp only [List.mem_cons, List.not_mem_nil, or_false] at hu
     rcases hu with rfl | rfl <;> rfl
    ·obtain ⟨A', c', hu, s2⟩ := hu
     refine ⟨(0, A', c'), hu, ?_⟩
     show St w (Own A' (k + 1) c' 109 2 (rowEd ba k ++ edgeC ba k) :: ((if ls 13 = true then [Box (β 13).1 109 #[.string (nameE k), lineE ba k]] else []) ++ Lr)) w2
     rw [h13]
     exact s2
  ·intro ls β w' hall hJ
   rw [hall 13 (by decide), hall 14 (by decide)] at hJ
   subst hLr
   have hJ2 : St w (Own (β 14).2.1 (k + 1) (β 14).2.2 109 2 (rowEd ba k ++ edgeC ba k) :: Box (β 13).1 109 #[.string (nameE k), lineE ba k] :: [Box bp 113 (pieceC A k c bc bw), Box ba 106 atC, Box bc 106 z8, Box bw 3 z4, Box b0 65 shopZ]) w' := hJ
   refine GW.h (P := Tryz.prog) ?_ w' hJ2
   rw [← rowEd_succ]
   (refine gF ?_)
   refine w_store (cs' := pieceC (β 14).2.1 (k + 1) (β 14).2.2 bc bw) rfl rfl rfl rfl rfl (.there (.there .here)) rfl rfl ?_
   (refine gw_nil ?_; refine gH ?_; refine gX ?_; refine gG ?_; refine gM ?_; refine gA ?_; refine gM ?_; refine gw_nil ?_)
   exact gx_round (k + 1, (β 14).2.1, (β 14).2.2) (by dsimp only; omega) (by dsimp only; omega) kK ⟨rfl, trivial⟩ (.cons (.there .here) (.cons .here (.cons (.there .here) (.cons (.there .here) (.cons (.there .here) (.cons (.there .here) .nil))))))
 obtain rfl : k = 4 := by omega
 (refine gI ?_; (iterate 2 refine gZ ?_); refine gJ ?_; refine gX ?_; refine gV ?_)
 refine gw_bslice1 (v := .string sS) rfl rfl rfl rfl rfl (fun x0 => ?_)
 (skip)
 refine gw_bslice1 (v := .int .i64 0) rfl rfl rfl rfl rfl (fun x1 => ?_)
 (apply gw_d; exact w_load_boxN rfl rfl rfl (.there (.there (.there .here))) rfl)
 refine gw_bslice1 (v := .agg (pieceC A 4 c bc bw)) rfl rfl rfl rfl rfl (fun x2 => ?_)
 (apply gw_d; exact w_buildP [(1, .int .i64 1)] (cells := #[.int .i64 0, .int .i64 1, .bool false]) (by kernel_rfl) rfl rfl rfl)
 refine gw_bslice1 (v := .agg #[.int .i64 0, .int .i64 1, .bool false]) rfl rfl rfl rfl rfl (fun x3 => ?_)
 (skip)
 refine gw_bslice1 (v := .int .i64 0) rfl rfl rfl rfl rfl (fun x4 => ?_)
 (apply gw_d; exact w_buildP [(0, .string sSew), (2, .int .i64 120), (4, one x4)] (cells := #[.string sSew, .int .i64 0, .int .i64 120, .slice none 0 0, one x4]) (by kernel_rfl) rfl rfl rfl)
 refine gw_bslice1 (v := .agg #[.string sSew, .int .i64 0, .int .i64 120, .slice none 0 0, one x4]) rfl rfl rfl rfl rfl (fun x5 => ?_)
 (apply gw_d; exact w_buildP [(0, .string sShirt), (1, one x0), (2, one x1), (3, one x2), (4, one x3), (6, one x5)] (cells := #[.string sShirt, one x0, one x1, one x2, one x3, .slice none 0 0, one x5]) (by kernel_rfl) rfl rfl rfl; refine w_alloc rfl (fun _ => ?_); refine w_store_all rfl rfl rfl rfl rfl .here rfl ?_; refine gN ?_; apply gw_d; exact w_load_boxN rfl rfl rfl .here rfl; apply gw_d; exact w_buildP [(0, .int .i64 7), (5, .int .i64 10)] (cells := #[.int .i64 7, .int .i64 0, .int .i64 0, .int .i64 0, .int .i64 0, .int .i64 10]) (by kernel_rfl) rfl rfl rfl)
 refine gw_bslice1 (v := .agg #[.int .i64 7, .int .i64 0, .int .i64 0, .int .i64 0, .int .i64 0, .int .i64 10]) rfl rfl rfl rfl rfl (fun x6 => ?_)
 (skip)
 refine gw_bslice1 (v := .int .i64 0) rfl rfl rfl rfl rfl (fun x7 => ?_)
 (apply gw_d; exact w_buildP [(0, .string sAnn), (1, one x7)] (cells := #[.string sAnn, one x7]) (by kernel_rfl) rfl rfl rfl)
 refine gw_bslice1 (v := .agg #[.string sAnn, one x7]) rfl rfl rfl rfl rfl (fun x8 => ?_)
 (apply gw_d; exact w_buildP [(0, .int .i64 7), (3, .int .i64 5)] (cells := #[.int .i64 7, .int .i64 0, .int .i64 0, .int .i64 5]) (by kernel_rfl) rfl rfl rfl)
 refine gw_bslice1 (v := .agg #[.int .i64 7, .int .i64 0, .int .i64 0, .int .i64 5]) rfl rfl rfl rfl rfl (fun x9 => ?_)
 (apply gw_d; exact w_buildP [(0, .int .i64 260)] (cells := #[.int .i64 260, .int .i64 0]) (by kernel_rfl) rfl rfl rfl; apply gw_d; exact w_buildP [(0, .agg #[.string sShirt, one x0, one x1, one x2, one x3, .slice none 0 0, one x5]), (1, one x6), (2, one x8), (3, one x9), (4, .agg #[.int .i64 260, .int .i64 0])] (cells := #[.string sShirt, one x0, one x1, one x2, one x3, .slice none 0 0, one x5, one x6, one x8, one x9, .int .i64 260, .int .i64 0]) (by kernel_rfl) rfl rfl rfl)
 refine w_store_all rfl rfl rfl rfl rfl (.there (.there (.there (.there (.there (.there (.there (.there (.there (.there (.there (.there (.there (.there (.there (.there .here)))))))))))))))) rfl ?_
 (refine gO ?_; refine gR ?_)
 refine gx_retc rfl rfl .here rfl fun w s => ⟨((fun i => [x0, x1, x2, x3, x4, x5, x6, x7, x8, x9, ba, bc, bw].getD i 0), A, c), rfl, ?_⟩
 exact (St.sub (K := shopR ((fun i => [x0, x1, x2, x3, x4, x5, x6, x7, x8, x9, ba, bc, bw].getD i 0), A, c)) (.cons (.there .here) (.cons (.there .here) (.cons (.there .here) (.cons (.there .here) (.cons (.there (.there .here)) (.cons (.there (.there .here)) (.cons (.there (.there .here)) (.cons (.there (.there .here)) (.cons (.there (.there .here)) (.cons (.there (.there .here)) (.cons (.there (.there .here)) (.cons (.there (.there (.there .here))) (.cons (.there (.there (.there .here))) (.cons (.there (.there (.there .here))) .nil)))))))))))))) s).sep
def shopEdges : List Edg := [(nameE 0, [(0, 0), (10, 0)]), (nameE 1, [(10, 0), (10, 10)]), (nameE 2, [(10, 10), (0, 10)]), (nameE 3, [(0, 10), (0, 0)])]
def shopOps : List Opn := [⟨sSew, 0, 120, [], [0]⟩]
def shopSty : Sty := ⟨sShirt, [sS], [0], [⟨sFront, shopEdges, 2, [], [(0, 0), (0, 0), (0, 0), (0, 0)], [0, 0, 0, 0], false⟩], [(0, 1, false)], [], shopOps⟩
def shopBuns : List Bun := [⟨7, 0, 0, 0, 0, 10⟩]
def shopWrks : List Wrk := [⟨sAnn, [0]⟩]
def shopScns : List Scn := [⟨7, 0, 0, 5⟩]
section
variable {w0 w : World} {L : List Res} {x : (Nat → Nat) × Option Addr × Nat}
theorem line_sl {b k : Nat} (hb : w.heap[b]? = some (.cells atC 106 (0, 0))) (hk : k < 4) {p q : Int × Int} (h0 : atC[k * 2]? = some (.int .i64 p.1)) (h1 : atC[k * 2 + 1]? = some (.int .i64 p.2)) (h2 : atC[k * 2 + 2]? = some (.int .i64 q.1)) (h3 : atC[k * 2 + 3]? = some (.int .i64 q.2)) (hp : inI64 p.1 ∧ inI64 p.2) (hq : inI64 q.1 ∧ inI64 q.2) : Sl rSpot w w.heap.size (lineE b k) [p, q] := by
 have hlt : b < w.heap.size := (Array.getElem?_eq_some_iff.1 hb).1
 have hc : ∀ j u, atC[k * 2 + j]? = some u → w.cell? (((⟨b, 0, none⟩ : Addr).add (k * 2)).add j) = some u := fun j u hu => by
  rw [add_add, add_zero]
  simp only [World.cell?, hb]
  exact hu
 refine ⟨_, _, rfl, show 2 ≤ 5 - k by omega, show 5 - k ≤ maxLen by unfold maxLen; omega, fun i hi => ?_⟩
 have hi2 : i < 2 := hi
 obtain rfl | rfl : i = 0 ∨ i = 1 := by omega
 ·refine ⟨_, [.int .i64 p.1, .int .i64 p.2], rfl, by rw [add_block]; exact hlt, fun j u hu => ?_, rfl, hp⟩
  match j, hu with
  | 0, hu => injection hu with hu; subst hu; exact hc 0 _ h0
  | 1, hu => injection hu with hu; subst hu; exact hc 1 _ h1
  | j + 2, hu => cases hu
 ·refine ⟨_, [.int .i64 q.1, .int .i64 q.2], rfl, by rw [add_block]; exact hlt, fun j u hu => ?_, rfl, hq⟩
  match j, hu with
  | 0, hu => injection hu with hu; subst hu; exact hc 2 _ h2
  | 1, hu => injection hu with hu; subst hu; exact hc 3 _ h3
  | j + 2, hu => cases hu
theorem shop_edges (s : St w0 (shopR x ++ L) w) : Sl rEdge w w.heap.size (.slice x.2.1 4 x.2.2) shopEdges := by
 have hat : w.heap[x.1 10]? = some (.cells atC 106 (0, 0)) := s.drop.drop.drop.drop.drop.drop.drop.drop.drop.drop.drop.head
 refine Sl.ofOwn (R := rEdge) (el := 109) (xs := rowEd (x.1 10) 4) s.drop.drop.drop.drop.drop.drop.drop.drop.drop.drop .here rfl fun k hk => ?_
 have hk4 : k < 4 := hk
 have hi : ∀ i : Int, i = 0 ∨ i = 10 → inI64 i := fun i h => by unfold inI64; omega
 obtain rfl | rfl | rfl | rfl : k = 0 ∨ k = 1 ∨ k = 2 ∨ k = 3 := by omega
 ·exact ⟨lineE (x.1 10) 0, rfl, (show (nameE 0).size ≤ maxLen by decide), line_sl hat (by decide) (p := (0, 0)) (q := (10, 0)) rfl rfl rfl rfl ⟨hi _ (by omega), hi _ (by omega)⟩ ⟨hi _ (by omega), hi _ (by omega)⟩⟩
 ·exact ⟨lineE (x.1 10) 1, rfl, (show (nameE 1).size ≤ maxLen by decide), line_sl hat (by decide) (p := (10, 0)) (q := (10, 10)) rfl rfl rfl rfl ⟨hi _ (by omega), hi _ (by omega)⟩ ⟨hi _ (by omega), hi _ (by omega)⟩⟩
 ·exact ⟨lineE (x.1 10) 2, rfl, (show (nameE 2).size ≤ maxLen by decide), line_sl hat (by decide) (p := (10, 10)) (q := (0, 10)) rfl rfl rfl rfl ⟨hi _ (by omega), hi _ (by omega)⟩ ⟨hi _ (by omega), hi _ (by omega)⟩⟩
 ·exact ⟨lineE (x.1 10) 3, rfl, (show (nameE 3).size ≤ maxLen by decide), line_sl hat (by decide) (p := (0, 10)) (q := (0, 0)) rfl rfl rfl rfl ⟨hi _ (by omega), hi _ (by omega)⟩ ⟨hi _ (by omega), hi _ (by omega)⟩⟩
theorem shop_ops (s : St w0 (shopR x ++ L) w) : Sl rOp w w.heap.size (one (x.1 5)) shopOps := by
 have h5 : w.heap[x.1 5]? = some (.cells #[.string sSew, .int .i64 0, .int .i64 120, .slice none 0 0, one (x.1 4)] 55 (0, 0)) := s.drop.drop.drop.drop.head
 have h4 : w.heap[x.1 4]? = some (.cells #[.int .i64 0] 3 (0, 0)) := s.drop.drop.drop.drop.drop.head
 have a4 : Sl rInt w w.heap.size (one (x.1 4)) [0] := Sl.ofCells h4 rfl (by decide) (by decide) ⟨⟨rfl, inI rfl⟩, trivial⟩
 exact Sl.ofCells h5 rfl (by decide) (by decide) ⟨⟨_, _, _, _, rfl, ⟨by decide, inI rfl, inI rfl⟩, Sl.nil _ _, a4⟩, trivial⟩
theorem shop_sty (s : St w0 (shopR x ++ L) w) : StyV w w.heap.size (shopStyV x.1) shopSty := by
 have h3 : w.heap[x.1 3]? = some (.cells #[.int .i64 0, .int .i64 1, .bool false] 115 (0, 0)) := s.drop.drop.drop.drop.drop.drop.head
 have h2 : w.heap[x.1 2]? = some (.cells (pieceC x.2.1 4 x.2.2 (x.1 11) (x.1 12)) 113 (0, 0)) := s.drop.drop.drop.drop.drop.drop.drop.head
 have h1 : w.heap[x.1 1]? = some (.cells #[.int .i64 0] 3 (0, 0)) := s.drop.drop.drop.drop.drop.drop.drop.drop.head
 have h0 : w.heap[x.1 0]? = some (.cells #[.string sS] 9 (0, 0)) := s.drop.drop.drop.drop.drop.drop.drop.drop.drop.head
 have h11 : w.heap[x.1 11]? = some (.cells z8 106 (0, 0)) := s.drop.drop.drop.drop.drop.drop.drop.drop.drop.drop.drop.drop.head
 have h12 : w.heap[x.1 12]? = some (.cells z4 3 (0, 0)) := s.drop.drop.drop.drop.drop.drop.drop.drop.drop.drop.drop.drop.drop.head
 have a11 : Sl rSpot w w.heap.size (.slice (some ⟨x.1 11, 0, none⟩) 4 4) [(0, 0), (0, 0), (0, 0), (0, 0)] := Sl.ofCells h11 rfl (by decide) (by decide) ⟨⟨rfl, inI rfl, inI rfl⟩, ⟨rfl, inI rfl, inI rfl⟩, ⟨rfl, inI rfl, inI rfl⟩, ⟨rfl, inI rfl, inI rfl⟩, trivial⟩
 have a12 : Sl rInt w w.heap.size (.slice (some ⟨x.1 12, 0, none⟩) 4 4) [0, 0, 0, 0] := Sl.ofCells h12 rfl (by decide) (by decide) ⟨⟨rfl, inI rfl⟩, ⟨rfl, inI rfl⟩, ⟨rfl, inI rfl⟩, ⟨rfl, inI rfl⟩, trivial⟩
 exact ⟨_, _, _, _, _, _, _, _, _, _, _, _, rfl, (show sShirt.size ≤ maxLen by decide), Sl.ofCells h0 rfl (Nat.le_refl 1) (by decide) ⟨⟨rfl, by decide⟩, trivial⟩, Sl.ofCells h1 rfl (Nat.le_refl 1) (by decide) ⟨⟨rfl, inI rfl⟩, trivial⟩, Sl.ofCells h2 rfl (Nat.le_refl 1) (by decide) ⟨⟨_, _, _, _, _, _, _, _, rfl, ⟨by decide, inI rfl⟩, shop_edges s, Sl.nil _ _, a11, a12⟩, trivial⟩,
  Sl.ofCells h3 rfl (Nat.le_refl 1) (by decide) ⟨⟨rfl, inI rfl, inI rfl⟩, trivial⟩, Sl.nil _ _, shop_ops s⟩
theorem shop_buns (s : St w0 (shopR x ++ L) w) : Sl rBun w w.heap.size (one (x.1 6)) shopBuns := by
 have h : w.heap[x.1 6]? = some (.cells #[.int .i64 7, .int .i64 0, .int .i64 0, .int .i64 0, .int .i64 0, .int .i64 10] 44 (0, 0)) := s.drop.drop.drop.head
 exact Sl.ofCells h rfl (by decide) (by decide) ⟨⟨rfl, inI rfl, inI rfl, inI rfl⟩, trivial⟩
theorem shop_wrks (s : St w0 (shopR x ++ L) w) : Sl rWrk w w.heap.size (one (x.1 8)) shopWrks := by
 have h8 : w.heap[x.1 8]? = some (.cells #[.string sAnn, one (x.1 7)] 85 (0, 0)) := s.drop.head
 have h7 : w.heap[x.1 7]? = some (.cells #[.int .i64 0] 3 (0, 0)) := s.drop.drop.head
 have a7 : Sl rInt w w.heap.size (one (x.1 7)) [0] := Sl.ofCells h7 rfl (by decide) (by decide) ⟨⟨rfl, inI rfl⟩, trivial⟩
 exact Sl.ofCells h8 rfl (by decide) (by decide) ⟨⟨_, _, rfl, by decide, a7⟩, trivial⟩
theorem shop_scns (s : St w0 (shopR x ++ L) w) : Sl rScn w w.heap.size (one (x.1 9)) shopScns := by
 have h : w.heap[x.1 9]? = some (.cells #[.int .i64 7, .int .i64 0, .int .i64 0, .int .i64 5] 51 (0, 0)) := s.head
 exact Sl.ofCells h rfl (by decide) (by decide) ⟨⟨rfl, inI rfl, inI rfl, inI rfl, inI rfl⟩, trivial⟩
end
theorem sameInts_ok (w : World) (va vb : Value) (a b : List Int) (ha : Sl rInt w w.heap.size va a) (hb : Sl rInt w w.heap.size vb b) : Ok Tryz.prog 24 [va, vb].toArray w fun r _ => r = .bool (decide (a = b)) := by
 obtain ⟨A, c, rfl, hac, ham, hacell⟩ := ha.int
 obtain ⟨B, d, rfl, hbc, hbm, hbcell⟩ := hb.int
 refine ok_enter Tryz.func24 rfl Tryz.ntmps24 rfl ?_
 (refine gV ?_; refine gM ?_; refine gO ?_; refine gQ ?_; refine gV ?_; refine gM ?_; refine gL ?_; refine gM ?_; refine gL ?_; refine gC ?_; refine gO ?_)
 refine gc_if_dec rfl (fun h => ?_) (fun h => ?_)
 ·(refine gV ?_; refine gM ?_; refine gO ?_; refine gR ?_; refine gT ?_)
  refine gb1 (fun _ _ => ?_)
  have : ¬ a = b := fun hc => h (by rw [hc])
  simp [this]
 have hlen : a.length = b.length := by omega
 (refine gK ?_; refine gX ?_; refine gQ ?_; refine gV ?_; refine gM ?_; refine gO ?_; refine gB ?_)
 refine gc_loop (σ := Nat) [11, 12, 13, 14, 17, 18, 19, 20, 21, 22, 23, 24, 25, 4, 15, 16, 5] (fun k => [(5, .int .i64 k)]) (fun _ => []) (fun k => k ≤ a.length ∧ a.take k = b.take k) (fun k => a.length - k) 0 ⟨Nat.zero_le _, rfl⟩ ⟨rfl, trivial⟩ .nil ?_
 rintro k base ⟨hk, hI⟩
 (refine gQ ?_; refine gV ?_; (iterate 2 refine gM ?_); refine gL ?_; refine gC ?_; refine gO ?_)
 refine gc_if_dec rfl (fun h => ?_) (fun h => ?_)
 ·have hka : k < a.length := by omega
  have hkb : k < b.length := by omega
  obtain ⟨ad1, rfl, hb1, hce1, _⟩ := hacell k hka
  obtain ⟨ad2, rfl, hb2, hce2, _⟩ := hbcell k hkb
  (refine gK ?_; refine gX ?_; refine gQ ?_; refine gB ?_; refine gQ ?_)
  refine gc_draw 9 (by kernel_rfl) (by kernel_rfl) ?_
  ((iterate 2 refine dM ?_); apply gd_d; exact w_index rfl rfl rfl rfl (by with_reducible exact rfl) (by omega); apply gd_d; exact w_load_at rfl rfl rfl (by assumption) (by assumption); (iterate 2 refine dM ?_); apply gd_d; exact w_index rfl rfl rfl rfl (by with_reducible exact rfl) (by omega); apply gd_d; exact w_load_at rfl rfl rfl (by assumption) (by assumption); apply gd_d; exact det_cmp rfl rfl rfl rfl rfl; refine gd_nil ?_; refine gO ?_)
  refine gc_if_dec rfl (fun h3 => ?_) (fun h3 => ?_)
  ·(refine gV ?_; refine gM ?_; refine gO ?_; refine gR ?_; refine gY ?_; (iterate 2 refine gT ?_); refine gY ?_; refine gT ?_)
   refine gb1 (fun _ _ => ?_)
   have : ¬ a = b := fun hc => h3 (by subst hc; rfl)
   simp [this]
  ·(refine gK ?_; refine gH ?_; refine gX ?_; refine gG ?_; refine gM ?_; refine gA ?_; refine gM ?_; refine gw_nil ?_)
   refine gx_round (k + 1) ⟨hka, ?_⟩ (by omega) kK ⟨rfl, trivial⟩ .nil
   have h4 := Classical.not_not.1 h3
   rw [List.take_succ_eq_append_getElem hka, List.take_succ_eq_append_getElem hkb, hI, h4]
 ·obtain rfl : k = a.length := by omega
  rw [List.take_length, List.take_of_length_le (by omega)] at hI
  (refine gI ?_; (iterate 2 refine gZ ?_); refine gJ ?_; refine gX ?_; refine gV ?_; refine gM ?_; refine gO ?_; refine gR ?_)
  refine gb1 (fun _ _ => ?_)
  simp [hI]
theorem same58_ok (w : World) (va vb : Value) (a b : List Chg) (ha : Sl rChg w w.heap.size va a) (hb : Sl rChg w w.heap.size vb b) : Ok Tryz.prog 23 [va, vb].toArray w fun r _ => r = .bool (decide (a = b)) := by
 obtain ⟨A, c, rfl, hac, ham, hacell⟩ := ha.chg
 obtain ⟨B, d, rfl, hbc, hbm, hbcell⟩ := hb.chg
 refine ok_enter Tryz.func23 rfl Tryz.ntmps23 rfl ?_
 (refine gV ?_; refine gM ?_; refine gO ?_; refine gQ ?_; refine gV ?_; refine gM ?_; refine gL ?_; refine gM ?_; refine gL ?_; refine gC ?_; refine gO ?_)
 refine gc_if_dec rfl (fun h => ?_) (fun h => ?_)
 ·(refine gV ?_; refine gM ?_; refine gO ?_; refine gR ?_; refine gT ?_)
  refine gb1 (fun _ _ => ?_)
  have : ¬ a = b := fun hc => h (by rw [hc])
  simp [this]
 have hlen : a.length = b.length := by omega
 (refine gK ?_; refine gX ?_; refine gQ ?_; refine gV ?_; refine gM ?_; refine gO ?_; refine gB ?_)
 refine gc_loop (σ := Nat) [11, 12, 13, 14, 17, 18, 19, 20, 21, 22, 23, 24, 25, 4, 15, 16, 5] (fun k => [(5, .int .i64 k)]) (fun _ => []) (fun k => k ≤ a.length ∧ a.take k = b.take k) (fun k => a.length - k) 0 ⟨Nat.zero_le _, rfl⟩ ⟨rfl, trivial⟩ .nil ?_
 rintro k base ⟨hk, hI⟩
 (refine gQ ?_; refine gV ?_; (iterate 2 refine gM ?_); refine gL ?_; refine gC ?_; refine gO ?_)
 refine gc_if_dec rfl (fun h => ?_) (fun h => ?_)
 ·have hka : k < a.length := by omega
  have hkb : k < b.length := by omega
  obtain ⟨ad1, rfl, hb1, hce1, _⟩ := hacell k hka
  obtain ⟨ad2, rfl, hb2, hce2, _⟩ := hbcell k hkb
  (refine gK ?_; refine gX ?_; refine gQ ?_; refine gB ?_; refine gQ ?_)
  refine gc_draw 9 (by kernel_rfl) (by kernel_rfl) ?_
  ((iterate 2 refine dM ?_); apply gd_d; exact w_index rfl rfl rfl rfl (by with_reducible exact rfl) (by omega); apply gd_d; exact w_load_elem rfl rfl rfl (by assumption) (by assumption) (by rfl); (iterate 2 refine dM ?_); apply gd_d; exact w_index rfl rfl rfl rfl (by with_reducible exact rfl) (by omega); apply gd_d; exact w_load_elem rfl rfl rfl (by assumption) (by assumption) (by rfl); apply gd_d; exact w_nes (xs := [a[k].who, a[k].tick, a[k].ply, a[k].op, a[k].amt]) (ys := [b[k].who, b[k].tick, b[k].ply, b[k].op, b[k].amt]) rfl rfl rfl rfl rfl rfl; refine gd_nil ?_; refine gO ?_)
  refine gc_if_dec rfl (fun h3 => ?_) (fun h3 => ?_)
  ·(refine gV ?_; refine gM ?_; refine gO ?_; refine gR ?_; refine gY ?_; (iterate 2 refine gT ?_); refine gY ?_; refine gT ?_)
   refine gb1 (fun _ _ => ?_)
   have : ¬ a = b := fun hc => h3 (by subst hc; rfl)
   simp [this]
  ·(refine gK ?_; refine gH ?_; refine gX ?_; refine gG ?_; refine gM ?_; refine gA ?_; refine gM ?_; refine gw_nil ?_)
   refine gx_round (k + 1) ⟨hka, ?_⟩ (by omega) kK ⟨rfl, trivial⟩ .nil
   have h4 := Classical.not_not.1 h3
   have h5 : a[k] = b[k] := by
    simp only [List.cons.injEq, and_true] at h4
    cases ha5 : a[k]; cases hb5 : b[k]
    rw [ha5, hb5] at h4
    simp only at h4
    obtain ⟨q1, q2, q3, q4, q5⟩ := h4
    rw [q1, q2, q3, q4, q5]
   rw [List.take_succ_eq_append_getElem hka, List.take_succ_eq_append_getElem hkb, hI, h5]
 ·obtain rfl : k = a.length := by omega
  rw [List.take_length, List.take_of_length_le (by omega)] at hI
  (refine gI ?_; (iterate 2 refine gZ ?_); refine gJ ?_; refine gX ?_; refine gV ?_; refine gM ?_; refine gO ?_; refine gR ?_)
  refine gb1 (fun _ _ => ?_)
  simp [hI]
theorem light21_ok (w : World) (p : Pc) (Ae An Ac Aw : Option Addr) (ce cn cc cw : Nat) (hl : Sl rEdge w w.heap.size (.slice Ae p.edges.length ce) p.edges) :
  OkM Tryz.prog 49 [.agg #[.string p.name, .slice Ae p.edges.length ce, .int .i64 p.grain, .slice An p.notches.length cn, .slice Ac p.corners.length cc, .slice Aw p.widths.length cw, .bool p.mt], .int .i64 80].toArray w (fun b : Bool => .bool b) (fun _ => []) := by
 obtain ⟨_, _, hv, hlc, hlm⟩ := len_small hl
 injection hv with e1 e2 e3
 subst e1 e3
 unfold OkM
 refine ok_enter Tryz.func49 rfl Tryz.ntmps49 rfl ?_
 focus (refine gV ?_; refine gw_boxd (v := .agg _) rfl rfl (fun _ => ?_); refine gM ?_; refine gO ?_; refine gQ ?_; refine gV ?_; refine gF ?_; refine gW .here ?_; refine gL ?_; refine gC ?_; refine gM ?_; refine gD (fun _ => ?_) (fun _ => ?_); (iterate 4 refine gU ?_); refine gPp ?_; refine gM ?_; (iterate 4 refine gU ?_); refine gPp ?_; refine gM ?_; (iterate 4 refine gU ?_); refine gPp ?_; refine gO ?_; refine gc_if_true rfl ?_; refine gV ?_; refine gM ?_; refine gO ?_; refine gR ?_; refine gT ?_; rotate_left; refine gF ?_; refine gW .here ?_; refine gL ?_; refine gC ?_; refine gPq ?_; refine gM ?_; refine gD (fun _ => ?_) (fun _ => ?_); (iterate 4 refine gU ?_); refine gPp ?_; refine gM ?_; (iterate 4 refine gU ?_); refine gPp ?_; refine gO ?_; refine gc_if_true rfl ?_; refine gV ?_; refine gM ?_; refine gO ?_; refine gR ?_; refine gT ?_; rotate_left; refine gF ?_; refine gW .here ?_; refine gL ?_; refine gC ?_; refine gPq ?_; refine gM ?_; refine gD (fun _ => ?_) (fun _ => ?_); (iterate 4 refine gU ?_); refine gPp ?_; refine gO ?_; refine gc_if_true rfl ?_; refine gV ?_; refine gM ?_; refine gO ?_; refine gR ?_; refine gT ?_; rotate_left; refine gF ?_; refine gW .here ?_; refine gL ?_; refine gC ?_; refine gPq ?_; refine gO ?_; refine gc_if_dec rfl (fun _ => ?_) (fun _ => ?_); refine gV ?_; refine gM ?_; refine gO ?_; refine gR ?_; refine gT ?_; rotate_left; refine gK ?_; refine gX ?_; refine gV ?_; refine gM ?_; refine gO ?_; refine gQ ?_; refine gV ?_; refine gM ?_; refine gO ?_; refine gB ?_; rotate_left)
 all_goals first | exact gx_ret1 (v := .bool _) rfl rfl (fun _ _ => ⟨_, rfl, trivial⟩) | skip
 refine gc_loopK (σ := Nat × Nat) [29, 30, 31, 32, 33, 36, 37, 38, 39, 40, 41, 42, 43, 44, 45, 46, 47, 48, 49, 50, 51, 52, 53, 54, 4, 55, 56, 57, 58, 59, 60, 61, 62, 63, 5, 34, 35, 6] (fun x => [(6, .int .i64 x.1), (5, .int .i64 x.2)]) (fun x => x.1 ≤ p.edges.length ∧ x.2 ≤ 80 * x.1) (fun x => p.edges.length - x.1) (0, 0) ⟨Nat.zero_le _, Nat.zero_le _⟩ ⟨rfl, rfl, trivial⟩ ?_
 rintro ⟨k, n⟩ base ⟨hk, hn⟩
 dsimp only at hk hn ⊢
 (refine gQ ?_; refine gV ?_; refine gM ?_; refine gF ?_; refine gW .here ?_; refine gL ?_; refine gC ?_; refine gO ?_)
 refine gc_if_dec rfl (fun h => ?_) (fun h => ?_)
 ·have hlt : k < p.edges.length := by omega
  obtain ⟨ad, _, hv, _, _, hb, hcell⟩ := hl.at' 2 rfl (by omega)
  injection hv with e1 e2 e3
  subst e1 e3
  obtain ⟨cs, hce, v2, rfl, hnm, A2, c2, rfl, h21, h22, _⟩ := hcell k hlt
  have hce0 := hce 0 _ rfl
  have hce1 := hce 1 _ rfl
  focus (refine gK ?_; refine gX ?_; refine gQ ?_; refine gB ?_; refine gQ ?_; refine gV ?_; refine gF ?_; refine gW .here ?_; refine gM ?_; apply gw_d; exact w_index rfl rfl rfl rfl (by with_reducible exact rfl) (by omega); refine gF ?_; apply gw_d; exact w_load_fld rfl rfl rfl (by assumption) (by assumption); refine gL ?_; refine gM ?_; refine gC ?_; refine gM ?_; refine gD (fun _ => ?_) (fun _ => ?_); (iterate 8 refine gU ?_); refine gPp ?_; refine gO ?_; refine gc_if_true rfl ?_; refine gV ?_; refine gM ?_; refine gO ?_; refine gR ?_; refine gT ?_; refine gY ?_; (iterate 2 refine gT ?_); refine gY ?_; refine gT ?_; rotate_left; refine gF ?_; refine gW .here ?_; refine gM ?_; apply gw_d; exact w_index rfl rfl rfl rfl (by with_reducible exact rfl) (by omega); refine gF ?_; apply gw_d; exact w_load_fld rfl rfl rfl (by assumption) (by assumption); apply gw_d; exact w_len_str rfl rfl rfl; refine gC ?_; refine gPq ?_; refine gO ?_; refine gc_if_dec rfl (fun _ => ?_) (fun _ => ?_); refine gV ?_; refine gM ?_; refine gO ?_; refine gR ?_; refine gT ?_; refine gY ?_; (iterate 2 refine gT ?_); refine gY ?_; refine gT ?_; rotate_left; refine gK ?_; refine gX ?_; refine gG ?_; refine gM ?_; refine gF ?_; refine gW .here ?_; refine gM ?_; apply gw_d; exact w_index rfl rfl rfl rfl (by with_reducible exact rfl) (by omega); refine gF ?_; apply gw_d; exact w_load_fld rfl rfl rfl (by assumption) (by assumption); refine gL ?_; refine gA ?_; refine gM ?_; refine gw_nil ?_; refine gH ?_; refine gX ?_; refine gG ?_; refine gM ?_; refine gA ?_; refine gM ?_; refine gw_nil ?_; rotate_left)
  all_goals first | exact gx_ret1 (v := .bool _) rfl rfl (fun _ _ => ⟨_, rfl, trivial⟩) | skip
  exact gx_round (k + 1, n + p.edges[k].2.length) ⟨by omega, by dsimp only; omega⟩ (by dsimp only; omega) kK ⟨rfl, congrArg (Value.int .i64) (Int.natCast_add n _).symm, trivial⟩ (Sub.all _)
 ·(refine gI ?_; (iterate 2 refine gZ ?_); refine gJ ?_; refine gX ?_; refine gV ?_; (iterate 2 refine gM ?_); refine gC ?_; refine gM ?_; refine gO ?_; refine gR ?_)
  exact gx_ret1 (v := .bool _) rfl rfl (fun _ _ => ⟨_, rfl, trivial⟩)

theorem light_ok (w : World) (v : Value) (s : Sty) (hs : StyV w w.heap.size v s) : OkM Tryz.prog 37 [v].toArray w (fun b : Bool => .bool b) (fun _ => []) := by
 obtain ⟨As, cs, Am, cm, Ap, cp, Au, cu, Ae, ce, Ao, co, rfl, hnm, h1, h2, h3, h4, h5, h6⟩ := hs
 obtain ⟨_, _, hv, hsc, hsm, hscell⟩ := h1.str'
 injection hv with e1 e2 e3
 subst e1 e3
 obtain ⟨_, _, hv, hpc, hpm⟩ := len_small h3
 injection hv with e1 e2 e3
 subst e1 e3
 unfold OkM
 refine ok_enter Tryz.func37 rfl Tryz.ntmps37 rfl ?_
 focus (refine gV ?_; refine gw_boxd (v := .agg _) rfl rfl (fun _ => ?_); refine gM ?_; refine gO ?_; refine gQ ?_; refine gV ?_; refine gF ?_; refine gW .here ?_; apply gw_d; exact w_len_str rfl rfl rfl; refine gC ?_; refine gM ?_; refine gD (fun _ => ?_) (fun _ => ?_); (iterate 4 refine gU ?_); refine gPp ?_; refine gM ?_; (iterate 4 refine gU ?_); refine gPp ?_; refine gM ?_; (iterate 4 refine gU ?_); refine gPp ?_; refine gM ?_; (iterate 4 refine gU ?_); refine gPp ?_; refine gM ?_; (iterate 4 refine gU ?_); refine gPp ?_; refine gM ?_; (iterate 4 refine gU ?_); refine gPp ?_; refine gO ?_; refine gc_if_true rfl ?_; refine gV ?_; refine gM ?_; refine gO ?_; refine gR ?_; refine gT ?_; rotate_left; refine gF ?_; refine gW .here ?_; refine gL ?_; refine gC ?_; refine gPq ?_; refine gM ?_; refine gD (fun _ => ?_) (fun _ => ?_); (iterate 4 refine gU ?_); refine gPp ?_; refine gM ?_; (iterate 4 refine gU ?_); refine gPp ?_; refine gM ?_; (iterate 4 refine gU ?_); refine gPp ?_; refine gM ?_; (iterate 4 refine gU ?_); refine gPp ?_; refine gM ?_; (iterate 4 refine gU ?_); refine gPp ?_; refine gO ?_; refine gc_if_true rfl ?_; refine gV ?_; refine gM ?_; refine gO ?_; refine gR ?_; refine gT ?_; rotate_left; refine gF ?_; refine gW .here ?_; refine gL ?_; refine gC ?_; refine gPq ?_; refine gM ?_; refine gD (fun _ => ?_) (fun _ => ?_); (iterate 4 refine gU ?_); refine gPp ?_; refine gM ?_; (iterate 4 refine gU ?_); refine gPp ?_; refine gM ?_; (iterate 4 refine gU ?_); refine gPp ?_; refine gM ?_; (iterate 4 refine gU ?_); refine gPp ?_; refine gO ?_; refine gc_if_true rfl ?_; refine gV ?_; refine gM ?_; refine gO ?_; refine gR ?_; refine gT ?_; rotate_left; refine gF ?_; refine gW .here ?_; refine gL ?_; refine gC ?_; refine gPq ?_; refine gM ?_; refine gD (fun _ => ?_) (fun _ => ?_); (iterate 4 refine gU ?_); refine gPp ?_; refine gM ?_; (iterate 4 refine gU ?_); refine gPp ?_; refine gM ?_; (iterate 4 refine gU ?_); refine gPp ?_; refine gO ?_; refine gc_if_true rfl ?_; refine gV ?_; refine gM ?_; refine gO ?_; refine gR ?_; refine gT ?_; rotate_left; refine gF ?_; refine gW .here ?_; refine gL ?_; refine gC ?_; refine gPq ?_; refine gM ?_; refine gD (fun _ => ?_) (fun _ => ?_); (iterate 4 refine gU ?_); refine gPp ?_; refine gM ?_; (iterate 4 refine gU ?_); refine gPp ?_; refine gO ?_; refine gc_if_true rfl ?_; refine gV ?_; refine gM ?_; refine gO ?_; refine gR ?_; refine gT ?_; rotate_left; refine gF ?_; refine gW .here ?_; refine gL ?_; refine gC ?_; refine gPq ?_; refine gM ?_; refine gD (fun _ => ?_) (fun _ => ?_); (iterate 4 refine gU ?_); refine gPp ?_; refine gO ?_; refine gc_if_true rfl ?_; refine gV ?_; refine gM ?_; refine gO ?_; refine gR ?_; refine gT ?_; rotate_left; refine gF ?_; refine gW .here ?_; refine gL ?_; refine gC ?_; refine gPq ?_; refine gO ?_; refine gc_if_dec rfl (fun _ => ?_) (fun _ => ?_); refine gV ?_; refine gM ?_; refine gO ?_; refine gR ?_; refine gT ?_; rotate_left; refine gK ?_; refine gX ?_; refine gQ ?_; refine gV ?_; refine gM ?_; refine gO ?_; refine gB ?_; rotate_left)
 all_goals first | exact gx_ret1 (v := .bool _) rfl rfl (fun _ _ => ⟨_, rfl, trivial⟩) | skip
 refine gc_loopK (σ := Nat) [45, 46, 47, 48, 49, 52, 53, 54, 55, 56, 57, 58, 2, 50, 51, 3] (fun k => [(3, .int .i64 k)]) (fun k => k ≤ s.sizes.length) (fun k => s.sizes.length - k) 0 (Nat.zero_le _) ⟨rfl, trivial⟩ ?_
 rintro k base hk
 (refine gQ ?_; refine gV ?_; refine gM ?_; refine gF ?_; refine gW .here ?_; refine gL ?_; refine gC ?_; refine gO ?_)
 refine gc_if_dec rfl (fun h => ?_) (fun h => ?_)
 ·have hlt : k < s.sizes.length := by omega
  obtain ⟨ad, rfl, hb, hce, _⟩ := hscell k hlt
  focus (refine gK ?_; refine gX ?_; refine gQ ?_; refine gB ?_; refine gV ?_; refine gF ?_; refine gW .here ?_; refine gM ?_; apply gw_d; exact w_index rfl rfl rfl rfl (by with_reducible exact rfl) (by omega); apply gw_d; exact w_load_at rfl rfl rfl (by assumption) (by assumption); apply gw_d; exact w_len_str rfl rfl rfl; refine gC ?_; refine gO ?_; refine gc_if_dec rfl (fun _ => ?_) (fun _ => ?_); refine gV ?_; refine gM ?_; refine gO ?_; refine gR ?_; refine gY ?_; (iterate 2 refine gT ?_); refine gY ?_; refine gT ?_; rotate_left; refine gK ?_; refine gH ?_; refine gX ?_; refine gG ?_; refine gM ?_; refine gA ?_; refine gM ?_; refine gw_nil ?_; rotate_left)
  all_goals first | exact gx_ret1 (v := .bool _) rfl rfl (fun _ _ => ⟨_, rfl, trivial⟩) | skip
  exact gx_round (k + 1) (by omega) (by omega) kK ⟨rfl, trivial⟩ (Sub.all _)
 (refine gI ?_; (iterate 2 refine gZ ?_); refine gJ ?_; refine gX ?_; refine gQ ?_; refine gV ?_; refine gM ?_; refine gO ?_; refine gB ?_)
 refine gc_loopK (σ := Nat) [59, 60, 61, 62, 63, 66, 67, 68, 69, 70, 71, 72, 73, 74, 75, 76, 77, 78, 79, 80, 81, 82, 2, 64, 65, 4] (fun k => [(4, .int .i64 k)]) (fun k => k ≤ s.pieces.length) (fun k => s.pieces.length - k) 0 (Nat.zero_le _) ⟨rfl, trivial⟩ ?_
 rintro k2 base2 hk2
 (refine gQ ?_; refine gV ?_; refine gM ?_; refine gF ?_; refine gW .here ?_; refine gL ?_; refine gC ?_; refine gO ?_)
 refine gc_if_dec rfl (fun h => ?_) (fun h => ?_)
 ·have hlt : k2 < s.pieces.length := by omega
  obtain ⟨ad, _, hv, _, _, hb, hcell⟩ := h3.at' 7 rfl (by omega)
  injection hv with e1 e2 e3
  subst e1 e3
  obtain ⟨cs', hce, Ae', ce', An', cn', Ac', cc', Aw', cw', rfl, ⟨q1, _⟩, q2, q3, q4, q5⟩ := hcell k2 hlt
  have hce0 := hce 0 _ rfl
  have q2' : Sl rEdge w w.heap.size (.slice Ae' s.pieces[k2].edges.length ce') s.pieces[k2].edges := q2
  focus (refine gK ?_; refine gX ?_; refine gQ ?_; refine gB ?_; refine gV ?_; refine gF ?_; refine gW .here ?_; refine gM ?_; apply gw_d; exact w_index rfl rfl rfl rfl (by with_reducible exact rfl) (by omega); refine gF ?_; apply gw_d; exact w_load_fld rfl rfl rfl (by assumption) (by assumption); apply gw_d; exact w_len_str rfl rfl rfl; refine gC ?_; refine gM ?_; refine gD (fun _ => ?_) (fun _ => ?_); (iterate 7 refine gU ?_); refine gPp ?_; refine gO ?_; refine gc_if_true rfl ?_; refine gV ?_; refine gM ?_; refine gO ?_; refine gR ?_; refine gY ?_; (iterate 2 refine gT ?_); refine gY ?_; refine gT ?_; rotate_left; refine gF ?_; refine gW .here ?_; refine gM ?_; apply gw_d; exact w_index rfl rfl rfl rfl (by with_reducible exact rfl) (by omega); apply gw_d; exact w_load_elem rfl rfl rfl (by assumption) (by assumption) (by rfl); rotate_left)
  all_goals first | exact gx_ret1 (v := .bool _) rfl rfl (fun _ _ => ⟨_, rfl, trivial⟩) | skip
  have hC : ∀ (L : List Res) (w' : World), St w L w' → OkM Tryz.prog 49 [.agg #[.string s.pieces[k2].name, .slice Ae' s.pieces[k2].edges.length ce', .int .i64 s.pieces[k2].grain, .slice An' s.pieces[k2].notches.length cn', .slice Ac' s.pieces[k2].corners.length cc', .slice Aw' s.pieces[k2].widths.length cw', .bool s.pieces[k2].mt], .int .i64 80].toArray w' (fun b : Bool => .bool b) (fun _ => []) := fun L w' s' => light21_ok w' s.pieces[k2] Ae' An' Ac' Aw' ce' cn' cc' cw' (q2'.later s')
  (skip)
  refine gw_callm rfl (hC _) rfl (fun b => ?_)
  focus (apply gw_d; exact det_not_ rfl rfl rfl; refine gPq ?_; refine gO ?_; refine gc_if rfl (fun _ => ?_) (fun _ => ?_); refine gV ?_; refine gM ?_; refine gO ?_; refine gR ?_; refine gY ?_; (iterate 2 refine gT ?_); refine gY ?_; refine gT ?_; rotate_left; refine gK ?_; refine gH ?_; refine gX ?_; refine gG ?_; refine gM ?_; refine gA ?_; refine gM ?_; refine gw_nil ?_; rotate_left)
  all_goals first | exact gx_ret1 (v := .bool _) rfl rfl (fun _ _ => ⟨_, rfl, trivial⟩) | skip
  exact gx_round (k2 + 1) (by omega) (by omega) kK ⟨rfl, trivial⟩ (Sub.all _)
 ·(refine gI ?_; (iterate 2 refine gZ ?_); refine gJ ?_; refine gX ?_; refine gV ?_; refine gM ?_; refine gO ?_; refine gR ?_)
  exact gx_ret1 (v := .bool _) rfl rfl (fun _ _ => ⟨_, rfl, trivial⟩)
section
variable {w : World} {v0 v1 v2 v3 v4 v5 v6 vb vw vx vl : Value} {r le : Int} {s : Sty} {bs : List Bun} {ws : List Wrk} {xs : List Scn} {l : List Ret}
theorem charges_bad (hL : Lay w) (hs : StyV w w.heap.size (.agg #[v0, v1, v2, v3, v4, v5, v6]) s) (hb : Sl rBun w w.heap.size vb bs) (hw : Sl rWrk w w.heap.size vw ws) (hx : Sl rScn w w.heap.size vx xs) (hl : Sl rRet w w.heap.size vl l) (he : ¬ chgErr r le (opCheckE s plE) bs ws xs.length l.length = 0) :
  Ok Tryz.prog 21 [.agg #[v0, v1, v2, v3, v4, v5, v6, vb, vw, vx, .int .i64 r, .int .i64 le], vl].toArray w fun x _ => x = .tuple #[.slice none 0 0, .slice none 0 0, .int .i64 (chgErr r le (opCheckE s plE) bs ws xs.length l.length)] := by
 have hC : ∀ (L : List Res) (w' : World), St w L w' → Ok Tryz.prog 10 [.agg #[v0, v1, v2, v3, v4, v5, v6], vb, vw, vx, .agg #[.int .i64 r, .int .i64 le], vl].toArray w' fun x _ => x = .tuple #[.slice none 0 0, .slice none 0 0, .int .i64 (chgErr r le (opCheckE s plE) bs ws xs.length l.length)] := fun L w' s' => Charges_bad (hL.later s') (StyV.later s' hs) (hb.later s') (hw.later s') (hx.later s') (hl.later s') he
 refine ok_enter Tryz.func21 rfl Tryz.ntmps21 rfl ?_
 (refine gV ?_; refine gw_boxd (v := .agg _) rfl rfl (fun _ => ?_); (iterate 3 refine gM ?_); refine gN ?_; refine gF ?_; apply gw_d; exact w_load_part rfl rfl rfl .here rfl rfl; refine gF ?_; refine gW .here ?_; refine gF ?_; refine gW .here ?_; refine gF ?_; refine gW .here ?_; refine gF ?_; apply gw_d; exact w_load_part rfl rfl rfl .here rfl rfl; refine gM ?_; apply gw_d; exact w_call rfl rfl (hC _) rfl; apply gw_d; exact det_extract rfl rfl rfl (by conv => (lhs; whnf)); apply gw_d; exact det_extract rfl rfl rfl (by conv => (lhs; whnf)); apply gw_d; exact det_extract rfl rfl rfl (by conv => (lhs; whnf)); (iterate 3 refine gM ?_); refine gO ?_; refine gR ?_)
 refine gx_ret3 (u := .slice _ _ _) (v := .slice _ _ _) (x := .int _ _) rfl rfl rfl rfl (fun _ _ => ?_)
 rfl
theorem charges_ok (hL : Lay w) (hs : StyV w w.heap.size (.agg #[v0, v1, v2, v3, v4, v5, v6]) s) (hb : Sl rBun w w.heap.size vb bs) (hw : Sl rWrk w w.heap.size vw ws) (hx : Sl rScn w w.heap.size vx xs) (hl : Sl rRet w w.heap.size vl l) (he : chgErr r le (opCheckE s plE) bs ws xs.length l.length = 0) :
  OkM Tryz.prog 21 [.agg #[v0, v1, v2, v3, v4, v5, v6, vb, vw, vx, .int .i64 r, .int .i64 le], vl].toArray w
   (fun x : (Option Addr × Nat) × Nat => .tuple #[.slice x.1.1 (chgL r le s.ops bs (paidL s.ops ws (ticks bs) xs) l).length x.1.2, .slice (some ⟨x.2, 0, none⟩) l.length l.length, .int .i64 0])
   (fun x => [Own x.1.1 (chgL r le s.ops bs (paidL s.ops ws (ticks bs) xs) l).length x.1.2 57 5 ((chgL r le s.ops bs (paidL s.ops ws (ticks bs) xs) l).flatMap encC), Box x.2 3 ((outsR (okR s.ops.length bs (paidL s.ops ws (ticks bs) xs)) [] l).map (Value.int .i64)).toArray]) := by
 have hC := fun (L : List Res) (w' : World) (s' : St w L w') => Charges_ok (hL.later s') (StyV.later s' hs) (hb.later s') (hw.later s') (hx.later s') (hl.later s') he
 generalize chgL r le s.ops bs (paidL s.ops ws (ticks bs) xs) l = cl at hC ⊢
 generalize outsR (okR s.ops.length bs (paidL s.ops ws (ticks bs) xs)) [] l = ol at hC ⊢
 unfold OkM
 refine ok_enter Tryz.func21 rfl Tryz.ntmps21 rfl ?_
 (refine gV ?_; refine gw_boxd (v := .agg _) rfl rfl (fun _ => ?_); (iterate 3 refine gM ?_); refine gN ?_; refine gF ?_; apply gw_d; exact w_load_part rfl rfl rfl .here rfl rfl; refine gF ?_; refine gW .here ?_; refine gF ?_; refine gW .here ?_; refine gF ?_; refine gW .here ?_; refine gF ?_; apply gw_d; exact w_load_part rfl rfl rfl .here rfl rfl; refine gM ?_)
 refine gw_callm rfl (hC _) rfl (fun x => ?_)
 obtain ⟨⟨A, ca⟩, bo⟩ := x
 (apply gw_d; exact det_extract rfl rfl rfl (by conv => (lhs; whnf)); apply gw_d; exact det_extract rfl rfl rfl (by conv => (lhs; whnf)); apply gw_d; exact det_extract rfl rfl rfl (by conv => (lhs; whnf)); (iterate 3 refine gM ?_); refine gO ?_; refine gR ?_)
 exact gx_ret3 (u := .slice _ _ _) (v := .slice _ _ _) (x := .int _ _) rfl rfl rfl rfl (fun w' s' => ⟨((A, ca), bo), rfl, (St.sub (K := [Own A cl.length ca 57 5 (cl.flatMap encC), Box bo 3 (ol.map (Value.int .i64)).toArray]) (.cons .here (.cons .here .nil)) s').sep⟩)
end

theorem light58_ok (w : World) (v : Value) (c : Shp) (hc : ShopV w v c) : OkM Tryz.prog 17 [v].toArray w (fun b : Bool => .bool b) (fun _ => []) := by
 obtain ⟨v0, v1, v2, v3, v4, v5, v6, vb, vw, vx, rfl, hs, hb, hw, hx⟩ := hc
 have h6 := sty_ops hs
 obtain ⟨Al, cl, rfl, hlc, hlm⟩ := len_small h6
 obtain ⟨Ab, cb, rfl, hbc, hbm⟩ := len_small hb
 obtain ⟨Aw, cw, rfl, hwc, hwm⟩ := len_small hw
 obtain ⟨Ax, cx, rfl, hxc, hxm⟩ := len_small hx
 have hS : ∀ (L : List Res) (w' : World), St w L w' → OkM Tryz.prog 37 [.agg #[v0, v1, v2, v3, v4, v5, .slice Al c.sty.ops.length cl]].toArray w' (fun b : Bool => .bool b) (fun _ => []) := fun L w' s' => light_ok w' _ c.sty (StyV.later s' hs)
 unfold OkM
 refine ok_enter Tryz.func17 rfl Tryz.ntmps17 rfl ?_
 (refine gV ?_; refine gw_boxd (v := .agg _) rfl rfl (fun _ => ?_); refine gM ?_; refine gO ?_; refine gQ ?_; refine gV ?_; refine gF ?_; apply gw_d; exact w_load_part rfl rfl rfl .here rfl rfl)
 refine gw_callm rfl (hS _) rfl (fun b => ?_)
 focus (apply gw_d; exact det_not_ rfl rfl rfl; refine gM ?_; refine gw_guard rfl rfl (fun _ => ?_) (fun _ => ?_); (iterate 4 refine gU ?_); refine gPp ?_; refine gM ?_; (iterate 4 refine gU ?_); refine gPp ?_; refine gM ?_; (iterate 4 refine gU ?_); refine gPp ?_; refine gO ?_; refine gc_if_true rfl ?_; refine gV ?_; refine gM ?_; refine gO ?_; refine gR ?_; refine gT ?_; rotate_left; refine gF ?_; refine gW .here ?_; refine gL ?_; refine gC ?_; refine gPq ?_; refine gM ?_; refine gD (fun _ => ?_) (fun _ => ?_); (iterate 4 refine gU ?_); refine gPp ?_; refine gM ?_; (iterate 4 refine gU ?_); refine gPp ?_; refine gO ?_; refine gc_if_true rfl ?_; refine gV ?_; refine gM ?_; refine gO ?_; refine gR ?_; refine gT ?_; rotate_left; refine gF ?_; refine gW .here ?_; refine gL ?_; refine gC ?_; refine gPq ?_; refine gM ?_; refine gD (fun _ => ?_) (fun _ => ?_); (iterate 4 refine gU ?_); refine gPp ?_; refine gO ?_; refine gc_if_true rfl ?_; refine gV ?_; refine gM ?_; refine gO ?_; refine gR ?_; refine gT ?_; rotate_left; refine gF ?_; refine gW .here ?_; refine gL ?_; refine gC ?_; refine gPq ?_; refine gO ?_; refine gc_if_dec rfl (fun _ => ?_) (fun _ => ?_); refine gV ?_; refine gM ?_; refine gO ?_; refine gR ?_; refine gT ?_; rotate_left; refine gK ?_; refine gX ?_; refine gQ ?_; refine gV ?_; refine gM ?_; refine gO ?_; refine gB ?_; rotate_left)
 all_goals first | exact gx_ret1 (v := .bool _) rfl rfl (fun _ _ => ⟨_, rfl, trivial⟩) | skip
 refine gc_loopK (σ := Nat) [27, 28, 29, 30, 31, 34, 35, 36, 37, 38, 39, 40, 41, 42, 43, 44, 45, 46, 47, 48, 49, 50, 51, 2, 32, 33, 3] (fun k => [(3, .int .i64 k)]) (fun k => k ≤ c.ws.length) (fun k => c.ws.length - k) 0 (Nat.zero_le _) ⟨rfl, trivial⟩ ?_
 rintro k base hk
 (refine gQ ?_; refine gV ?_; refine gM ?_; refine gF ?_; refine gW .here ?_; refine gL ?_; refine gC ?_; refine gO ?_)
 refine gc_if_dec rfl (fun h => ?_) (fun h => ?_)
 ·have hlt : k < c.ws.length := by omega
  obtain ⟨ad, _, hv, _, _, hb1, hcell⟩ := hw.at' 2 rfl (by omega)
  injection hv with e1 e2 e3
  subst e1 e3
  obtain ⟨cs', hce, A1, c1, rfl, hn1, q1⟩ := hcell k hlt
  have hce0 := hce 0 _ rfl
  have hce1 := hce 1 _ rfl
  focus (refine gK ?_; refine gX ?_; refine gQ ?_; refine gB ?_; refine gV ?_; refine gF ?_; refine gW .here ?_; refine gM ?_; apply gw_d; exact w_index rfl rfl rfl rfl (by with_reducible exact rfl) (by omega); refine gF ?_; apply gw_d; exact w_load_fld rfl rfl rfl (by assumption) (by assumption); refine gL ?_; refine gC ?_; refine gM ?_; refine gD (fun _ => ?_) (fun _ => ?_); (iterate 8 refine gU ?_); refine gPp ?_; refine gO ?_; refine gc_if_true rfl ?_; refine gV ?_; refine gM ?_; refine gO ?_; refine gR ?_; refine gY ?_; (iterate 2 refine gT ?_); refine gY ?_; refine gT ?_; rotate_left; refine gF ?_; refine gW .here ?_; refine gM ?_; apply gw_d; exact w_index rfl rfl rfl rfl (by with_reducible exact rfl) (by omega); refine gF ?_; apply gw_d; exact w_load_fld rfl rfl rfl (by assumption) (by assumption); apply gw_d; exact w_len_str rfl rfl rfl; refine gC ?_; refine gPq ?_; refine gO ?_; refine gc_if_dec rfl (fun _ => ?_) (fun _ => ?_); refine gV ?_; refine gM ?_; refine gO ?_; refine gR ?_; refine gY ?_; (iterate 2 refine gT ?_); refine gY ?_; refine gT ?_; rotate_left; refine gK ?_; refine gH ?_; refine gX ?_; refine gG ?_; refine gM ?_; refine gA ?_; refine gM ?_; refine gw_nil ?_; rotate_left)
  all_goals first | exact gx_ret1 (v := .bool _) rfl rfl (fun _ _ => ⟨_, rfl, trivial⟩) | skip
  all_goals exact gx_round (k + 1) (by omega) (by omega) kK ⟨rfl, trivial⟩ (Sub.all _)
 (refine gI ?_; (iterate 2 refine gZ ?_); refine gJ ?_; refine gX ?_; refine gQ ?_; refine gV ?_; refine gM ?_; refine gO ?_; refine gB ?_)
 refine gc_loopK (σ := Nat) [52, 53, 54, 55, 56, 57, 60, 61, 62, 63, 64, 65, 66, 67, 68, 69, 70, 71, 72, 73, 74, 75, 76, 77, 78, 79, 80, 81, 82, 83, 84, 85, 86, 87, 88, 89, 90, 2, 58, 59, 4] (fun k => [(4, .int .i64 k)]) (fun k => k ≤ c.sty.ops.length) (fun k => c.sty.ops.length - k) 0 (Nat.zero_le _) ⟨rfl, trivial⟩ ?_
 rintro k2 base2 hk2
 (refine gQ ?_; refine gV ?_; refine gM ?_; (iterate 2 refine gF ?_); refine gW .here ?_; refine gL ?_; refine gC ?_; refine gO ?_)
 refine gc_if_dec rfl (fun h => ?_) (fun h => ?_)
 ·have hlt : k2 < c.sty.ops.length := by omega
  obtain ⟨ad, _, hv, _, _, hb1, hcell⟩ := h6.at' 5 rfl (by omega)
  injection hv with e1 e2 e3
  subst e1 e3
  obtain ⟨cs', hce, Aa, ca, Au, cu, rfl, hnm, q1, q2⟩ := hcell k2 hlt
  have hce0 := hce 0 _ rfl
  have hce3 := hce 3 _ rfl
  have hce4 := hce 4 _ rfl
  focus (refine gK ?_; refine gX ?_; refine gQ ?_; refine gB ?_; refine gV ?_; (iterate 2 refine gF ?_); refine gW .here ?_; refine gM ?_; apply gw_d; exact w_index rfl rfl rfl rfl (by with_reducible exact rfl) (by omega); refine gF ?_; apply gw_d; exact w_load_fld rfl rfl rfl (by assumption) (by assumption); refine gL ?_; refine gC ?_; refine gM ?_; refine gD (fun _ => ?_) (fun _ => ?_); (iterate 9 refine gU ?_); refine gPp ?_; refine gM ?_; (iterate 9 refine gU ?_); refine gPp ?_; refine gO ?_; refine gc_if_true rfl ?_; refine gV ?_; refine gM ?_; refine gO ?_; refine gR ?_; refine gY ?_; (iterate 2 refine gT ?_); refine gY ?_; refine gT ?_; rotate_left; (iterate 2 refine gF ?_); refine gW .here ?_; refine gM ?_; apply gw_d; exact w_index rfl rfl rfl rfl (by with_reducible exact rfl) (by omega); refine gF ?_; apply gw_d; exact w_load_fld rfl rfl rfl (by assumption) (by assumption); refine gL ?_; refine gC ?_; refine gPq ?_; refine gM ?_; refine gD (fun _ => ?_) (fun _ => ?_); (iterate 9 refine gU ?_); refine gPp ?_; refine gO ?_; refine gc_if_true rfl ?_; refine gV ?_; refine gM ?_; refine gO ?_; refine gR ?_; refine gY ?_; (iterate 2 refine gT ?_); refine gY ?_; refine gT ?_; rotate_left; (iterate 2 refine gF ?_); refine gW .here ?_; refine gM ?_; apply gw_d; exact w_index rfl rfl rfl rfl (by with_reducible exact rfl) (by omega); refine gF ?_; apply gw_d; exact w_load_fld rfl rfl rfl (by assumption) (by assumption); apply gw_d; exact w_len_str rfl rfl rfl; refine gC ?_; refine gPq ?_; refine gO ?_; refine gc_if_dec rfl (fun _ => ?_) (fun _ => ?_); refine gV ?_; refine gM ?_; refine gO ?_; refine gR ?_; refine gY ?_; (iterate 2 refine gT ?_); refine gY ?_; refine gT ?_; rotate_left; refine gK ?_; refine gH ?_; refine gX ?_; refine gG ?_; refine gM ?_; refine gA ?_; refine gM ?_; refine gw_nil ?_; rotate_left)
  all_goals first | exact gx_ret1 (v := .bool _) rfl rfl (fun _ _ => ⟨_, rfl, trivial⟩) | skip
  all_goals exact gx_round (k2 + 1) (by omega) (by omega) kK ⟨rfl, trivial⟩ (Sub.all _)
 ·(refine gI ?_; (iterate 2 refine gZ ?_); refine gJ ?_; refine gX ?_; refine gV ?_; refine gM ?_; refine gO ?_; refine gR ?_)
  exact gx_ret1 (v := .bool _) rfl rfl (fun _ _ => ⟨_, rfl, trivial⟩)

def rets4 : List Ret := [⟨7, 0, 0⟩, ⟨7, 9, 0⟩, ⟨7, 0, 0⟩, ⟨8, 0, 0⟩]
def chgs2 : List Chg := [⟨0, 7, 0, 0, 4⟩, ⟨0, 7, 9, 0, 3⟩]
theorem e58a : opCheckE shopSty plE = 0 := by kernel_rfl
theorem e58b : chgErr 260 0 0 shopBuns shopWrks 1 4 = 0 := by kernel_rfl
theorem e58c : chgL 260 0 shopOps shopBuns (paidL shopOps shopWrks (ticks shopBuns) shopScns) rets4 = chgs2 := by kernel_rfl
theorem e58d : outsR (okR shopOps.length shopBuns (paidL shopOps shopWrks (ticks shopBuns) shopScns)) [] rets4 = [1, 1, 2, 3] := by kernel_rfl
theorem e58e : trE shopOps.length shopBuns (paidL shopOps shopWrks (ticks shopBuns) shopScns) ⟨7, 10, 0⟩ = 3 := by kernel_rfl
theorem e58f : trW shopOps.length shopBuns (paidL shopOps shopWrks (ticks shopBuns) shopScns) ⟨7, 10, 0⟩ = 0 := by kernel_rfl
theorem e58g : netE chgs2 [⟨0, 5, 2⟩] = 0 := by kernel_rfl
theorem e58h : netL chgs2 [⟨0, 5, 2⟩] = [2] := by kernel_rfl
theorem e58i : judgeAllE 0 shopBuns shopWrks 1 = 0 := by kernel_rfl
def ret12 : Array Value := #[.int .i64 7, .int .i64 0, .int .i64 0, .int .i64 7, .int .i64 9, .int .i64 0, .int .i64 7, .int .i64 0, .int .i64 0, .int .i64 8, .int .i64 0, .int .i64 0]
theorem chgs2_rep {w : World} {S : Nat → Prop} : ∀ q ∈ chgs2, rChg.rep w S q (encC q) := fun q hq => by
 unfold chgs2 at hq
 simp only [List.mem_cons, List.not_mem_nil, or_false] at hq
 rcases hq with rfl | rfl
 ·exact ⟨rfl, inI rfl, inI rfl, inI rfl, inI rfl, inI rfl⟩
 ·exact ⟨rfl, inI rfl, inI rfl, inI rfl, inI rfl, inI rfl⟩
section
variable {w0 w : World} {L : List Res} {x : (Nat → Nat) × Option Addr × Nat} {b : Nat}
theorem shop_charges (s : St w0 (Box b 46 ret12 :: (shopR x ++ L)) w) (hL : Lay w) : OkM Tryz.prog 21 [shopV58 x, .slice (some ⟨b, 0, none⟩) 4 4].toArray w (fun y : (Option Addr × Nat) × Nat => .tuple #[.slice y.1.1 2 y.1.2, .slice (some ⟨y.2, 0, none⟩) 4 4, .int .i64 0]) (fun y => [Own y.1.1 2 y.1.2 57 5 (chgs2.flatMap encC), Box y.2 3 #[.int .i64 1, .int .i64 1, .int .i64 2, .int .i64 3]]) := by
 have hl : Sl rRet w w.heap.size (.slice (some ⟨b, 0, none⟩) 4 4) rets4 := Sl.ofCells s.head rfl (by decide) (by decide) ⟨⟨rfl, inI rfl, inI rfl, inI rfl⟩, ⟨rfl, inI rfl, inI rfl, inI rfl⟩, ⟨rfl, inI rfl, inI rfl, inI rfl⟩, ⟨rfl, inI rfl, inI rfl, inI rfl⟩, trivial⟩
 have h := charges_ok (r := 260) (le := 0) hL (shop_sty s.drop) (shop_buns s.drop) (shop_wrks s.drop) (shop_scns s.drop) hl (by rw [e58a]; exact e58b)
 change OkM _ _ _ _ (fun y : (Option Addr × Nat) × Nat => .tuple #[.slice y.1.1 (chgL 260 0 shopOps shopBuns (paidL shopOps shopWrks (ticks shopBuns) shopScns) rets4).length y.1.2, _, _]) (fun y => [Own y.1.1 (chgL 260 0 shopOps shopBuns (paidL shopOps shopWrks (ticks shopBuns) shopScns) rets4).length y.1.2 _ _ ((chgL 260 0 shopOps shopBuns (paidL shopOps shopWrks (ticks shopBuns) shopScns) rets4).flatMap encC), Box y.2 _ ((outsR (okR shopOps.length shopBuns (paidL shopOps shopWrks (ticks shopBuns) shopScns)) [] rets4).map (Value.int .i64)).toArray]) at h
 rw [e58c, e58d] at h
 exact h
theorem shop_trace (s : St w0 (shopR x ++ L) w) : Ok Tryz.prog 19 [shopStyV x.1, one (x.1 6), one (x.1 8), one (x.1 9), .agg #[.int .i64 7, .int .i64 10, .int .i64 0]].toArray w fun y _ => y = .tuple #[.int .i64 0, .int .i64 3] := by
 have h := Trace_ok ⟨7, 10, 0⟩ (shop_sty s) (shop_buns s) (shop_wrks s) (shop_scns s) (by rw [e58a]; exact e58i)
 change Ok _ _ _ _ (fun y _ => y = .tuple #[.int .i64 (trW shopOps.length shopBuns (paidL shopOps shopWrks (ticks shopBuns) shopScns) ⟨7, 10, 0⟩), .int .i64 (trE shopOps.length shopBuns (paidL shopOps shopWrks (ticks shopBuns) shopScns) ⟨7, 10, 0⟩)]) at h
 rw [e58e, e58f] at h
 exact h
theorem shop_net {A : Option Addr} {c : Nat} (s : St w0 (Box b 90 #[.int .i64 0, .int .i64 5, .int .i64 2] :: Own A 2 c 57 5 (chgs2.flatMap encC) :: L) w) : OkM Tryz.prog 39 [.slice (some ⟨b, 0, none⟩) 1 1, .slice A 2 c].toArray w (fun y : Nat => .tuple #[.slice (some ⟨y, 0, none⟩) 1 1, .int .i64 0]) (fun y => [Box y 3 #[.int .i64 2]]) := by
 have h := Net_all w (.slice (some ⟨b, 0, none⟩) 1 1) (.slice A 2 c) [⟨0, 5, 2⟩] chgs2 (Sl.ofCells s.head rfl (by decide) (by decide) ⟨⟨rfl, inI rfl, inI rfl, inI rfl⟩, trivial⟩) (Sl.own (R := rChg) (enc := encC) s (.there .here) rfl chgs2_rep) (by decide)
 unfold netRes netOwn at h
 simp only [if_pos e58g, e58h] at h
 exact h
end
theorem alive_ok (w : World) (hL : Lay w) : Ok Tryz.prog 18 [].toArray w fun r _ => r = .bool true := by
 refine ok_enter Tryz.func18 rfl Tryz.ntmps18 rfl ?_
 (refine gV ?_; refine gM ?_; refine gN ?_)
 refine gw_callm rfl (fun w s => shop_ok w) rfl (fun x => ?_)
 (refine w_alloc rfl (fun _ => ?_); refine w_store_all rfl rfl rfl rfl rfl .here rfl ?_; refine gN ?_; apply gw_d; exact w_load_boxN rfl rfl rfl .here rfl)
 rename_i bx
 refine gw_ent (K := Box bx 65 (shopV58 x).cells :: (shopR x ++ [])) (Sub.ent (.cons .here (Sub.all _))) ?_
 (apply gw_d; exact w_buildP [(0, .int .i64 7), (1, .int .i64 0)] (cells := #[.int .i64 7, .int .i64 0, .int .i64 0]) (by kernel_rfl) rfl rfl rfl; apply gw_d; exact w_buildP [(0, .int .i64 7), (1, .int .i64 9)] (cells := #[.int .i64 7, .int .i64 9, .int .i64 0]) (by kernel_rfl) rfl rfl rfl; apply gw_d; exact w_buildP [(0, .int .i64 7), (1, .int .i64 0)] (cells := #[.int .i64 7, .int .i64 0, .int .i64 0]) (by kernel_rfl) rfl rfl rfl; apply gw_d; exact w_buildP [(0, .int .i64 8)] (cells := #[.int .i64 8, .int .i64 0, .int .i64 0]) (by kernel_rfl) rfl rfl rfl)
 refine gw_bslice (cells := ret12) rfl ?_ ?_ ?_ (fun b4 => ?_)
 ·rfl
 ·rfl
 ·kernel_rfl
 refine gw_ent (K := Box b4 46 ret12 :: (shopR x ++ [Box bx 65 (shopV58 x).cells])) (Sub.ent (.cons .here (.cons (.there .here) (.cons (.there .here) (.cons (.there .here) (.cons (.there .here) (.cons (.there .here) (.cons (.there .here) (.cons (.there .here) (.cons (.there .here) (.cons (.there .here) (.cons (.there .here) (.cons (.there .here) (.cons (.there .here) (.cons (.there .here) (.cons (.there .here) (.cons .here .nil))))))))))))))))) ?_
 refine gw_callm rfl (fun w s => shop_charges s (hL.later s)) rfl (fun y => ?_)
 obtain ⟨⟨A, ca⟩, bo⟩ := y
 refine gw_ent (K := Own A 2 ca 57 5 (chgs2.flatMap encC) :: Box bo 3 #[.int .i64 1, .int .i64 1, .int .i64 2, .int .i64 3] :: Box bx 65 (shopV58 x).cells :: (shopR x ++ [])) (Sub.ent (.cons .here (.cons .here (.cons (.there (.there (.there (.there (.there (.there (.there (.there (.there (.there (.there (.there (.there (.there (.there .here))))))))))))))) (.cons (.there .here) (.cons (.there .here) (.cons (.there .here) (.cons (.there .here) (.cons (.there .here) (.cons (.there .here) (.cons (.there .here) (.cons (.there .here) (.cons (.there .here) (.cons (.there .here) (.cons (.there .here) (.cons (.there .here) (.cons (.there .here) (.cons (.there .here) .nil)))))))))))))))))) ?_
 (refine gM ?_; apply gw_d; exact det_extract rfl rfl rfl (by conv => (lhs; whnf)); apply gw_d; exact det_extract rfl rfl rfl (by conv => (lhs; whnf)); apply gw_d; exact det_extract rfl rfl rfl (by conv => (lhs; whnf)); (iterate 3 refine gM ?_); refine gN ?_; refine gF ?_; apply gw_d; exact w_load_part rfl rfl rfl (.there (.there .here)) rfl rfl; refine gF ?_; refine gW (.there (.there .here)) ?_; refine gF ?_; refine gW (.there (.there .here)) ?_; refine gF ?_; refine gW (.there (.there .here)) ?_; apply gw_d; exact w_buildP [(0, .int .i64 7), (1, .int .i64 10)] (cells := #[.int .i64 7, .int .i64 10, .int .i64 0]) (by kernel_rfl) rfl rfl rfl; apply gw_d; exact w_call rfl rfl (fun w s => shop_trace s.drop.drop.drop) rfl; refine gM ?_; apply gw_d; exact det_extract rfl rfl rfl (by conv => (lhs; whnf)); apply gw_d; exact det_extract rfl rfl rfl (by conv => (lhs; whnf)); (iterate 2 refine gM ?_); refine gN ?_; apply gw_d; exact w_buildP [(0, .int .i64 0), (1, .int .i64 5), (2, .int .i64 2)] (cells := #[.int .i64 0, .int .i64 5, .int .i64 2]) (by kernel_rfl) rfl rfl rfl)
 refine gw_bslice1 (v := .agg #[.int .i64 0, .int .i64 5, .int .i64 2]) rfl rfl rfl rfl rfl (fun b5 => ?_)
 (refine gM ?_)
 refine gw_callm rfl (fun w s => shop_net s) rfl (fun bn => ?_)
 refine gw_ent (K := [Own A 2 ca 57 5 (chgs2.flatMap encC), Box bo 3 #[.int .i64 1, .int .i64 1, .int .i64 2, .int .i64 3], Box bn 3 #[.int .i64 2]]) (Sub.ent (.cons (.there (.there .here)) (.cons (.there (.there .here)) (.cons .here .nil)))) ?_
 (refine gM ?_; apply gw_d; exact det_extract rfl rfl rfl (by conv => (lhs; whnf)); apply gw_d; exact det_extract rfl rfl rfl (by conv => (lhs; whnf)); (iterate 2 refine gM ?_); refine gN ?_; refine gM ?_; refine gC ?_; (iterate 2 refine gM ?_); refine gC ?_; refine gPp ?_; (iterate 2 refine gM ?_); refine gC ?_; refine gPp ?_; (iterate 2 refine gM ?_); refine gC ?_; refine gPp ?_; (iterate 2 refine gM ?_); apply gw_d; exact w_buildP [(1, .int .i64 7), (4, .int .i64 4)] (cells := #[.int .i64 0, .int .i64 7, .int .i64 0, .int .i64 0, .int .i64 4]) (by kernel_rfl) rfl rfl rfl; apply gw_d; exact w_buildP [(1, .int .i64 7), (2, .int .i64 9), (4, .int .i64 3)] (cells := #[.int .i64 0, .int .i64 7, .int .i64 9, .int .i64 0, .int .i64 3]) (by kernel_rfl) rfl rfl rfl)
 refine gw_bslice (cells := #[.int .i64 0, .int .i64 7, .int .i64 0, .int .i64 0, .int .i64 4, .int .i64 0, .int .i64 7, .int .i64 9, .int .i64 0, .int .i64 3]) rfl ?_ ?_ ?_ (fun b6 => ?_)
 ·rfl
 ·rfl
 ·kernel_rfl
 have hS1 : ∀ (L : List Res) (w' : World), St w (Box b6 57 #[.int .i64 0, .int .i64 7, .int .i64 0, .int .i64 0, .int .i64 4, .int .i64 0, .int .i64 7, .int .i64 9, .int .i64 0, .int .i64 3] :: Own A 2 ca 57 5 (chgs2.flatMap encC) :: L) w' → Ok Tryz.prog 23 [.slice A 2 ca, .slice (some ⟨b6, 0, none⟩) 2 2].toArray w' fun r _ => r = .bool true := fun L w' s => by
  have := same58_ok w' (.slice A 2 ca) (.slice (some ⟨b6, 0, none⟩) 2 2) chgs2 chgs2 (Sl.own (R := rChg) (enc := encC) s (.there .here) rfl chgs2_rep) (Sl.ofCells s.head rfl (by decide) (by decide) ⟨⟨rfl, inI rfl, inI rfl, inI rfl, inI rfl, inI rfl⟩, ⟨rfl, inI rfl, inI rfl, inI rfl, inI rfl, inI rfl⟩, trivial⟩)
  simpa using this
 (apply gw_d; exact w_call rfl rfl (hS1 _) rfl; refine gPp ?_; (iterate 2 refine gM ?_))
 refine gw_bslice (cells := #[.int .i64 1, .int .i64 1, .int .i64 2, .int .i64 3]) rfl ?_ ?_ ?_ (fun b7 => ?_)
 ·rfl
 ·rfl
 ·kernel_rfl
 have hS2 : ∀ (L : List Res) (w' : World), St w (Box b7 3 #[.int .i64 1, .int .i64 1, .int .i64 2, .int .i64 3] :: Box b6 57 #[.int .i64 0, .int .i64 7, .int .i64 0, .int .i64 0, .int .i64 4, .int .i64 0, .int .i64 7, .int .i64 9, .int .i64 0, .int .i64 3] :: Own A 2 ca 57 5 (chgs2.flatMap encC) :: Box bo 3 #[.int .i64 1, .int .i64 1, .int .i64 2, .int .i64 3] :: L) w' → Ok Tryz.prog 24 [.slice (some ⟨bo, 0, none⟩) 4 4, .slice (some ⟨b7, 0, none⟩) 4 4].toArray w' fun r _ => r = .bool true := fun L w' s => by
  have := sameInts_ok w' (.slice (some ⟨bo, 0, none⟩) 4 4) (.slice (some ⟨b7, 0, none⟩) 4 4) [1, 1, 2, 3] [1, 1, 2, 3] (Sl.ofCells s.drop.drop.drop.head rfl (by decide) (by decide) ⟨⟨rfl, inI rfl⟩, ⟨rfl, inI rfl⟩, ⟨rfl, inI rfl⟩, ⟨rfl, inI rfl⟩, trivial⟩) (Sl.ofCells s.head rfl (by decide) (by decide) ⟨⟨rfl, inI rfl⟩, ⟨rfl, inI rfl⟩, ⟨rfl, inI rfl⟩, ⟨rfl, inI rfl⟩, trivial⟩)
  simpa using this
 (apply gw_d; exact w_call rfl rfl (hS2 _) rfl; refine gPp ?_; (iterate 2 refine gM ?_))
 refine gw_bslice1 (v := .int .i64 2) rfl rfl rfl rfl rfl (fun b8 => ?_)
 refine gw_ent (K := [Box b8 3 #[.int .i64 2], Box bn 3 #[.int .i64 2]]) (Sub.ent (.cons .here (.cons (.there (.there (.there (.there .here)))) .nil))) ?_
 have hS3 : ∀ (L : List Res) (w' : World), St w (Box b8 3 #[.int .i64 2] :: Box bn 3 #[.int .i64 2] :: L) w' → Ok Tryz.prog 24 [.slice (some ⟨bn, 0, none⟩) 1 1, .slice (some ⟨b8, 0, none⟩) 1 1].toArray w' fun r _ => r = .bool true := fun L w' s => by
  have := sameInts_ok w' (.slice (some ⟨bn, 0, none⟩) 1 1) (.slice (some ⟨b8, 0, none⟩) 1 1) [2] [2] (Sl.ofCells s.drop.head rfl (by decide) (by decide) ⟨⟨rfl, inI rfl⟩, trivial⟩) (Sl.ofCells s.head rfl (by decide) (by decide) ⟨⟨rfl, inI rfl⟩, trivial⟩)
  simpa using this
 (apply gw_d; exact w_call rfl rfl (hS3 _) rfl; refine gPp ?_; refine gM ?_; refine gO ?_; refine gR ?_)
 refine gb1 (fun _ _ => ?_)
 rfl
theorem chg_rep {w w0 : World} {B B' : Nat} {S : Nat → Prop} {vx vl : Value} {r le : Int} {ops : List Opn} {bs : List Bun} {ws : List Wrk} {xs : List Scn} {l : List Ret} (hp : Plies bs) (hx : Sl rScn w0 B vx xs) (hl : Sl rRet w0 B' vl l) : ∀ q ∈ chgL r le ops bs (paidL ops ws (ticks bs) xs) l, rChg.rep w S q (encC q) := fun q hq => by
 have har := chg_range hp hq
 obtain ⟨x, rfl, hxl, hok⟩ := chg_mem hq
 obtain ⟨b, y, hT⟩ := trE_zero (of_decide_eq_true hok)
 obtain ⟨hy, _, _⟩ := whoAt_mem hT.who
 have hyx := paid_mem hy
 obtain ⟨i, hi, rfl⟩ := List.getElem_of_mem hyx
 obtain ⟨_, _, _, _, _, hcell⟩ := hx.scn
 obtain ⟨_, _, _, _, _, _, hw, _⟩ := hcell i hi
 obtain ⟨j, hj, rfl⟩ := List.getElem_of_mem hxl
 obtain ⟨_, _, _, _, _, hcell2⟩ := hl.ret
 obtain ⟨_, _, _, _, h1, h2, h3⟩ := hcell2 j hj
 refine ⟨rfl, ?_, h1, h2, h3, ?_⟩
 ·show inI64 (trW _ _ _ _)
  rw [hT.w]
  exact hw
 ·unfold inI64
  omega
theorem outR_in {ok : Ret → Bool} {D : List Ret} {x : Ret} : outR ok D x = 1 ∨ outR ok D x = 2 ∨ outR ok D x = 3 := by
 unfold outR
 split
 ·exact .inr (.inr rfl)
 ·split
  ·exact .inr (.inl rfl)
  ·exact .inl rfl
theorem outsR_in {ok : Ret → Bool} : ∀ {xs D : List Ret}, ∀ v ∈ outsR ok D xs, inI64 v
 | [], _, v, h => by cases h
 | x :: xs, D, v, h => by
  rcases List.mem_cons.1 h with h | h
  ·have := outR_in (ok := ok) (D := D) (x := x)
   unfold inI64
   omega
  ·exact outsR_in v h
theorem Sl.boxI' {w : World} {b n : Nat} {l : List Int} {ty : TypeId} (hb : w.heap[b]? = some (.cells (l.map (Value.int .i64)).toArray ty (0, 0))) (hn : n = l.length) (hn2 : n ≤ 1000) (hin : ∀ x ∈ l, inI64 x) : Sl rInt w w.heap.size (.slice (some ⟨b, 0, none⟩) n n) l := by
 subst hn
 refine Sl.ofBox (R := rInt) hb rfl (Nat.le_refl _) (by unfold maxLen; omega) fun k hk => ?_
 refine ⟨?_, hin _ (List.getElem_mem hk)⟩
 show (((l.map (Value.int .i64)).toArray.toList.drop (k * 1)).take 1) = _
 rw [List.toList_toArray, Nat.mul_one, ← List.map_drop, ← List.map_take, List.drop_eq_getElem_cons hk]
 rfl
/-- Two lists of charges that are one. -/
theorem same_same {w0 w : World} {L L1 L2 : List Res} {A B : Option Addr} {n m c d : Nat} {l l' : List Chg} (s : St w0 L w) (hp : Pick L (Own A n c 57 5 (l.flatMap encC)) L1) (hq : Pick L (Own B m d 57 5 (l'.flatMap encC)) L2) (hn : n = l.length) (hm : m = l'.length) (he : l' = l) (hr : ∀ q ∈ l, rChg.rep w (fun b => b < w.heap.size) q (encC q)) :
  Ok Tryz.prog 23 [.slice A n c, .slice B m d].toArray w fun r _ => r = .bool true := by
 subst he
 have := same58_ok w _ _ l' l' (Sl.own (R := rChg) (enc := encC) s hp hn hr) (Sl.own (R := rChg) (enc := encC) s hq hm hr)
 simpa using this
theorem same_nil (w : World) : Ok Tryz.prog 23 [.slice none 0 0, .slice none 0 0].toArray w fun r _ => r = .bool true := by
 have := same58_ok w _ _ [] [] (Sl.nil _ _) (Sl.nil _ _)
 simpa using this
theorem sameI_nil (w : World) : Ok Tryz.prog 24 [.slice none 0 0, .slice none 0 0].toArray w fun r _ => r = .bool true := by
 have := sameInts_ok w _ _ [] [] (Sl.nil _ _) (Sl.nil _ _)
 simpa using this
section
variable {w : World} {vp vc : Value} {ps : List Pay} {cs : List Chg}
end
theorem has_ok (w : World) (v : Value) (l : List Int) (x : Int) (hl : Sl rInt w w.heap.size v l) : Ok Tryz.prog 69 [v, .int .i64 x].toArray w fun r _ => r = .bool (hasB l x) := by
 obtain ⟨A, c, rfl, hc, hm, hcell⟩ := hl.int
 refine ok_enter Tryz.func69 rfl Tryz.ntmps69 rfl ?_
 (refine gV ?_; refine gM ?_; refine gO ?_; refine gQ ?_; refine gV ?_; refine gM ?_; refine gO ?_; refine gB ?_)
 refine gc_loop (σ := Nat) [6, 7, 8, 9, 12, 13, 14, 15, 16, 17, 4, 10, 11, 5] (fun k => [(5, .int .i64 k)]) (fun _ => []) (fun k => k ≤ l.length ∧ hasB (l.take k) x = false) (fun k => l.length - k) 0 ⟨Nat.zero_le _, rfl⟩ ⟨rfl, trivial⟩ .nil ?_
 rintro k base ⟨hk, hI⟩
 (refine gQ ?_; refine gV ?_; (iterate 2 refine gM ?_); refine gL ?_; refine gC ?_; refine gO ?_)
 refine gc_if_dec rfl (fun h => ?_) (fun h => ?_)
 ·have hlt : k < l.length := by omega
  obtain ⟨ad, rfl, hb, hce, hi⟩ := hcell k hlt
  (refine gK ?_; refine gX ?_; refine gQ ?_; refine gB ?_; refine gV ?_; (iterate 2 refine gM ?_); apply gw_d; exact w_index rfl rfl rfl rfl (by with_reducible exact rfl) (by omega); apply gw_d; exact w_load_at rfl rfl rfl (by assumption) (by assumption); refine gM ?_; refine gC ?_; refine gO ?_)
  refine gc_if_dec rfl (fun h => ?_) (fun h => ?_)
  ·(refine gV ?_; refine gM ?_; refine gO ?_; refine gR ?_; refine gY ?_; (iterate 2 refine gT ?_); refine gY ?_; refine gT ?_)
   refine gb1 (fun _ _ => ?_)
   rw [hasB_iff.2 (by rw [← h]; exact List.getElem_mem hlt)]
  ·(refine gK ?_; refine gH ?_; refine gX ?_; refine gG ?_; refine gM ?_; refine gA ?_; refine gM ?_; refine gw_nil ?_)
   refine gx_round (k + 1) ⟨hlt, ?_⟩ (by omega) kK ⟨rfl, trivial⟩ .nil
   rw [List.take_succ_eq_append_getElem hlt, hasB_snoc, hI]
   simpa using h
 ·(refine gI ?_; (iterate 2 refine gZ ?_); refine gJ ?_; refine gX ?_; refine gV ?_; refine gM ?_; refine gO ?_; refine gR ?_)
  refine gb1 (fun _ _ => ?_)
  rw [List.take_of_length_le (by omega)] at hI
  rw [hI]
theorem withinL_ok (w : World) (v : Value) (l : List Int) (n : Int) (hl : Sl rInt w w.heap.size v l) : Ok Tryz.prog 83 [v, .int .i64 n].toArray w fun r _ => r = .bool (areIx l n) := by
 obtain ⟨A, c, rfl, hc, hm, hcell⟩ := hl.int
 refine ok_enter Tryz.func83 rfl Tryz.ntmps83 rfl ?_
 (refine gV ?_; refine gM ?_; refine gO ?_; refine gQ ?_; refine gV ?_; refine gM ?_; refine gO ?_; refine gB ?_)
 refine gc_loop (σ := Nat) [6, 7, 8, 9, 12, 13, 14, 15, 16, 17, 18, 19, 20, 21, 22, 23, 24, 4, 10, 11, 5] (fun k => [(5, .int .i64 k)]) (fun _ => []) (fun k => k ≤ l.length ∧ areIx (l.take k) n = true) (fun k => l.length - k) 0 ⟨Nat.zero_le _, rfl⟩ ⟨rfl, trivial⟩ .nil ?_
 rintro k base ⟨hk, hI⟩
 (refine gQ ?_; refine gV ?_; (iterate 2 refine gM ?_); refine gL ?_; refine gC ?_; refine gO ?_)
 refine gc_if_dec rfl (fun h => ?_) (fun h => ?_)
 ·have hlt : k < l.length := by omega
  obtain ⟨ad, rfl, hb, hce, hi⟩ := hcell k hlt
  focus (refine gK ?_; refine gX ?_; refine gQ ?_; refine gB ?_; refine gV ?_; (iterate 2 refine gM ?_); apply gw_d; exact w_index rfl rfl rfl rfl (by with_reducible exact rfl) (by omega); apply gw_d; exact w_load_at rfl rfl rfl (by assumption) (by assumption); refine gC ?_; refine gM ?_; refine gD (fun _ => ?_) (fun _ => ?_); (iterate 6 refine gU ?_); refine gPp ?_; refine gO ?_; refine gc_if_true rfl ?_; refine gV ?_; refine gM ?_; refine gO ?_; refine gR ?_; refine gY ?_; (iterate 2 refine gT ?_); refine gY ?_; refine gT ?_; rotate_left; (iterate 2 refine gM ?_); apply gw_d; exact w_index rfl rfl rfl rfl (by with_reducible exact rfl) (by omega); apply gw_d; exact w_load_at rfl rfl rfl (by assumption) (by assumption); refine gM ?_; refine gC ?_; refine gPq ?_; refine gO ?_; refine gc_if_dec rfl (fun _ => ?_) (fun _ => ?_); refine gV ?_; refine gM ?_; refine gO ?_; refine gR ?_; refine gY ?_; (iterate 2 refine gT ?_); refine gY ?_; refine gT ?_; rotate_left; refine gK ?_; refine gH ?_; refine gX ?_; refine gG ?_; refine gM ?_; refine gA ?_; refine gM ?_; refine gw_nil ?_; rotate_left)
  ·refine gb1 (fun _ _ => ?_)
   rw [areIx_no hlt (by omega)]
  ·refine gb1 (fun _ _ => ?_)
   rw [areIx_no hlt (by omega)]
  ·exact gx_round (k + 1) ⟨by omega, areIx_snoc hlt hI (by omega) (by omega)⟩ (by omega) kK ⟨rfl, trivial⟩ .nil
 ·(refine gI ?_; (iterate 2 refine gZ ?_); refine gJ ?_; refine gX ?_; refine gV ?_; refine gM ?_; refine gO ?_; refine gR ?_)
  refine gb1 (fun _ _ => ?_)
  rw [List.take_of_length_le (by omega)] at hI
  rw [hI]

theorem arr_mem {l : List Opn} : ∀ (f : Nat) (o : List Int), (∀ x ∈ o, 0 ≤ x ∧ x < l.length) → ∀ x ∈ arr l f o, 0 ≤ x ∧ x < l.length
 | 0, o, h => h
 | f + 1, o, h => by
  show ∀ x ∈ (match nextOf l o with | some i => arr l f (o ++ [(i : Int)]) | none => o), _
  cases hn : nextOf l o with
  | none => exact h
  | some i =>
   have hi : i < l.length := List.mem_range.1 (List.mem_of_find?_eq_some hn)
   refine arr_mem f _ fun x hx => ?_
   rcases List.mem_append.1 hx with h1 | h1
   ·exact h x h1
   ·rw [List.mem_singleton] at h1; omega
structure GR (P : Program) (c : Code) (Q : Exit → Act → World → Prop) (n N : Nat) (w0 : World) (L : List Res) (e : Env) : Prop where
 h : ∀ w, St w0 L w → Code.rounds P c Q n (mk N e) w
section
variable {P : Program} {Q : Exit → Act → World → Prop} {N : Nat} {w0 : World} {L : List Res} {e : Env} {c : Code} {n : Nat}
theorem gc_rounds (n : Nat) (h : GR P c Q n N w0 L e) : GC P Q N w0 L (.loop c) e := ⟨fun w s => wp_loop_rounds n (h.h w s)⟩
theorem gr_succ (h : GC P (Exit.then (Code.rounds P c Q n) Q) N w0 L c e) : GR P c Q (n + 1) N w0 L e := ⟨fun w s => h.h w s⟩
theorem gx_rounds (h : GR P c Q n N w0 L e) : GX (Exit.then (Code.rounds P c Q n) Q) N w0 L .normal e := ⟨fun w s => h.h w s⟩
end

def enc32 (i : Int) : List Value := [.int .u32 i]
theorem flat_enc32 (l : List Int) : l.flatMap enc32 = l.map (Value.int .u32) := by
 induction l with
 | nil => rfl
 | cons x l ih => rw [List.flatMap_cons, ih]; rfl
theorem Sl.own32 {w0 w : World} {L L' : List Res} {A : Option Addr} {n c : Nat} {el : TypeId} {l : List Int} (s : St w0 L w) (hp : Pick L (Own A n c el 1 (l.map (Value.int .u32))) L') (hn : n = l.length) : Sl rU32 w w.heap.size (.slice A n c) l := by
 rw [← flat_enc32] at hp
 exact Sl.own (R := rU32) (enc := enc32) s hp hn (fun q _ => rfl)
def R32 (x : Option Addr × Nat) (l : List Int) : Res := Own x.1 l.length x.2 240 1 (l.map (Value.int .u32))
theorem one32 {l : List Int} : ∀ u ∈ l.map (Value.int .u32), u.oneCell' = true := fun u hu => by
 obtain ⟨x, _, rfl⟩ := List.mem_map.1 hu
 rfl
def normL (l : List Int) : List Int := l.take (tl l l.length)
section
variable {P : Program} {ops : Array Oper} {N : Nat} {w0 : World} {L : List Res} {e : Env} {o : Oper} {t : TypeId} {x y : Operand}
theorem det_quoC {k : IntKind} {i j r : Int} {yt : TypeId} (hop : o.op = .binOp .quo t x y yt) (hw : wantedE N ops e o = true) (hx : ev N e x = .int k i) (hy : ev N e y = .int k j) (h0 : ¬ j = 0) (hr : k.wrap (i.tdiv j) = r) : Det P ops N w0 L o e (.int k r) :=
 det_pure hw fun _ => by
  unfold execOp
  simp [hop, hx, hy, eqGuard, binOp, Op.intDiv, h0, hr]
theorem det_remC {k : IntKind} {i j r : Int} {yt : TypeId} (hop : o.op = .binOp .rem t x y yt) (hw : wantedE N ops e o = true) (hx : ev N e x = .int k i) (hy : ev N e y = .int k j) (h0 : ¬ j = 0) (hr : i.tmod j = r) : Det P ops N w0 L o e (.int k r) :=
 det_pure hw fun _ => by
  unfold execOp
  simp [hop, hx, hy, eqGuard, binOp, Op.intDiv, h0, hr]
end
theorem rn_norm (w : World) (A : Option Addr) (c : Nat) (l : List Int) (hl : Sl rU32 w w.heap.size (.slice A l.length c) l) (h10 : l.length ≤ 10) :
  OkM Tryz.prog 223 [.slice A l.length c].toArray w (fun x : Option Addr × Nat => .slice x.1 (normL l).length x.2) (fun x => [R32 x (normL l)]) := by
 obtain ⟨A', c', hv, hc, hm, hcell⟩ := hl.u32
 injection hv with e1 e2 e3
 subst e1 e3
 unfold OkM
 refine ok_enter Tryz.func223 rfl Tryz.ntmps223 rfl ?_
 (refine gV ?_; refine gM ?_; refine gN ?_; refine gM ?_; refine gL ?_; refine gM ?_; refine gO ?_; refine gQ ?_; refine gB ?_)
 refine gc_loop (σ := Nat) [7, 8, 9, 10, 11, 12, 13, 14, 15, 16, 17, 18, 3] (fun k => [(3, .int .i64 k)]) (fun _ => []) (fun k => k ≤ l.length ∧ tl l k = tl l l.length) (fun k => k) l.length ⟨Nat.le_refl _, rfl⟩ ⟨rfl, trivial⟩ .nil ?_
 rintro k base ⟨hk, hI⟩
 rcases Nat.eq_zero_or_pos k with rfl | hk0
 ·have hn : normL l = [] := by unfold normL; rw [← hI]; rfl
  rw [hn]
  (refine gQ ?_; refine gV ?_; refine gM ?_; refine gC ?_; refine gM ?_; (iterate 6 refine gU ?_); refine gPq ?_; refine gO ?_; refine gc_if_false rfl ?_; refine gI ?_; (iterate 2 refine gZ ?_); refine gJ ?_; refine gX ?_; refine gV ?_; refine gM ?_; refine gN ?_; (iterate 3 refine gM ?_); apply gw_d; exact w_cut_hi rfl rfl rfl rfl (by with_reducible exact rfl) (by omega))
  all_goals first | (exfalso; omega) | skip
  refine gw_own0 240 1 ?_
  refine gw_append (news := []) rfl rfl rfl .here rfl (fun w' s hp => absurd hp (by decide)) (fun u hu => by cases hu) (by decide) (by decide) (by decide) rfl (fun A' c' => ?_)
  (refine gM ?_; refine gO ?_; refine gR ?_)
  exact gx_ret1 (v := .slice _ _ _) rfl rfl (fun w' s => ⟨(A', c'), rfl, s.sep⟩)
 ·obtain ⟨k', rfl⟩ : ∃ k', k = k' + 1 := ⟨k - 1, by omega⟩
  have hkl : k' < l.length := by omega
  obtain ⟨ad, rfl, hb, hce⟩ := hcell k' hkl
  have hz : ((k' + 1 : Nat) : Int) - 1 = (k' : Int) := by omega
  by_cases h0 : l[k'] = 0
  ·have hI' : tl l k' = tl l l.length := by
    rw [← hI]
    show _ = (if l.getD k' 0 = 0 then tl l k' else k' + 1)
    rw [if_pos (by simpa [hkl] using h0)]
   focus (refine gQ ?_; refine gV ?_; refine gM ?_; refine gC ?_; refine gM ?_; refine gD (fun _ => ?_) (fun _ => ?_); (iterate 2 refine gM ?_); refine gA ?_; apply gw_d; exact w_index (m := k') rfl rfl rfl rfl hz hkl; apply gw_d; exact w_load_at rfl rfl rfl (by assumption) (by assumption); refine gC ?_; refine gPp ?_; refine gO ?_; refine gc_if_dec rfl (fun _ => ?_) (fun _ => ?_); refine gK ?_; refine gX ?_; refine gB ?_; refine gG ?_; refine gM ?_; refine gA ?_; refine gM ?_; refine gw_nil ?_; refine gH ?_; rotate_left; refine gI ?_; (iterate 2 refine gZ ?_); refine gJ ?_; refine gX ?_; refine gV ?_; refine gM ?_; refine gN ?_; (iterate 3 refine gM ?_); apply gw_d; exact w_cut_hi rfl rfl rfl rfl (by with_reducible exact rfl) (by omega); rotate_left; (iterate 6 refine gU ?_); refine gPq ?_; refine gO ?_; refine gc_if_false rfl ?_; refine gI ?_; (iterate 2 refine gZ ?_); refine gJ ?_; refine gX ?_; refine gV ?_; refine gM ?_; refine gN ?_; (iterate 3 refine gM ?_); apply gw_d; exact w_cut_hi rfl rfl rfl rfl (by with_reducible exact rfl) (by omega); rotate_left)
   all_goals first | (exfalso; omega) | skip
   exact gx_round k' ⟨by omega, hI'⟩ (by omega) kK ⟨congrArg (Value.int .i64) hz, trivial⟩ .nil
  ·have hI' : k' + 1 = tl l l.length := by
    rw [← hI]
    show _ = (if l.getD k' 0 = 0 then tl l k' else k' + 1)
    rw [if_neg (by simpa [hkl] using h0)]
   have hn : normL l = l.take (k' + 1) := by unfold normL; rw [← hI']
   have hnl : (normL l).length = k' + 1 := by rw [hn, List.length_take]; omega
   focus (refine gQ ?_; refine gV ?_; refine gM ?_; refine gC ?_; refine gM ?_; refine gD (fun _ => ?_) (fun _ => ?_); (iterate 2 refine gM ?_); refine gA ?_; apply gw_d; exact w_index (m := k') rfl rfl rfl rfl hz hkl; apply gw_d; exact w_load_at rfl rfl rfl (by assumption) (by assumption); refine gC ?_; refine gPp ?_; refine gO ?_; refine gc_if_dec rfl (fun _ => ?_) (fun _ => ?_); refine gK ?_; refine gX ?_; refine gB ?_; refine gG ?_; refine gM ?_; refine gA ?_; refine gM ?_; refine gw_nil ?_; refine gH ?_; rotate_left; refine gI ?_; (iterate 2 refine gZ ?_); refine gJ ?_; refine gX ?_; refine gV ?_; refine gM ?_; refine gN ?_; (iterate 3 refine gM ?_); apply gw_d; exact w_cut_hi rfl rfl rfl rfl (by with_reducible exact rfl) (by omega); rotate_left; (iterate 6 refine gU ?_); refine gPq ?_; refine gO ?_; refine gc_if_false rfl ?_; refine gI ?_; (iterate 2 refine gZ ?_); refine gJ ?_; refine gX ?_; refine gV ?_; refine gM ?_; refine gN ?_; (iterate 3 refine gM ?_); apply gw_d; exact w_cut_hi rfl rfl rfl rfl (by with_reducible exact rfl) (by omega); rotate_left)
   all_goals first | (exfalso; omega) | skip
   refine gw_own0 240 1 ?_
   refine gw_append (news := (normL l).map (Value.int .u32)) rfl rfl rfl .here (by rw [List.length_map, hnl]; omega) (fun w' s hp => ?_) one32 (by unfold maxLen; omega) (by omega) (by decide) rfl (fun A' c' => ?_)
   ·refine ⟨ad, rfl, fun j u hu => ?_⟩
    have hj : j < (normL l).length := by have := (List.getElem?_eq_some_iff.1 hu).1; simpa using this
    obtain ⟨ad2, ha2, _, hc2⟩ := hcell j (by omega)
    injection ha2 with ha2
    subst ha2
    rw [List.getElem?_map, List.getElem?_eq_getElem hj] at hu
    have hg : (normL l)[j] = l[j] := by simp only [hn]; exact List.getElem_take
    rw [hg] at hu
    rw [← hu]
    rw [show j * 1 = j by omega] at hc2
    exact (cell_same (by rw [add_block]; exact s.below.block _ hb)).trans hc2
   ·(refine gM ?_; refine gO ?_; refine gR ?_)
    refine gx_ret1 (v := .slice _ _ _) rfl rfl (fun w' s => ⟨(A', c'), by rw [hnl]; congr 1; omega, ?_⟩)
    have h1 : 0 + (k' + 1) = (normL l).length := by omega
    have hs := s.sep
    unfold R32
    dsimp only
    rw [← h1]
    exact hs
theorem rn_norm0 (w : World) (A : Option Addr) (c : Nat) : OkM Tryz.prog 223 [.slice A 0 c].toArray w (fun x : Option Addr × Nat => .slice x.1 0 x.2) (fun _ => []) := by
 unfold OkM
 refine ok_enter Tryz.func223 rfl Tryz.ntmps223 rfl ?_
 (refine gV ?_; refine gM ?_; refine gN ?_; refine gM ?_; refine gL ?_; refine gM ?_; refine gO ?_; refine gQ ?_; refine gB ?_)
 refine gc_rounds 1 (gr_succ ?_)
 (refine gQ ?_; refine gV ?_; refine gM ?_; apply gw_d; exact det_eq (c' := .bool false) (det_cmp rfl rfl rfl rfl rfl) (by rfl); refine gM ?_; (iterate 6 refine gU ?_); refine gPq ?_; refine gO ?_)
 refine gc_if_false rfl ?_
 (refine gI ?_; (iterate 2 refine gZ ?_); refine gJ ?_; refine gX ?_; refine gV ?_; refine gM ?_; refine gN ?_; (iterate 3 refine gM ?_); apply gw_d; exact w_cut_hi rfl rfl rfl rfl (by with_reducible exact rfl) (by omega))
 refine gw_own0 240 1 ?_
 refine gw_append (news := []) rfl rfl rfl .here rfl (fun w' s hp => absurd hp (by decide)) (fun u hu => by cases hu) (by decide) (by decide) (by decide) rfl (fun A' c' => ?_)
 (refine gM ?_; refine gO ?_; refine gR ?_)
 exact gx_ret1 (v := .slice _ _ _) rfl rfl (fun w' s => ⟨(A', c'), rfl, trivial⟩)

def limbL (l : List Int) (i : Nat) : Int := l.getD i 0
theorem rn_limb (w : World) (A : Option Addr) (c : Nat) (l : List Int) (i : Nat) (hl : Sl rU32 w w.heap.size (.slice A l.length c) l) (hr : ∀ x ∈ l, 0 ≤ x ∧ x ≤ 1) : Ok Tryz.prog 227 [.slice A l.length c, .int .i64 (i : Int)].toArray w fun r _ => r = .int .u64 (limbL l i) := by
 obtain ⟨A', c', hv, hc, hm, hcell⟩ := hl.u32
 injection hv with e1 e2 e3
 subst e1 e3
 by_cases hi : i < l.length
 ·obtain ⟨ad, rfl, hb, hce⟩ := hcell i hi
  have hx := hr l[i] (List.getElem_mem hi)
  have hg : limbL l i = l[i] := by unfold limbL; simp [hi]
  have hw : IntKind.u64.wrap l[i] = l[i] := by
   have : IntKind.u64.wrap l[i] = l[i] % 18446744073709551616 := rfl
   rw [this]
   omega
  rw [hg]
  refine ok_enter Tryz.func227 rfl Tryz.ntmps227 rfl ?_
  focus (refine gV ?_; refine gM ?_; refine gO ?_; refine gQ ?_; refine gV ?_; refine gM ?_; refine gC ?_; (iterate 3 refine gM ?_); refine gL ?_; refine gC ?_; refine gPq ?_; refine gO ?_; refine gc_if_dec rfl (fun _ => ?_) (fun _ => ?_); refine gV ?_; refine gM ?_; refine gO ?_; refine gR ?_; refine gT ?_; rotate_left; refine gK ?_; refine gX ?_; refine gV ?_; (iterate 2 refine gM ?_); apply gw_d; exact w_index rfl rfl rfl rfl (by with_reducible exact rfl) (by omega); apply gw_d; exact w_load_at rfl rfl rfl (by assumption) (by assumption); apply gw_d; exact det_conv rfl rfl rfl hw; refine gM ?_; refine gO ?_; refine gR ?_; rotate_left)
  all_goals first | (exfalso; omega) | skip
  refine gi1 (fun _ _ => ?_)
  rfl
 ·have hg : limbL l i = 0 := by unfold limbL; simp [hi]
  rw [hg]
  refine ok_enter Tryz.func227 rfl Tryz.ntmps227 rfl ?_
  focus (refine gV ?_; refine gM ?_; refine gO ?_; refine gQ ?_; refine gV ?_; refine gM ?_; refine gC ?_; (iterate 3 refine gM ?_); refine gL ?_; refine gC ?_; refine gPq ?_; refine gO ?_; refine gc_if_dec rfl (fun _ => ?_) (fun _ => ?_); refine gV ?_; refine gM ?_; refine gO ?_; refine gR ?_; refine gT ?_; rotate_left; refine gK ?_; refine gX ?_; refine gV ?_; (iterate 2 refine gM ?_); rotate_left)
  all_goals first | (exfalso; omega) | skip
  refine gi1 (fun _ _ => ?_)
  rfl
theorem rn_of0 (w : World) : Ok Tryz.prog 224 [.int .u64 0].toArray w fun r _ => r = .slice none 0 0 := by
 refine ok_enter Tryz.func224 rfl Tryz.ntmps224 rfl ?_
 (refine gV ?_; refine gM ?_; refine gN ?_; refine gM ?_; refine gO ?_; refine gQ ?_; refine gB ?_)
 refine gc_rounds 1 (gr_succ ?_)
 (refine gQ ?_; refine gV ?_; refine gM ?_; apply gw_d; exact det_eq (c' := .bool false) (det_cmp rfl rfl rfl rfl rfl) (by rfl); refine gO ?_)
 refine gc_if_false rfl ?_
 (refine gI ?_; (iterate 2 refine gZ ?_); refine gJ ?_; refine gX ?_; refine gV ?_; (iterate 2 refine gM ?_); refine gO ?_; refine gR ?_)
 refine gx_ret1 (v := .slice _ _ _) rfl rfl (fun _ _ => ?_)
 rfl
section
variable {P : Program} {ops : Array Oper} {Q : Exit → Act → World → Prop} {N : Nat} {w0 : World} {L L' L2 : List Res} {rest : List Oper} {e : Env} {t el by_ : Nat} {z : Value} {x y : Operand}
/-- append(s, v) for one number. -/
theorem gw_push32 [CSlice P t el 1] [CZero P el z] [CBytes P el by_] {d n c b m' : Nat} {A : Option Addr} {ty bt : TypeId} {pos : String} {af : Array Edge} {g : Option (Nat × Bool)} {l : List Int} {v : Int}
  (hw : wantedE N ops e ⟨some d, .call { callee := .builtin .append, args := #[x, y], argTypes := #[t, t] }, ty, pos, af, g⟩ = true) (hx : ev N e x = .slice A n c) (hy : ev N e y = .slice (some ⟨b, 0, none⟩) 1 m')
  (hp : Pick L (Own A n c el 1 (l.map (Value.int .u32))) L') (hb : Pick L (Box b bt #[.int .u32 v]) L2) (h63 : n + 1 ≤ maxLen) (hbytes : (n + 1) * by_ ≤ 140737488355328) (hzs : z.cells.size = 1)
  (k : ∀ A' c'', GW P ops Q N w0 (Own A' (n + 1) c'' el 1 ((l ++ [v]).map (Value.int .u32)) :: L') rest (upd e d (.slice A' (n + 1) c''))) :
  GW P ops Q N w0 L (⟨some d, .call { callee := .builtin .append, args := #[x, y], argTypes := #[t, t] }, ty, pos, af, g⟩ :: rest) e :=
 gw_append (news := [.int .u32 v]) hw hx hy hp rfl (fun w s _ => ⟨⟨b, 0, none⟩, rfl, fun j u hu => by
  rw [add_zero]
  refine (Box.cell (s.pick hb).head j).trans ?_
  rw [List.getElem?_toArray]
  exact hu⟩) (fun u hu => by rw [List.mem_singleton] at hu; subst hu; rfl) h63 hbytes (by decide) hzs (fun A' c'' => by
  have := k A' c''
  rw [List.map_append] at this
  exact this)
end
theorem rn_of1 (w : World) : OkM Tryz.prog 224 [.int .u64 1].toArray w (fun x : Option Addr × Nat => .slice x.1 1 x.2) (fun x => [R32 x [1]]) := by
 unfold OkM
 refine ok_enter Tryz.func224 rfl Tryz.ntmps224 rfl ?_
 (refine gV ?_; refine gM ?_; refine gN ?_; refine gM ?_; refine gO ?_; refine gQ ?_; refine gB ?_)
 refine gc_own0 240 1 ?_
 refine gc_rounds 2 (gr_succ ?_)
 (refine gQ ?_; refine gV ?_; refine gM ?_; apply gw_d; exact det_eq (c' := .bool true) (det_cmp rfl rfl rfl rfl rfl) (by rfl); refine gO ?_)
 refine gc_if_true rfl ?_
 (refine gK ?_; refine gX ?_; refine gB ?_; refine gV ?_; (iterate 2 refine gM ?_); apply gw_d; exact det_remU (i := 1) (j := 4294967296) (by decide) rfl rfl rfl rfl; apply gw_d; exact det_conv (r := 1) rfl rfl rfl (by rfl))
 refine gw_bslice1 (v := .int .u32 1) rfl rfl rfl rfl rfl (fun b => ?_)
 refine gw_push32 (l := []) rfl rfl rfl (.there .here) .here (by decide) (by decide) rfl (fun A1 c1 => ?_)
 (refine gM ?_; refine gO ?_; refine gG ?_; refine gM ?_; apply gw_d; exact det_eq (c' := .int .u64 0) (det_quoU (i := 1) (j := 4294967296) (by decide) (by decide) rfl rfl rfl rfl) (by rfl); refine gM ?_; refine gw_nil ?_; refine gH ?_)
 refine gx_rounds (gr_succ ?_)
 (refine gQ ?_; refine gV ?_; refine gM ?_; apply gw_d; exact det_eq (c' := .bool false) (det_cmp rfl rfl rfl rfl rfl) (by rfl); refine gO ?_)
 refine gc_if_false rfl ?_
 (refine gI ?_; (iterate 2 refine gZ ?_); refine gJ ?_; refine gX ?_; refine gV ?_; (iterate 2 refine gM ?_); refine gO ?_; refine gR ?_)
 exact gx_ret1 (v := .slice _ _ _) rfl rfl (fun w' s => ⟨(A1, c1), rfl, (s.sub (.cons .here .nil)).sep⟩)

theorem rn_bits0 (w : World) (A : Option Addr) (c : Nat) : Ok Tryz.prog 229 [.slice A 0 c].toArray w fun r _ => r = .int .i64 0 := by
 refine ok_enter Tryz.func229 rfl Tryz.ntmps229 rfl ?_
 (refine gV ?_; refine gM ?_; refine gN ?_; refine gM ?_)
 refine gw_callm rfl (fun w _ => rn_norm0 w A c) rfl (fun x => ?_)
 (refine gM ?_; refine gO ?_; refine gQ ?_; refine gV ?_; refine gM ?_; refine gL ?_; apply gw_d; exact det_eq (c' := .bool true) (det_cmp rfl rfl rfl rfl rfl) (by rfl); refine gO ?_)
 refine gc_if_true rfl ?_
 (refine gV ?_; refine gM ?_; refine gO ?_; refine gR ?_; refine gT ?_)
 refine gi1 (fun _ _ => ?_)
 rfl
def Is1 (w : World) (A : Option Addr) (c : Nat) : Prop := Sl rU32 w w.heap.size (.slice A 1 c) [1]
theorem rn_norm1 (w : World) (A : Option Addr) (c : Nat) (h : Is1 w A c) : OkM Tryz.prog 223 [.slice A 1 c].toArray w (fun x : Option Addr × Nat => .slice x.1 1 x.2) (fun x => [R32 x [1]]) :=
 rn_norm w A c [1] h (by decide)
theorem Is1.later {w0 w : World} {L : List Res} {A : Option Addr} {c : Nat} (s : St w0 L w) (h : Is1 w0 A c) : Is1 w A c := Sl.later (l := [1]) s h
theorem Is1.own {w0 w : World} {L L' : List Res} {x : Option Addr × Nat} (s : St w0 L w) (hp : Pick L (R32 x [1]) L') : Is1 w x.1 x.2 := Sl.own32 (l := [1]) s hp rfl
theorem rn_bits1 (w : World) (A : Option Addr) (c : Nat) (h : Is1 w A c) : Ok Tryz.prog 229 [.slice A 1 c].toArray w fun r _ => r = .int .i64 1 := by
 refine ok_enter Tryz.func229 rfl Tryz.ntmps229 rfl ?_
 (refine gV ?_; refine gM ?_; refine gN ?_; refine gM ?_)
 refine gw_callm rfl (fun w s => rn_norm1 w A c (h.later s)) rfl (fun x => ?_)
 (refine gM ?_; refine gO ?_; refine gQ ?_; refine gV ?_; refine gM ?_; refine gL ?_; apply gw_d; exact det_eq (c' := .bool false) (det_cmp rfl rfl rfl rfl rfl) (by rfl); refine gO ?_)
 refine gc_if_false rfl ?_
 (refine gK ?_; refine gX ?_; refine gV ?_; refine gM ?_; refine gL ?_; refine gA ?_; refine gA ?_; refine gM ?_; refine gO ?_; refine gQ ?_; refine gV ?_; (iterate 2 refine gM ?_); refine gL ?_; refine gA ?_; apply gw_d; exact w_indexO (m := 0) rfl rfl rfl rfl rfl (by decide) .here; apply gw_d; exact w_loadO rfl rfl rfl .here (by decide) rfl; refine gM ?_; refine gO ?_; refine gB ?_)
 refine gc_rounds 2 (gr_succ ?_)
 (refine gQ ?_; refine gV ?_; refine gM ?_; apply gw_d; exact det_eq (c' := .bool true) (det_cmp rfl rfl rfl rfl rfl) (by rfl); refine gO ?_)
 refine gc_if_true rfl ?_
 (refine gK ?_; refine gX ?_; refine gQ ?_; refine gB ?_; refine gG ?_; refine gM ?_; refine gA ?_; refine gM ?_; refine gw_nil ?_; refine gH ?_; refine gX ?_; refine gG ?_; refine gM ?_; apply gw_d; exact det_quoC (r := 0) rfl rfl rfl rfl (by decide) (by rfl); refine gM ?_; refine gw_nil ?_)
 refine gx_rounds (gr_succ ?_)
 (refine gQ ?_; refine gV ?_; refine gM ?_; apply gw_d; exact det_eq (c' := .bool false) (det_cmp rfl rfl rfl rfl rfl) (by rfl); refine gO ?_)
 refine gc_if_false rfl ?_
 (refine gI ?_; (iterate 2 refine gZ ?_); refine gJ ?_; refine gX ?_; refine gV ?_; (iterate 2 refine gM ?_); refine gO ?_; refine gR ?_)
 refine gi1 (fun _ _ => ?_)
 rfl
theorem rn_limb1 (w : World) (A : Option Addr) (c : Nat) (h : Is1 w A c) : Ok Tryz.prog 227 [.slice A 1 c, .int .i64 0].toArray w fun r _ => r = .int .u64 1 := rn_limb w A c [1] 0 h (by decide)
theorem rn_limb1' (w : World) (A : Option Addr) (c : Nat) (h : Is1 w A c) : Ok Tryz.prog 227 [.slice A 1 c, .int .i64 1].toArray w fun r _ => r = .int .u64 0 := rn_limb w A c [1] 1 h (by decide)
theorem rn_shift (w : World) (A : Option Addr) (c : Nat) (h : Is1 w A c) : OkM Tryz.prog 230 [.slice A 1 c, .int .i64 0].toArray w (fun x : Option Addr × Nat => .slice x.1 1 x.2) (fun x => [R32 x [1]]) := by
 have q0 : ∀ (L : List Res) (w' : World), St w L w' → Ok Tryz.prog 227 [.slice A 1 c, .int .i64 0].toArray w' fun r _ => r = .int .u64 1 := fun L w' s => rn_limb1 w' A c (h.later s)
 have q1 : ∀ (L : List Res) (w' : World), St w L w' → Ok Tryz.prog 227 [.slice A 1 c, .int .i64 1].toArray w' fun r _ => r = .int .u64 0 := fun L w' s => rn_limb1' w' A c (h.later s)
 unfold OkM
 refine ok_enter Tryz.func230 rfl Tryz.ntmps230 rfl ?_
 (refine gV ?_; refine gM ?_; refine gN ?_; refine gM ?_; apply gw_d; exact det_quo rfl rfl rfl rfl (by omega) (by omega) (by omega))
 refine gw_makeN (n := 0) rfl rfl rfl (by rfl) (by rfl) (by decide) (by decide) (fun b => ?_)
 refine gw_ent (box_own (n := 0) (c := 0) (sz := 1) (xs := []) ⟨Nat.le_refl _, by decide, by kernel_rfl⟩ (by kernel_rfl)) ?_
 (refine gM ?_; refine gN ?_; refine gM ?_; refine gO ?_; refine gQ ?_; refine gV ?_; refine gM ?_; refine gO ?_; refine gB ?_)
 refine gc_rounds 3 (gr_succ ?_)
 (refine gQ ?_; refine gV ?_; (iterate 2 refine gM ?_); refine gL ?_; apply gw_d; exact det_eq (c' := .bool true) (det_cmp rfl rfl rfl rfl rfl) (by rfl); refine gO ?_)
 refine gc_if_true rfl ?_
 (refine gK ?_; refine gX ?_; refine gQ ?_; refine gB ?_; refine gV ?_; (iterate 2 refine gM ?_); apply gw_d; exact w_call rfl rfl (q0 _) rfl; refine gM ?_; apply gw_d; exact det_rem rfl rfl rfl rfl (by omega) (by omega); apply gw_d; exact det_conv (r := 0) rfl rfl rfl (by rfl); apply gw_d; exact det_shl (r := 1) rfl rfl rfl rfl (by decide) (by rfl); refine gM ?_; apply gw_d; exact det_ar_wrap (r := 1) rfl rfl rfl rfl (by rfl); refine gM ?_; refine gN ?_; (iterate 2 refine gM ?_); apply gw_d; exact det_remC (r := 1) rfl rfl rfl rfl (by decide) (by rfl); apply gw_d; exact det_conv (r := 1) rfl rfl rfl (by rfl))
 refine gw_bslice1 (v := .int .u32 1) rfl rfl rfl rfl rfl (fun b1 => ?_)
 refine gw_push32 (l := []) rfl rfl rfl (.there .here) .here (by decide) (by decide) rfl (fun A1 c1 => ?_)
 (refine gM ?_; refine gO ?_; refine gG ?_; refine gM ?_; apply gw_d; exact det_quoC (r := 0) rfl rfl rfl rfl (by decide) (by rfl); refine gM ?_; refine gw_nil ?_; refine gH ?_; refine gX ?_; refine gG ?_; refine gM ?_; refine gA ?_; refine gM ?_; refine gw_nil ?_)
 refine gx_rounds (gr_succ ?_)
 (refine gQ ?_; refine gV ?_; (iterate 2 refine gM ?_); refine gL ?_; apply gw_d; exact det_eq (c' := .bool true) (det_cmp rfl rfl rfl rfl rfl) (by rfl); refine gO ?_)
 refine gc_if_true rfl ?_
 (refine gK ?_; refine gX ?_; refine gQ ?_; refine gB ?_; refine gV ?_; (iterate 2 refine gM ?_); apply gw_d; exact w_call rfl rfl (q1 _) rfl; refine gM ?_; apply gw_d; exact det_rem rfl rfl rfl rfl (by omega) (by omega); apply gw_d; exact det_conv (r := 0) rfl rfl rfl (by rfl); apply gw_d; exact det_shl (r := 0) rfl rfl rfl rfl (by decide) (by rfl); refine gM ?_; apply gw_d; exact det_ar_wrap (r := 0) rfl rfl rfl rfl (by rfl); refine gM ?_; refine gN ?_; (iterate 2 refine gM ?_); apply gw_d; exact det_remC (r := 0) rfl rfl rfl rfl (by decide) (by rfl); apply gw_d; exact det_conv (r := 0) rfl rfl rfl (by rfl))
 refine gw_bslice1 (v := .int .u32 0) rfl rfl rfl rfl rfl (fun b2 => ?_)
 refine gw_push32 (l := [1]) rfl rfl rfl (.there .here) .here (by decide) (by decide) rfl (fun A2 c2 => ?_)
 (refine gM ?_; refine gO ?_; refine gG ?_; refine gM ?_; apply gw_d; exact det_quoC (r := 0) rfl rfl rfl rfl (by decide) (by rfl); refine gM ?_; refine gw_nil ?_; refine gH ?_; refine gX ?_; refine gG ?_; refine gM ?_; refine gA ?_; refine gM ?_; refine gw_nil ?_)
 refine gx_rounds (gr_succ ?_)
 (refine gQ ?_; refine gV ?_; (iterate 2 refine gM ?_); refine gL ?_; apply gw_d; exact det_eq (c' := .bool false) (det_cmp rfl rfl rfl rfl rfl) (by rfl); refine gO ?_)
 refine gc_if_false rfl ?_
 (refine gI ?_; (iterate 2 refine gZ ?_); refine gJ ?_; refine gX ?_; refine gV ?_; refine gM ?_)
 refine gw_callm rfl (fun w s => rn_norm w A2 c2 [1, 0] (Sl.own32 (l := [1, 0]) s .here rfl) (by decide)) rfl (fun x => ?_)
 (refine gM ?_; refine gO ?_; refine gR ?_)
 exact gx_ret1 (v := .slice _ _ _) rfl rfl (fun w' s => ⟨x, rfl, (s.sub (.cons .here .nil)).sep⟩)
theorem rn_cmp0 (w : World) (A B : Option Addr) (c d : Nat) : Ok Tryz.prog 208 [.slice A 0 c, .slice B 0 d].toArray w fun r _ => r = .int .i64 0 := by
 refine ok_enter Tryz.func208 rfl Tryz.ntmps208 rfl ?_
 (refine gV ?_; refine gM ?_; refine gO ?_; refine gQ ?_; refine gV ?_; refine gM ?_; refine gL ?_; refine gM ?_; refine gL ?_; apply gw_d; exact w_max rfl rfl rfl rfl; refine gA ?_; refine gM ?_; refine gO ?_; refine gB ?_)
 refine gc_rounds 1 (gr_succ ?_)
 (refine gQ ?_; refine gV ?_; refine gM ?_; apply gw_d; exact det_eq (c' := .bool false) (det_cmp rfl rfl rfl rfl rfl) (by rfl); refine gO ?_)
 refine gc_if_false rfl ?_
 (refine gI ?_; (iterate 2 refine gZ ?_); refine gJ ?_; refine gX ?_; refine gV ?_; refine gM ?_; refine gO ?_; refine gR ?_)
 refine gi1 (fun _ _ => ?_)
 rfl
theorem rn_cmp1 (w : World) (A B : Option Addr) (c d : Nat) (h : Is1 w A c) (g : Is1 w B d) : Ok Tryz.prog 208 [.slice A 1 c, .slice B 1 d].toArray w fun r _ => r = .int .i64 0 := by
 have q0 : ∀ (L : List Res) (w' : World), St w L w' → Ok Tryz.prog 227 [.slice A 1 c, .int .i64 (max (((1 : Nat) : Int)) (((1 : Nat) : Int)) - 1)].toArray w' fun r _ => r = .int .u64 1 := fun L w' s => rn_limb1 w' A c (h.later s)
 have q1 : ∀ (L : List Res) (w' : World), St w L w' → Ok Tryz.prog 227 [.slice B 1 d, .int .i64 (max (((1 : Nat) : Int)) (((1 : Nat) : Int)) - 1)].toArray w' fun r _ => r = .int .u64 1 := fun L w' s => rn_limb1 w' B d (g.later s)
 refine ok_enter Tryz.func208 rfl Tryz.ntmps208 rfl ?_
 (refine gV ?_; refine gM ?_; refine gO ?_; refine gQ ?_; refine gV ?_; refine gM ?_; refine gL ?_; refine gM ?_; refine gL ?_; apply gw_d; exact w_max rfl rfl rfl rfl; refine gA ?_; refine gM ?_; refine gO ?_; refine gB ?_)
 refine gc_rounds 2 (gr_succ ?_)
 (refine gQ ?_; refine gV ?_; refine gM ?_; apply gw_d; exact det_eq (c' := .bool true) (det_cmp rfl rfl rfl rfl rfl) (by rfl); refine gO ?_)
 refine gc_if_true rfl ?_
 (refine gK ?_; refine gX ?_; refine gQ ?_; refine gB ?_; refine gQ ?_; refine gV ?_; (iterate 2 refine gM ?_); apply gw_d; exact w_call rfl rfl (q0 _) rfl; (iterate 2 refine gM ?_); apply gw_d; exact w_call rfl rfl (q1 _) rfl; apply gw_d; exact det_eq (c' := .bool false) (det_cmp rfl rfl rfl rfl rfl) (by rfl); refine gO ?_)
 refine gc_if_false rfl ?_
 (refine gK ?_; refine gX ?_; refine gV ?_; (iterate 2 refine gM ?_); apply gw_d; exact w_call rfl rfl (q0 _) rfl; (iterate 2 refine gM ?_); apply gw_d; exact w_call rfl rfl (q1 _) rfl; apply gw_d; exact det_eq (c' := .bool false) (det_cmp rfl rfl rfl rfl rfl) (by rfl); refine gO ?_)
 refine gc_if_false rfl ?_
 (refine gK ?_; refine gH ?_; refine gX ?_; refine gG ?_; refine gM ?_; refine gA ?_; refine gM ?_; refine gw_nil ?_)
 refine gx_rounds (gr_succ ?_)
 (refine gQ ?_; refine gV ?_; refine gM ?_; apply gw_d; exact det_eq (c' := .bool false) (det_cmp rfl rfl rfl rfl rfl) (by rfl); refine gO ?_)
 refine gc_if_false rfl ?_
 (refine gI ?_; (iterate 2 refine gZ ?_); refine gJ ?_; refine gX ?_; refine gV ?_; refine gM ?_; refine gO ?_; refine gR ?_)
 refine gi1 (fun _ _ => ?_)
 rfl
theorem rn_sub (w : World) (A B : Option Addr) (c d : Nat) (h : Is1 w A c) (g : Is1 w B d) : OkM Tryz.prog 231 [.slice A 1 c, .slice B 1 d].toArray w (fun x : Option Addr × Nat => .tuple #[.slice x.1 0 x.2, .bool true]) (fun _ => []) := by
 have q0 : ∀ (L : List Res) (w' : World), St w L w' → Ok Tryz.prog 227 [.slice A 1 c, .int .i64 0].toArray w' fun r _ => r = .int .u64 1 := fun L w' s => rn_limb1 w' A c (h.later s)
 have q1 : ∀ (L : List Res) (w' : World), St w L w' → Ok Tryz.prog 227 [.slice B 1 d, .int .i64 0].toArray w' fun r _ => r = .int .u64 1 := fun L w' s => rn_limb1 w' B d (g.later s)
 unfold OkM
 refine ok_enter Tryz.func231 rfl Tryz.ntmps231 rfl ?_
 (refine gV ?_; (iterate 2 refine gM ?_); refine gO ?_; refine gQ ?_; refine gV ?_; (iterate 2 refine gM ?_); apply gw_d; exact w_call rfl rfl (fun w s => rn_cmp1 w A B c d (h.later s) (g.later s)) rfl; apply gw_d; exact det_eq (c' := .bool false) (det_cmp rfl rfl rfl rfl rfl) (by rfl); refine gO ?_)
 refine gc_if_false rfl ?_
 (refine gK ?_; refine gX ?_; refine gV ?_; refine gM ?_; refine gN ?_; refine gM ?_; refine gO ?_; refine gQ ?_; refine gV ?_; refine gM ?_; refine gO ?_; refine gB ?_)
 refine gc_own0 240 1 ?_
 refine gc_rounds 2 (gr_succ ?_)
 (refine gQ ?_; refine gV ?_; (iterate 2 refine gM ?_); refine gL ?_; refine gM ?_; refine gL ?_; apply gw_d; exact w_max rfl rfl rfl rfl; apply gw_d; exact det_eq (c' := .bool true) (det_cmp rfl rfl rfl rfl rfl) (by rfl); refine gO ?_)
 refine gc_if_true rfl ?_
 (refine gK ?_; refine gX ?_; refine gQ ?_; refine gB ?_; refine gV ?_; (iterate 2 refine gM ?_); apply gw_d; exact w_call rfl rfl (q0 _) rfl; apply gw_d; exact det_ar_wrap (r := 4294967297) rfl rfl rfl rfl (by rfl); (iterate 2 refine gM ?_); apply gw_d; exact w_call rfl rfl (q1 _) rfl; apply gw_d; exact det_ar_wrap (r := 4294967296) rfl rfl rfl rfl (by rfl); refine gM ?_; apply gw_d; exact det_ar_wrap (r := 4294967296) rfl rfl rfl rfl (by rfl); refine gM ?_; refine gN ?_; (iterate 2 refine gM ?_); apply gw_d; exact det_remC (r := 0) rfl rfl rfl rfl (by decide) (by rfl); apply gw_d; exact det_conv (r := 0) rfl rfl rfl (by rfl))
 refine gw_bslice1 (v := .int .u32 0) rfl rfl rfl rfl rfl (fun b1 => ?_)
 refine gw_push32 (l := []) rfl rfl rfl (.there .here) .here (by decide) (by decide) rfl (fun A1 c1 => ?_)
 (refine gM ?_; refine gO ?_; refine gG ?_; refine gM ?_; apply gw_d; exact det_quoC (r := 1) rfl rfl rfl rfl (by decide) (by rfl); apply gw_d; exact det_ar_wrap (r := 0) rfl rfl rfl rfl (by rfl); refine gM ?_; refine gw_nil ?_; refine gH ?_; refine gX ?_; refine gG ?_; refine gM ?_; refine gA ?_; refine gM ?_; refine gw_nil ?_)
 refine gx_rounds (gr_succ ?_)
 (refine gQ ?_; refine gV ?_; (iterate 2 refine gM ?_); refine gL ?_; refine gM ?_; refine gL ?_; apply gw_d; exact w_max rfl rfl rfl rfl; apply gw_d; exact det_eq (c' := .bool false) (det_cmp rfl rfl rfl rfl rfl) (by rfl); refine gO ?_)
 refine gc_if_false rfl ?_
 (refine gI ?_; (iterate 2 refine gZ ?_); refine gJ ?_; refine gX ?_; refine gV ?_; refine gM ?_)
 refine gw_callm rfl (fun w s => rn_norm w A1 c1 [0] (Sl.own32 (l := [0]) s .here rfl) (by decide)) rfl (fun x => ?_)
 ((iterate 2 refine gM ?_); refine gO ?_; refine gR ?_)
 exact gx_ret2 (u := .slice _ _ _) (v := .bool _) rfl rfl rfl (fun w' s => ⟨x, rfl, trivial⟩)
theorem rn_half (w : World) (A : Option Addr) (c : Nat) (h : Is1 w A c) : OkM Tryz.prog 232 [.slice A 1 c].toArray w (fun x : Option Addr × Nat => .slice x.1 0 x.2) (fun _ => []) := by
 have q0 : ∀ (L : List Res) (w' : World), St w L w' → Ok Tryz.prog 227 [.slice A 1 c, .int .i64 0].toArray w' fun r _ => r = .int .u64 1 := fun L w' s => rn_limb1 w' A c (h.later s)
 have q1 : ∀ (L : List Res) (w' : World), St w L w' → Ok Tryz.prog 227 [.slice A 1 c, .int .i64 (0 + 1)].toArray w' fun r _ => r = .int .u64 0 := fun L w' s => rn_limb1' w' A c (h.later s)
 unfold OkM
 refine ok_enter Tryz.func232 rfl Tryz.ntmps232 rfl ?_
 (refine gV ?_; refine gM ?_; refine gN ?_; refine gM ?_; refine gO ?_; refine gQ ?_; refine gV ?_; refine gM ?_; refine gO ?_; refine gB ?_)
 refine gc_own0 240 1 ?_
 refine gc_rounds 2 (gr_succ ?_)
 (refine gQ ?_; refine gV ?_; (iterate 2 refine gM ?_); refine gL ?_; apply gw_d; exact det_eq (c' := .bool true) (det_cmp rfl rfl rfl rfl rfl) (by rfl); refine gO ?_)
 refine gc_if_true rfl ?_
 (refine gK ?_; refine gX ?_; refine gQ ?_; refine gB ?_; refine gG ?_; (iterate 3 refine gM ?_); apply gw_d; exact w_call rfl rfl (q0 _) rfl; apply gw_d; exact det_quoC (r := 0) rfl rfl rfl rfl (by decide) (by rfl); (iterate 2 refine gM ?_); refine gA ?_; apply gw_d; exact w_call rfl rfl (q1 _) rfl; apply gw_d; exact det_remC (r := 0) rfl rfl rfl rfl (by decide) (by rfl); apply gw_d; exact det_ar_wrap (r := 0) rfl rfl rfl rfl (by rfl); apply gw_d; exact det_ar_wrap (r := 0) rfl rfl rfl rfl (by rfl); apply gw_d; exact det_conv (r := 0) rfl rfl rfl (by rfl))
 refine gw_bslice1 (v := .int .u32 0) rfl rfl rfl rfl rfl (fun b1 => ?_)
 refine gw_push32 (l := []) rfl rfl rfl (.there .here) .here (by decide) (by decide) rfl (fun A1 c1 => ?_)
 (refine gM ?_; refine gw_nil ?_; refine gH ?_; refine gX ?_; refine gG ?_; refine gM ?_; refine gA ?_; refine gM ?_; refine gw_nil ?_)
 refine gx_rounds (gr_succ ?_)
 (refine gQ ?_; refine gV ?_; (iterate 2 refine gM ?_); refine gL ?_; apply gw_d; exact det_eq (c' := .bool false) (det_cmp rfl rfl rfl rfl rfl) (by rfl); refine gO ?_)
 refine gc_if_false rfl ?_
 (refine gI ?_; (iterate 2 refine gZ ?_); refine gJ ?_; refine gX ?_; refine gV ?_; refine gM ?_)
 refine gw_callm rfl (fun w s => rn_norm w A1 c1 [0] (Sl.own32 (l := [0]) s .here rfl) (by decide)) rfl (fun x => ?_)
 (refine gM ?_; refine gO ?_; refine gR ?_)
 exact gx_ret1 (v := .slice _ _ _) rfl rfl (fun w' s => ⟨x, rfl, trivial⟩)
theorem rn_mul0 (w : World) (A B : Option Addr) (c d : Nat) : OkM Tryz.prog 210 [.slice A 0 c, .slice B 1 d].toArray w (fun x : Option Addr × Nat => .slice x.1 0 x.2) (fun _ => []) := by
 unfold OkM
 refine ok_enter Tryz.func210 rfl Tryz.ntmps210 rfl ?_
 (refine gV ?_; refine gM ?_; refine gN ?_; refine gM ?_; refine gL ?_; refine gM ?_; refine gL ?_; refine gA ?_)
 refine gw_makeN (n := 1) rfl rfl rfl (by rfl) (by rfl) (by decide) (by decide) (fun b => ?_)
 rw [show madeCells (Value.int .u32 0).cells (1 * 1) = #[.int .u32 0] by kernel_rfl]
 (refine gM ?_; refine gO ?_; refine gQ ?_; refine gV ?_; refine gM ?_; refine gO ?_; refine gB ?_)
 refine gc_rounds 1 (gr_succ ?_)
 (refine gQ ?_; refine gV ?_; (iterate 2 refine gM ?_); refine gL ?_; apply gw_d; exact det_eq (c' := .bool false) (det_cmp rfl rfl rfl rfl rfl) (by rfl); refine gO ?_)
 refine gc_if_false rfl ?_
 (refine gI ?_; (iterate 2 refine gZ ?_); refine gJ ?_; refine gX ?_; refine gV ?_; refine gM ?_)
 refine gw_callm rfl (fun w s => rn_norm w _ _ [0] (Sl.box32 s .here (by decide) (by decide)) (by decide)) rfl (fun x => ?_)
 (refine gM ?_; refine gO ?_; refine gR ?_)
 exact gx_ret1 (v := .slice _ _ _) rfl rfl (fun w' s => ⟨x, rfl, trivial⟩)

theorem rn_div0 (w : World) (A B : Option Addr) (c d : Nat) (g : Is1 w B d) : OkM Tryz.prog 226 [.slice A 0 c, .slice B 1 d].toArray w (fun x : Option Addr × Nat => .tuple #[.slice none 0 0, .slice x.1 0 x.2, .bool true]) (fun _ => []) := by
 have hb : ∀ (L : List Res) (w' : World), St w L w' → Ok Tryz.prog 229 [.slice B 1 d].toArray w' fun r _ => r = .int .i64 1 := fun L w' s => rn_bits1 w' B d (g.later s)
 unfold OkM
 refine ok_enter Tryz.func226 rfl Tryz.ntmps226 rfl ?_
 (refine gV ?_; (iterate 3 refine gM ?_); refine gO ?_; refine gQ ?_; refine gV ?_; refine gM ?_; apply gw_d; exact w_call rfl rfl (hb _) rfl; apply gw_d; exact det_eq (c' := .bool false) (det_cmp rfl rfl rfl rfl rfl) (by rfl); refine gO ?_)
 refine gc_if_false rfl ?_
 (refine gK ?_; refine gX ?_; refine gV ?_; refine gM ?_)
 refine gw_callm rfl (fun w _ => rn_norm0 w A c) rfl (fun x => ?_)
 have h0 : ∀ (L : List Res) (w' : World), St w L w' → Ok Tryz.prog 229 [.slice x.1 0 x.2].toArray w' fun r _ => r = .int .i64 0 := fun L w' _ => rn_bits0 w' x.1 x.2
 (refine gM ?_; refine gN ?_; refine gM ?_; apply gw_d; exact w_call rfl rfl (h0 _) rfl; refine gM ?_; apply gw_d; exact w_call rfl rfl (hb _) rfl; refine gA ?_; refine gM ?_; refine gO ?_; refine gQ ?_; refine gV ?_; refine gM ?_; apply gw_d; exact det_eq (c' := .bool true) (det_cmp rfl rfl rfl rfl rfl) (by rfl); refine gO ?_)
 refine gc_if_true rfl ?_
 (refine gV ?_; (iterate 4 refine gM ?_); refine gO ?_; refine gR ?_; refine gT ?_)
 exact gx_ret3 (u := .slice _ _ _) (v := .slice _ _ _) (x := .bool _) rfl rfl rfl rfl (fun w' s => ⟨x, rfl, trivial⟩)
theorem rn_div1 (w : World) (A B : Option Addr) (c d : Nat) (h : Is1 w A c) (g : Is1 w B d) : OkM Tryz.prog 226 [.slice A 1 c, .slice B 1 d].toArray w (fun x : (Option Addr × Nat) × Option Addr × Nat => .tuple #[.slice x.1.1 1 x.1.2, .slice x.2.1 0 x.2.2, .bool true]) (fun _ => []) := by
 have hb : ∀ (L : List Res) (w' : World), St w L w' → Ok Tryz.prog 229 [.slice B 1 d].toArray w' fun r _ => r = .int .i64 1 := fun L w' s => rn_bits1 w' B d (g.later s)
 unfold OkM
 refine ok_enter Tryz.func226 rfl Tryz.ntmps226 rfl ?_
 (refine gV ?_; (iterate 3 refine gM ?_); refine gO ?_; refine gQ ?_; refine gV ?_; refine gM ?_; apply gw_d; exact w_call rfl rfl (hb _) rfl; apply gw_d; exact det_eq (c' := .bool false) (det_cmp rfl rfl rfl rfl rfl) (by rfl); refine gO ?_)
 refine gc_if_false rfl ?_
 (refine gK ?_; refine gX ?_; refine gV ?_; refine gM ?_)
 refine gw_callm rfl (fun w s => rn_norm1 w A c (h.later s)) rfl (fun x => ?_)
 (refine gM ?_; refine gN ?_; refine gM ?_; apply gw_d; exact w_call rfl rfl (fun w s => rn_bits1 w x.1 x.2 (Is1.own s .here)) rfl; refine gM ?_; apply gw_d; exact w_call rfl rfl (hb _) rfl; refine gA ?_; refine gM ?_; refine gO ?_; refine gQ ?_; refine gV ?_; refine gM ?_; apply gw_d; exact det_eq (c' := .bool false) (det_cmp rfl rfl rfl rfl rfl) (by rfl); refine gO ?_)
 refine gc_if_false rfl ?_
 (refine gK ?_; refine gX ?_; refine gV ?_; refine gM ?_; apply gw_d; exact det_quo rfl rfl rfl rfl (by omega) (by omega) (by omega); refine gA ?_)
 refine gw_makeN (n := 1) rfl rfl rfl (by rfl) (by rfl) (by decide) (by decide) (fun b => ?_)
 rw [show madeCells (Value.int .u32 0).cells (1 * 1) = #[.int .u32 0] by kernel_rfl]
 (refine gM ?_; refine gN ?_; (iterate 2 refine gM ?_))
 refine gw_callm rfl (fun w s => rn_shift w B d (g.later s)) rfl (fun y => ?_)
 (refine gM ?_; refine gO ?_; refine gQ ?_; refine gV ?_; (iterate 2 refine gM ?_); refine gO ?_; refine gB ?_)
 refine gc_rounds 2 (gr_succ ?_)
 (refine gQ ?_; refine gV ?_; refine gM ?_; apply gw_d; exact det_eq (c' := .bool true) (det_cmp rfl rfl rfl rfl rfl) (by rfl); refine gO ?_)
 refine gc_if_true rfl ?_
 (refine gK ?_; refine gX ?_; refine gQ ?_; refine gB ?_; refine gV ?_; (iterate 2 refine gM ?_))
 refine gw_callm rfl (fun w s => rn_sub w x.1 y.1 x.2 y.2 (Is1.own s (.there (.there .here))) (Is1.own s .here)) rfl (fun z => ?_)
 (refine gM ?_; apply gw_d; exact det_extract rfl rfl rfl (by conv => (lhs; whnf)); apply gw_d; exact det_extract rfl rfl rfl (by conv => (lhs; whnf)); (iterate 2 refine gM ?_); refine gO ?_; refine gQ ?_; refine gV ?_; refine gM ?_; refine gO ?_)
 refine gc_if_true rfl ?_
 (refine gV ?_; (iterate 2 refine gM ?_); refine gO ?_; refine gG ?_; (iterate 2 refine gM ?_); apply gw_d; exact det_quo rfl rfl rfl rfl (by omega) (by omega) (by omega); (iterate 2 refine gM ?_); apply gw_d; exact det_quo rfl rfl rfl rfl (by omega) (by omega) (by omega); apply gw_d; exact w_index (m := 0) rfl rfl rfl rfl rfl (by decide); refine gW (.there .here) ?_; refine gM ?_; apply gw_d; exact det_rem rfl rfl rfl rfl (by omega) (by omega); apply gw_d; exact det_conv (r := 0) rfl rfl rfl (by rfl); apply gw_d; exact det_shl (r := 1) rfl rfl rfl rfl (by decide) (by rfl); apply gw_d; exact det_ar_wrap (r := 1) rfl rfl rfl rfl (by rfl); apply gw_d; exact w_index (m := 0) rfl rfl rfl rfl rfl (by decide))
 refine w_store_row (n := 1) (v := .int .u32 1) rfl rfl rfl rfl rfl (.there .here) (by decide) (cs' := #[.int .u32 1]) (by rfl) ?_
 (refine gO ?_; refine gG ?_; refine gM ?_)
 refine gw_callm rfl (fun w s => rn_half w y.1 y.2 (Is1.own s (.there .here))) rfl (fun u => ?_)
 (refine gM ?_; refine gw_nil ?_; refine gH ?_; refine gX ?_; refine gG ?_; refine gM ?_; refine gA ?_; refine gM ?_; refine gw_nil ?_)
 refine gx_rounds (gr_succ ?_)
 (refine gQ ?_; refine gV ?_; refine gM ?_; apply gw_d; exact det_eq (c' := .bool false) (det_cmp rfl rfl rfl rfl rfl) (by rfl); refine gO ?_)
 refine gc_if_false rfl ?_
 (refine gI ?_; (iterate 2 refine gZ ?_); refine gJ ?_; refine gX ?_; refine gV ?_; refine gM ?_)
 refine gw_callm rfl (fun w s => rn_norm1 w _ 1 (Sl.box32 (l := [1]) s .here (by decide) (by decide))) rfl (fun q => ?_)
 ((iterate 4 refine gM ?_); refine gO ?_; refine gR ?_)
 exact gx_ret3 (u := .slice _ _ _) (v := .slice _ _ _) (x := .bool _) rfl rfl rfl rfl (fun w' s => ⟨(q, z), rfl, trivial⟩)
theorem rn_gcd (w : World) (A B : Option Addr) (c d : Nat) (g : Is1 w B d) : OkM Tryz.prog 225 [.slice A 0 c, .slice B 1 d].toArray w (fun x : Option Addr × Nat => .slice x.1 1 x.2) (fun x => [R32 x [1]]) := by
 unfold OkM
 refine ok_enter Tryz.func225 rfl Tryz.ntmps225 rfl ?_
 (refine gV ?_; refine gM ?_; refine gN ?_; refine gM ?_)
 refine gw_callm rfl (fun w _ => rn_norm0 w A c) rfl (fun x => ?_)
 (refine gM ?_)
 refine gw_callm rfl (fun w s => rn_norm1 w B d (g.later s)) rfl (fun y => ?_)
 ((iterate 2 refine gM ?_); refine gO ?_; refine gQ ?_; refine gB ?_)
 refine gc_rounds 2 (gr_succ ?_)
 (refine gQ ?_; refine gV ?_; refine gM ?_; refine gL ?_; apply gw_d; exact det_eq (c' := .bool true) (det_cmp rfl rfl rfl rfl rfl) (by rfl); refine gO ?_)
 refine gc_if_true rfl ?_
 (refine gK ?_; refine gX ?_; refine gB ?_; refine gV ?_; (iterate 2 refine gM ?_))
 refine gw_callm rfl (fun w s => rn_div0 w x.1 y.1 x.2 y.2 (Is1.own s .here)) rfl (fun z => ?_)
 (refine gM ?_; apply gw_d; exact det_extract rfl rfl rfl (by conv => (lhs; whnf)); apply gw_d; exact det_extract rfl rfl rfl (by conv => (lhs; whnf)); apply gw_d; exact det_extract rfl rfl rfl (by conv => (lhs; whnf)); (iterate 3 refine gM ?_); refine gO ?_; refine gG ?_; (iterate 4 refine gM ?_); refine gw_nil ?_; refine gH ?_)
 refine gx_rounds (gr_succ ?_)
 (refine gQ ?_; refine gV ?_; refine gM ?_; refine gL ?_; apply gw_d; exact det_eq (c' := .bool false) (det_cmp rfl rfl rfl rfl rfl) (by rfl); refine gO ?_)
 refine gc_if_false rfl ?_
 (refine gI ?_; (iterate 2 refine gZ ?_); refine gJ ?_; refine gX ?_; refine gV ?_; (iterate 2 refine gM ?_); refine gO ?_; refine gR ?_)
 exact gx_ret1 (v := .slice _ _ _) rfl rfl (fun w' s => ⟨y, rfl, (s.sub (.cons .here .nil)).sep⟩)
theorem rdigit_ok (w : World) (c : Int) : Ok Tryz.prog 99 [.int .u8 c].toArray w fun r _ => r = .bool (decide (48 ≤ c ∧ c ≤ 57)) := by
 refine ok_enter Tryz.func99 rfl Tryz.ntmps99 rfl ?_
 focus (refine gV ?_; refine gM ?_; refine gN ?_; refine gM ?_; refine gC ?_; refine gM ?_; refine gD (fun _ => ?_) (fun _ => ?_); refine gM ?_; refine gC ?_; refine gPp ?_; refine gM ?_; refine gO ?_; refine gR ?_; rotate_left; (iterate 2 refine gU ?_); refine gPq ?_; refine gM ?_; refine gO ?_; refine gR ?_; rotate_left)
 all_goals (refine gb1 (fun _ _ => ?_); simp [*])
theorem rname_ok (w : World) (s : ByteArray) (hs : s.size ≤ 9223372036854775807) : Ok Tryz.prog 82 [.string s].toArray w fun r _ => r = .bool (nameB s) := by
 by_cases h0 : s.size = 0
 ·have hE : (s.toList == (ByteArray.mk #[]).toList) = true := by rw [ba_empty]; exact decide_eq_true h0
  have hN : nameB s = false := by unfold nameB; simp [h0]
  rw [hN]
  refine ok_enter Tryz.func82 rfl Tryz.ntmps82 rfl ?_
  (refine gV ?_; refine gM ?_; refine gO ?_; refine gQ ?_; refine gV ?_; refine gM ?_; apply gw_d; exact det_seq rfl rfl rfl rfl; refine gM ?_)
  refine gw_guard rfl rfl (fun _ => ?_) (fun h => by rw [hE] at h; cases h)
  ((iterate 3 refine gU ?_); refine gPp ?_; refine gM ?_; (iterate 2 refine gU ?_); refine gPp ?_; refine gM ?_; (iterate 2 refine gU ?_); refine gPp ?_; refine gM ?_; (iterate 3 refine gU ?_); refine gPp ?_; refine gM ?_; (iterate 3 refine gU ?_); refine gPp ?_; refine gO ?_; refine gc_if_true rfl ?_; refine gV ?_; refine gM ?_; refine gO ?_; refine gR ?_; refine gT ?_)
  all_goals (refine gb1 (fun _ _ => ?_); rfl)
 ·have hE : (s.toList == (ByteArray.mk #[]).toList) = false := by rw [ba_empty]; exact decide_eq_false h0
  have hfirst : charB s 0 = decide (97 ≤ bAt s 0 ∧ bAt s 0 ≤ 122) := by
   unfold charB letterB
   simp
  refine ok_enter Tryz.func82 rfl Tryz.ntmps82 rfl ?_
  (refine gV ?_; refine gM ?_; refine gO ?_; refine gQ ?_; refine gV ?_; refine gM ?_; apply gw_d; exact det_seq rfl rfl rfl rfl; refine gM ?_)
  refine gw_guard rfl rfl (fun h => by rw [hE] at h; cases h) (fun _ => ?_)
  focus (refine gM ?_; apply gw_d; exact w_len_str rfl rfl rfl; refine gC ?_; refine gPq ?_; refine gM ?_; refine gD (fun _ => ?_) (fun _ => ?_); (iterate 2 refine gU ?_); refine gPp ?_; refine gM ?_; (iterate 2 refine gU ?_); refine gPp ?_; refine gM ?_; (iterate 3 refine gU ?_); refine gPp ?_; refine gM ?_; (iterate 3 refine gU ?_); refine gPp ?_; refine gO ?_; refine gc_if_true rfl ?_; refine gV ?_; refine gM ?_; refine gO ?_; refine gR ?_; refine gT ?_; rotate_left; refine gM ?_; apply gw_d; exact det_seq rfl rfl rfl rfl; refine gPq ?_; refine gM ?_; refine gw_guard rfl rfl (fun _ => ?_) (fun _ => ?_); (iterate 2 refine gU ?_); refine gPp ?_; refine gM ?_; (iterate 3 refine gU ?_); refine gPp ?_; refine gM ?_; (iterate 3 refine gU ?_); refine gPp ?_; refine gO ?_; refine gc_if_true rfl ?_; refine gV ?_; refine gM ?_; refine gO ?_; refine gR ?_; refine gT ?_; rotate_left; refine gM ?_; apply gw_d; exact det_seq rfl rfl rfl rfl; refine gPq ?_; refine gM ?_; refine gw_guard rfl rfl (fun _ => ?_) (fun _ => ?_); (iterate 3 refine gU ?_); refine gPp ?_; refine gM ?_; (iterate 3 refine gU ?_); refine gPp ?_; refine gO ?_; refine gc_if_true rfl ?_; refine gV ?_; refine gM ?_; refine gO ?_; refine gR ?_; refine gT ?_; rotate_left; refine gM ?_; apply gw_d; exact w_sidx rfl rfl rfl rfl (by with_reducible exact cast0) (by omega); refine gC ?_; refine gPq ?_; refine gM ?_; refine gD (fun _ => ?_) (fun _ => ?_); (iterate 3 refine gU ?_); refine gPp ?_; refine gO ?_; refine gc_if_true rfl ?_; refine gV ?_; refine gM ?_; refine gO ?_; refine gR ?_; refine gT ?_; rotate_left; refine gM ?_; apply gw_d; exact w_sidx rfl rfl rfl rfl (by with_reducible exact cast0) (by omega); refine gC ?_; refine gPq ?_; refine gO ?_; refine gc_if_dec rfl (fun _ => ?_) (fun _ => ?_); refine gV ?_; refine gM ?_; refine gO ?_; refine gR ?_; refine gT ?_; rotate_left; refine gK ?_; refine gX ?_; refine gQ ?_; refine gV ?_; refine gM ?_; refine gO ?_; refine gB ?_; rotate_left)
  ·refine gb1 (fun _ _ => ?_)
   rename_i h _ _
   have h' : ¬ s.size ≤ 24 := by omega
   unfold nameB
   simp [h']
  ·refine gb1 (fun _ _ => ?_)
   rename_i h _ _
   unfold nameB
   rw [h]
   simp
  ·refine gb1 (fun _ _ => ?_)
   rename_i h _ _
   unfold nameB
   rw [h]
   simp
  ·refine gb1 (fun _ _ => ?_)
   rw [nameB_no (k := 0) (by omega) (by rw [hfirst]; exact decide_eq_false (by omega))]
  ·refine gb1 (fun _ _ => ?_)
   rw [nameB_no (k := 0) (by omega) (by rw [hfirst]; exact decide_eq_false (by omega))]
  ·rename_i h2 h3 h4 h5 h6
   refine gc_loop (σ := Nat) [29, 30, 31, 32, 35, 36, 37, 38, 39, 40, 41, 42, 43, 44, 45, 46, 47, 48, 49, 50, 51, 52, 53, 54, 55, 56, 57, 2, 33, 34, 3] (fun k => [(3, .int .i64 k)]) (fun _ => []) (fun k => k ≤ s.size ∧ (List.range k).all (charB s) = true) (fun k => s.size - k) 0 ⟨Nat.zero_le _, rfl⟩ ⟨rfl, trivial⟩ .nil ?_
   rintro k base ⟨hk, hI⟩
   have hz : k = 0 → bAt s k = bAt s 0 := fun h => by rw [h]
   focus (refine gQ ?_; refine gV ?_; (iterate 2 refine gM ?_); apply gw_d; exact w_len_str rfl rfl rfl; refine gC ?_; refine gO ?_; refine gc_if_dec rfl (fun _ => ?_) (fun _ => ?_); refine gK ?_; refine gX ?_; refine gQ ?_; refine gB ?_; refine gV ?_; (iterate 2 refine gM ?_); apply gw_d; exact w_sidx rfl rfl rfl rfl (by with_reducible exact rfl) (by omega); apply gw_d; exact w_call rfl rfl (fun w s => rdigit_ok w _) rfl; apply gw_d; exact det_not_dec rfl rfl rfl; refine gM ?_; refine gD (fun _ => ?_) (fun _ => ?_); (iterate 2 refine gM ?_); apply gw_d; exact w_sidx rfl rfl rfl rfl (by with_reducible exact rfl) (by omega); refine gC ?_; refine gPp ?_; refine gM ?_; refine gD (fun _ => ?_) (fun _ => ?_); (iterate 2 refine gM ?_); apply gw_d; exact w_sidx rfl rfl rfl rfl (by with_reducible exact rfl) (by omega); refine gC ?_; refine gM ?_; refine gD (fun _ => ?_) (fun _ => ?_); (iterate 4 refine gU ?_); (iterate 2 refine gPp ?_); refine gO ?_; refine gc_if_true rfl ?_; refine gV ?_; refine gM ?_; refine gO ?_; refine gR ?_; refine gY ?_; (iterate 2 refine gT ?_); refine gY ?_; refine gT ?_; rotate_left; (iterate 2 refine gM ?_); apply gw_d; exact w_sidx rfl rfl rfl rfl (by with_reducible exact rfl) (by omega); refine gC ?_; refine gPq ?_; refine gPp ?_; refine gO ?_; refine gc_if_dec rfl (fun _ => ?_) (fun _ => ?_); refine gV ?_; refine gM ?_; refine gO ?_; refine gR ?_; refine gY ?_; (iterate 2 refine gT ?_); refine gY ?_; refine gT ?_; rotate_left; refine gK ?_; refine gH ?_; refine gX ?_; refine gG ?_; refine gM ?_; refine gA ?_; refine gM ?_; refine gw_nil ?_; rotate_left; (iterate 10 refine gU ?_); refine gPq ?_; refine gO ?_; refine gc_if_false rfl ?_; refine gK ?_; refine gH ?_; refine gX ?_; refine gG ?_; refine gM ?_; refine gA ?_; refine gM ?_; refine gw_nil ?_; rotate_left; (iterate 4 refine gU ?_); refine gPq ?_; refine gM ?_; (iterate 10 refine gU ?_); refine gPq ?_; refine gO ?_; refine gc_if_false rfl ?_; refine gK ?_; refine gH ?_; refine gX ?_; refine gG ?_; refine gM ?_; refine gA ?_; refine gM ?_; refine gw_nil ?_; rotate_left; refine gI ?_; (iterate 2 refine gZ ?_); refine gJ ?_; refine gX ?_; refine gV ?_; refine gM ?_; refine gO ?_; refine gR ?_; rotate_left)
   all_goals first
    | exact gx_round (k + 1) ⟨by omega, chars_snoc hI (char_yes (by omega))⟩ (by omega) kK ⟨rfl, trivial⟩ .nil
    | (refine gb1 (fun _ _ => ?_); rw [nameB_no (by omega) (char_no (k := k) (by omega))])
    | skip
   refine gb1 (fun _ _ => ?_)
   obtain rfl : k = s.size := by omega
   have h2' : s.size ≤ 24 := by omega
   unfold nameB
   rw [h3, h4, hI]
   simp [h0, h2']

theorem twice_ok (w : World) (v : Value) (l : List Int) (hl : Sl rInt w w.heap.size v l) : Ok Tryz.prog 84 [v].toArray w fun r _ => r = .bool (dupL l l.length) := by
 obtain ⟨A, c, rfl, hc, hm, hcell⟩ := hl.int
 refine ok_enter Tryz.func84 rfl Tryz.ntmps84 rfl ?_
 (refine gV ?_; refine gM ?_; refine gO ?_; refine gQ ?_; refine gV ?_; refine gM ?_; refine gO ?_; refine gB ?_)
 refine gc_loop (σ := Nat) [4, 5, 6, 7, 10, 11, 12, 13, 14, 15, 16, 17, 2, 8, 9, 3] (fun k => [(3, .int .i64 k)]) (fun _ => []) (fun k => k ≤ l.length ∧ dupL l k = false) (fun k => l.length - k) 0 ⟨Nat.zero_le _, rfl⟩ ⟨rfl, trivial⟩ .nil ?_
 rintro k base ⟨hk, hI⟩
 (refine gQ ?_; refine gV ?_; (iterate 2 refine gM ?_); refine gL ?_; refine gC ?_; refine gO ?_)
 refine gc_if_dec rfl (fun h => ?_) (fun h => ?_)
 ·have hlt : k < l.length := by omega
  obtain ⟨ad, rfl, hb, hce, hi⟩ := hcell k hlt
  have htk := hl.take (m := k) (by omega)
  have hC : ∀ (L : List Res) (w' : World), St w L w' → Ok Tryz.prog 69 [.slice (some ad) k c, .int .i64 l[k]].toArray w' fun r _ => r = .bool (hasB (l.take k) l[k]) := fun L w' s => has_ok w' _ _ _ (htk.later s)
  (refine gK ?_; refine gX ?_; refine gQ ?_; refine gB ?_; refine gQ ?_)
  refine gc_draw 8 (by kernel_rfl) (by kernel_rfl) ?_
  ((iterate 2 refine dM ?_); apply gd_d; exact w_cut_hi rfl rfl rfl rfl (by with_reducible exact rfl) (by omega); (iterate 2 refine dM ?_); apply gd_d; exact w_index rfl rfl rfl rfl (by with_reducible exact rfl) (by omega); apply gd_d; exact w_load_at rfl rfl rfl (by assumption) (by assumption); apply gd_d; exact w_call rfl rfl (hC _) rfl; refine gd_nil ?_; refine gO ?_)
  refine gc_if rfl (fun h => ?_) (fun h => ?_)
  ·(refine gV ?_; refine gM ?_; refine gO ?_; refine gR ?_; refine gY ?_; (iterate 2 refine gT ?_); refine gY ?_; refine gT ?_)
   refine gb1 (fun _ _ => ?_)
   rw [dupL_yes hlt h]
  ·(refine gK ?_; refine gH ?_; refine gX ?_; refine gG ?_; refine gM ?_; refine gA ?_; refine gM ?_; refine gw_nil ?_)
   exact gx_round (k + 1) ⟨hlt, dupL_snoc hlt hI h⟩ (by omega) kK ⟨rfl, trivial⟩ .nil
 ·obtain rfl : k = l.length := by omega
  (refine gI ?_; (iterate 2 refine gZ ?_); refine gJ ?_; refine gX ?_; refine gV ?_; refine gM ?_; refine gO ?_; refine gR ?_)
  refine gb1 (fun _ _ => ?_)
  rw [hI]

def singleE (l : List Opn) (uses : Int) : Int := if 16 < l.length then 5 else firstE (opE l uses) l.length
theorem single_ok (w : World) (v : Value) (l : List Opn) (uses : Int) (hl : Sl rOp w w.heap.size v l) : Ok Tryz.prog 67 [v, .int .i64 uses].toArray w fun r _ => r = .int .i64 (singleE l uses) := by
 obtain ⟨A0, c0, rfl, hc, hm⟩ := len_small hl
 refine ok_enter Tryz.func67 rfl Tryz.ntmps67 rfl ?_
 (refine gV ?_; refine gM ?_; refine gO ?_; refine gQ ?_; refine gV ?_; refine gM ?_; refine gL ?_; refine gC ?_; refine gO ?_)
 refine gc_if_dec rfl (fun h => ?_) (fun h => ?_)
 ·(refine gV ?_; refine gM ?_; refine gO ?_; refine gR ?_; refine gT ?_)
  refine gi1 (fun _ _ => ?_)
  unfold singleE
  rw [if_pos (by omega)]
 have h16 : ¬ 16 < l.length := by omega
 (refine gK ?_; refine gX ?_; refine gQ ?_; refine gV ?_; refine gM ?_; refine gO ?_; refine gB ?_)
 refine gc_loop (σ := Nat) [11, 12, 13, 14, 17, 18, 19, 20, 6, 21, 22, 23, 24, 4, 7, 25, 26, 27, 30, 31, 32, 33, 34, 35, 36, 37, 28, 29, 38, 39, 40, 41, 42, 43, 44, 45, 46, 47, 48, 49, 50, 51, 52, 53, 54, 55, 56, 57, 58, 59, 60, 61, 62, 63, 64, 65, 66, 67, 68, 69, 70, 71, 72, 73, 74, 75, 76, 77, 78, 79, 80, 81, 82, 83, 84, 85, 86, 15, 16, 5] (fun k => [(5, .int .i64 k)]) (fun _ => []) (fun k => k ≤ l.length ∧ firstE (opE l uses) k = 0) (fun k => l.length - k) 0 ⟨Nat.zero_le _, rfl⟩ ⟨rfl, trivial⟩ .nil ?_
 rintro i base ⟨hk, hI⟩
 (refine gQ ?_; refine gV ?_; (iterate 2 refine gM ?_); refine gL ?_; refine gC ?_; refine gO ?_)
 refine gc_if_dec rfl (fun h => ?_) (fun h => ?_)
 ·have hi : i < l.length := by omega
  obtain ⟨ad, _, hv, _, _, hb, hcell⟩ := hl.at' 5 rfl (by omega)
  injection hv with e1 e2 e3
  subst e1 e3
  obtain ⟨cs, hce, Aa, ca, Au, cu, rfl, ⟨hnm, _⟩, q1, q2⟩ := hcell i hi
  unfold maxLen at hnm
  have ha : Sl rInt w w.heap.size (.slice Aa l[i].after.length ca) l[i].after := q1
  have hu : Sl rInt w w.heap.size (.slice Au l[i].uses.length cu) l[i].uses := q2
  have c1 : ∀ (L : List Res) (w' : World), St w L w' → Ok Tryz.prog 83 [.slice Aa l[i].after.length ca, .int .i64 l.length].toArray w' fun r _ => r = .bool (areIx l[i].after l.length) := fun L w' s => withinL_ok w' _ _ _ (ha.later s)
  have c2 : ∀ (L : List Res) (w' : World), St w L w' → Ok Tryz.prog 83 [.slice Au l[i].uses.length cu, .int .i64 uses].toArray w' fun r _ => r = .bool (areIx l[i].uses uses) := fun L w' s => withinL_ok w' _ _ _ (hu.later s)
  have c3 : ∀ (L : List Res) (w' : World), St w L w' → Ok Tryz.prog 84 [.slice Aa l[i].after.length ca].toArray w' fun r _ => r = .bool (dupL l[i].after l[i].after.length) := fun L w' s => twice_ok w' _ _ (ha.later s)
  have c4 : ∀ (L : List Res) (w' : World), St w L w' → Ok Tryz.prog 84 [.slice Au l[i].uses.length cu].toArray w' fun r _ => r = .bool (dupL l[i].uses l[i].uses.length) := fun L w' s => twice_ok w' _ _ (hu.later s)
  have hE : opE l uses i = if ¬ nameB l[i].name = true then 1 else if ((l.take i).any fun x => eqS x.name l[i].name) = true then 7 else if l[i].machine < 0 ∨ l[i].machine ≥ 8 ∨ l[i].minutes < 1 ∨ l[i].minutes > 10000 then 3 else
   if areIx l[i].after l.length = false ∨ (0 ≤ uses ∧ areIx l[i].uses uses = false) then 3 else if dupL l[i].after l[i].after.length = true ∨ (0 ≤ uses ∧ dupL l[i].uses l[i].uses.length = true) then 7 else 0 := by
   unfold opE; rw [List.getElem?_eq_getElem hi]
  have hstop : ∀ x : Int, opE l uses i = x → ¬ x = 0 → singleE l uses = x := fun x hx h => by
   unfold singleE
   rw [if_neg h16, firstE_stop hI (by rw [hx]; exact h) hi, hx]
  (refine gK ?_; refine gX ?_; refine gQ ?_; refine gB ?_; refine gV ?_; (iterate 2 refine gM ?_); apply gw_d; exact w_index rfl rfl rfl rfl (by with_reducible exact rfl) (by omega); apply gw_d; exact w_load_elem rfl rfl rfl (by assumption) (by assumption) (by rfl); refine w_alloc rfl (fun _ => ?_); refine w_store_all rfl rfl rfl rfl rfl .here rfl ?_; refine gO ?_; refine gQ ?_; refine gV ?_; refine gF ?_; refine gW .here ?_; apply gw_d; exact w_call rfl rfl (fun w s => rname_ok w _ (by omega)) rfl; apply gw_d; exact det_not_ rfl rfl rfl; refine gO ?_)
  refine gc_if rfl (fun h => ?_) (fun h => ?_)
  ·(refine gV ?_; refine gM ?_; refine gO ?_; refine gR ?_; refine gT ?_; refine gY ?_; (iterate 2 refine gT ?_); refine gY ?_; refine gT ?_)
   refine gi1 (fun _ _ => ?_)
   rw [hstop 1 (by rw [hE, if_pos (by simpa using h)]) (by decide)]
  have hN : ¬ ¬ nameB l[i].name = true := by simpa using h
  rw [if_neg hN] at hE
  (refine gK ?_; refine gX ?_; refine gQ ?_; refine gV ?_; refine gM ?_; refine gO ?_; refine gB ?_)
  refine gc_loopK (σ := Nat) [25, 26, 27, 30, 31, 32, 33, 34, 35, 36, 37, 4, 28, 29, 7] (fun j => [(7, .int .i64 j)]) (fun j => j ≤ i ∧ ((l.take j).any fun x => eqS x.name l[i].name) = false) (fun j => i - j) 0 ⟨Nat.zero_le _, rfl⟩ ⟨rfl, trivial⟩ ?_
  rintro j base2 ⟨hj, hJ⟩
  (refine gQ ?_; refine gV ?_; (iterate 2 refine gM ?_); refine gC ?_; refine gO ?_)
  refine gc_if_dec rfl (fun h4 => ?_) (fun h4 => ?_)
  ·have hjl : j < l.length := by omega
   obtain ⟨cs2, hce2, _, _, _, _, rfl, _⟩ := hcell j hjl
   have hce20 := hce2 0 _ rfl
   (refine gK ?_; refine gX ?_; refine gQ ?_; refine gB ?_; refine gQ ?_)
   refine gc_draw 8 (by kernel_rfl) (by kernel_rfl) ?_
   ((iterate 2 refine dM ?_); apply gd_d; exact w_index rfl rfl rfl rfl (by with_reducible exact rfl) (by omega); apply gd_d; exact w_field rfl rfl rfl; apply gd_d; exact w_load_fld rfl rfl rfl (by assumption) (by assumption); apply gd_d; exact w_field rfl rfl rfl; apply gd_d; exact w_load_box rfl rfl rfl .here rfl; apply gd_d; exact det_seq rfl rfl rfl rfl; refine gd_nil ?_; refine gO ?_)
   refine gc_if rfl (fun h5 => ?_) (fun h5 => ?_)
   ·(refine gV ?_; refine gM ?_; refine gO ?_; refine gR ?_; refine gY ?_; (iterate 2 refine gT ?_); refine gY ?_; refine gT ?_; refine gY ?_; (iterate 2 refine gT ?_); refine gY ?_; refine gT ?_)
    refine gi1 (fun _ _ => ?_)
    rw [hstop 7 (by rw [hE, if_pos (any_at (l := l.take i) (k := j) (by rw [List.length_take]; omega) (by rw [List.getElem_take]; exact h5))]) (by decide)]
   ·(refine gK ?_; refine gH ?_; refine gX ?_; refine gG ?_; refine gM ?_; refine gA ?_; refine gM ?_; refine gw_nil ?_)
    exact gx_round (j + 1) ⟨by omega, take_any_snoc hjl hJ h5⟩ (by omega) kK ⟨rfl, trivial⟩ (Sub.all _)
  obtain rfl : j = i := by omega
  rw [if_neg (by rw [hJ]; decide)] at hE
  focus (refine gI ?_; (iterate 2 refine gZ ?_); refine gJ ?_; refine gX ?_; refine gQ ?_; refine gV ?_; refine gF ?_; refine gW .here ?_; refine gC ?_; refine gM ?_; refine gD (fun _ => ?_) (fun _ => ?_); (iterate 3 refine gU ?_); refine gPp ?_; refine gM ?_; (iterate 3 refine gU ?_); refine gPp ?_; refine gM ?_; (iterate 3 refine gU ?_); refine gPp ?_; refine gM ?_; (iterate 6 refine gU ?_); refine gPp ?_; refine gM ?_; (iterate 9 refine gU ?_); refine gPp ?_; refine gO ?_; refine gc_if_true rfl ?_; refine gV ?_; refine gM ?_; refine gO ?_; refine gR ?_; refine gT ?_; refine gY ?_; (iterate 2 refine gT ?_); refine gY ?_; refine gT ?_; rotate_left; refine gF ?_; refine gW .here ?_; refine gC ?_; refine gPq ?_; refine gM ?_; refine gD (fun _ => ?_) (fun _ => ?_); (iterate 3 refine gU ?_); refine gPp ?_; refine gM ?_; (iterate 3 refine gU ?_); refine gPp ?_; refine gM ?_; (iterate 6 refine gU ?_); refine gPp ?_; refine gM ?_; (iterate 9 refine gU ?_); refine gPp ?_; refine gO ?_; refine gc_if_true rfl ?_; refine gV ?_; refine gM ?_; refine gO ?_; refine gR ?_; refine gT ?_; refine gY ?_; (iterate 2 refine gT ?_); refine gY ?_; refine gT ?_; rotate_left; refine gF ?_; refine gW .here ?_; refine gC ?_; refine gPq ?_; refine gM ?_; refine gD (fun _ => ?_) (fun _ => ?_); (iterate 3 refine gU ?_); refine gPp ?_; refine gM ?_; (iterate 6 refine gU ?_); refine gPp ?_; refine gM ?_; (iterate 9 refine gU ?_); refine gPp ?_; refine gO ?_; refine gc_if_true rfl ?_; refine gV ?_; refine gM ?_; refine gO ?_; refine gR ?_; refine gT ?_; refine gY ?_; (iterate 2 refine gT ?_); refine gY ?_; refine gT ?_; rotate_left; refine gF ?_; refine gW .here ?_; refine gC ?_; refine gPq ?_; refine gM ?_; refine gD (fun _ => ?_) (fun _ => ?_); (iterate 6 refine gU ?_); refine gPp ?_; refine gM ?_; (iterate 9 refine gU ?_); refine gPp ?_; refine gO ?_; refine gc_if_true rfl ?_; refine gV ?_; refine gM ?_; refine gO ?_; refine gR ?_; refine gT ?_; refine gY ?_; (iterate 2 refine gT ?_); refine gY ?_; refine gT ?_; rotate_left; refine gF ?_; refine gW .here ?_; refine gM ?_; refine gL ?_; apply gw_d; exact w_call rfl rfl (c1 _) rfl; apply gw_d; exact det_not_ rfl rfl rfl; refine gPq ?_; refine gM ?_; refine gw_guard rfl rfl (fun _ => ?_) (fun _ => ?_); (iterate 9 refine gU ?_); refine gPp ?_; refine gO ?_; refine gc_if_true rfl ?_; refine gV ?_; refine gM ?_; refine gO ?_; refine gR ?_; refine gT ?_; refine gY ?_; (iterate 2 refine gT ?_); refine gY ?_; refine gT ?_; rotate_left; refine gM ?_; refine gC ?_; refine gM ?_; refine gD (fun _ => ?_) (fun _ => ?_); refine gF ?_; refine gW .here ?_; refine gM ?_; apply gw_d; exact w_call rfl rfl (c2 _) rfl; apply gw_d; exact det_not_ rfl rfl rfl; refine gPp ?_; refine gPq ?_; refine gO ?_; refine gc_if rfl (fun _ => ?_) (fun _ => ?_); refine gV ?_; refine gM ?_; refine gO ?_; refine gR ?_; refine gT ?_; refine gY ?_; (iterate 2 refine gT ?_); refine gY ?_; refine gT ?_; rotate_left; refine gK ?_; refine gX ?_; refine gV ?_; refine gF ?_; refine gW .here ?_; apply gw_d; exact w_call rfl rfl (c3 _) rfl; refine gM ?_; refine gw_guard rfl rfl (fun _ => ?_) (fun _ => ?_); (iterate 7 refine gU ?_); refine gPp ?_; refine gO ?_; refine gc_if_true rfl ?_; refine gV ?_; refine gM ?_; refine gO ?_; refine gR ?_; refine gY ?_; (iterate 2 refine gT ?_); refine gY ?_; refine gT ?_; rotate_left; refine gM ?_; refine gC ?_; refine gM ?_; refine gD (fun _ => ?_) (fun _ => ?_); refine gF ?_; refine gW .here ?_; apply gw_d; exact w_call rfl rfl (c4 _) rfl; refine gPp ?_; refine gPq ?_; refine gO ?_; refine gc_if rfl (fun _ => ?_) (fun _ => ?_); refine gV ?_; refine gM ?_; refine gO ?_; refine gR ?_; refine gY ?_; (iterate 2 refine gT ?_); refine gY ?_; refine gT ?_; rotate_left; refine gK ?_; refine gH ?_; refine gX ?_; refine gG ?_; refine gM ?_; refine gA ?_; refine gM ?_; refine gw_nil ?_; rotate_left; (iterate 3 refine gU ?_); (iterate 2 refine gPq ?_); refine gO ?_; refine gc_if_false rfl ?_; refine gK ?_; refine gH ?_; refine gX ?_; refine gG ?_; refine gM ?_; refine gA ?_; refine gM ?_; refine gw_nil ?_; rotate_left; (iterate 5 refine gU ?_); (iterate 2 refine gPq ?_); refine gO ?_; refine gc_if_false rfl ?_; refine gK ?_; refine gX ?_; refine gV ?_; refine gF ?_; refine gW .here ?_; apply gw_d; exact w_call rfl rfl (c3 _) rfl; refine gM ?_; refine gw_guard rfl rfl (fun _ => ?_) (fun _ => ?_); (iterate 7 refine gU ?_); refine gPp ?_; refine gO ?_; refine gc_if_true rfl ?_; refine gV ?_; refine gM ?_; refine gO ?_; refine gR ?_; refine gY ?_; (iterate 2 refine gT ?_); refine gY ?_; refine gT ?_; rotate_left; refine gM ?_; refine gC ?_; refine gM ?_; refine gD (fun _ => ?_) (fun _ => ?_); refine gF ?_; refine gW .here ?_; apply gw_d; exact w_call rfl rfl (c4 _) rfl; refine gPp ?_; refine gPq ?_; refine gO ?_; refine gc_if rfl (fun _ => ?_) (fun _ => ?_); refine gV ?_; refine gM ?_; refine gO ?_; refine gR ?_; refine gY ?_; (iterate 2 refine gT ?_); refine gY ?_; refine gT ?_; rotate_left; refine gK ?_; refine gH ?_; refine gX ?_; refine gG ?_; refine gM ?_; refine gA ?_; refine gM ?_; refine gw_nil ?_; rotate_left; (iterate 3 refine gU ?_); (iterate 2 refine gPq ?_); refine gO ?_; refine gc_if_false rfl ?_; refine gK ?_; refine gH ?_; refine gX ?_; refine gG ?_; refine gM ?_; refine gA ?_; refine gM ?_; refine gw_nil ?_; rotate_left)
  all_goals
   clear c1 c2 c3 c4 hcell hce ha hu q1 q2 hJ hl
   simp only [Bool.not_eq_true', Bool.not_eq_false'] at *
   first
    | (refine gi1 (fun _ _ => ?_); rw [hstop 3 (by rw [hE, if_pos (by omega)]) (by decide)]; done)
    | (refine gi1 (fun _ _ => ?_); rw [hstop 3 (by rw [hE, if_neg (by omega), if_pos (.inl (by assumption))]) (by decide)]; done)
    | (refine gi1 (fun _ _ => ?_); rw [hstop 3 (by rw [hE, if_neg (by omega), if_pos (.inr ⟨by assumption, by assumption⟩)]) (by decide)]; done)
    | (refine gi1 (fun _ _ => ?_); rw [hstop 7 (by rw [hE, if_neg (by omega), if_neg (by rintro (h | ⟨h, h'⟩) <;> simp_all), if_pos (.inl (by assumption))]) (by decide)]; done)
    | (refine gi1 (fun _ _ => ?_); rw [hstop 7 (by rw [hE, if_neg (by omega), if_neg (by rintro (h | ⟨h, h'⟩) <;> simp_all), if_pos (.inr ⟨by assumption, by assumption⟩)]) (by decide)]; done)
    | exact gx_round (j + 1) ⟨by omega, firstE_snoc hI (by rw [hE, if_neg (by omega), if_neg (by rintro (h | ⟨h, h'⟩) <;> simp_all), if_neg (by rintro (h | ⟨h, h'⟩) <;> simp_all)])⟩ (by omega) kK ⟨rfl, trivial⟩ .nil
    | (exfalso; omega)
 obtain rfl : i = l.length := by omega
 (refine gI ?_; (iterate 2 refine gZ ?_); refine gJ ?_; refine gX ?_; refine gV ?_; refine gM ?_; refine gO ?_; refine gR ?_)
 refine gi1 (fun _ _ => ?_)
 unfold singleE
 rw [if_neg h16, hI]
section
variable {P : Program} {N : Nat} {w0 : World} {L L' : List Res} {e : Env}
theorem stepG_alloc {t : Nat} {z : Value} [CZero P t z] {d : Nat} {ty : TypeId} {pos : String} {af : Array Edge} {g : Option (Nat × Bool)} {w : World} (s : St w0 L w) :
  StepG P (ev N e) ⟨some d, .alloc t, ty, pos, af, g⟩ w fun u w' => ∃ b, u = .pointer (some ⟨b, 0, none⟩) ∧ St w0 (Box b t z.cells :: L) w' := by
 obtain ⟨i, hi, hzi⟩ := Option.bind_eq_some_iff.1 (CZero.h (P := P) (t := t) (z := z))
 have hr : (execOp (ev N e) ⟨some d, .alloc t, ty, pos, af, g⟩).run P w = .ok (.value (.pointer (some ⟨w.heap.size, 0, none⟩))) (w.alloc (.cells z.cells t)) := by
  unfold execOp
  simp [Instr.alloc, zeroValue, typeInfo, hi, hzi, newVar, newRow, newObj, Sem.run]
 unfold StepG
 rw [hr]
 exact ⟨w.heap.size, rfl, s.box t _⟩
theorem stepG_store {t n : Nat} [CSize P t n] {x y : Operand} {b : Nat} {bt ty : TypeId} {cs vs : Array Value} {pos : String} {af : Array Edge} {g : Option (Nat × Bool)} (hx : ev N e x = .pointer (some ⟨b, 0, none⟩)) (hy : ev N e y = .agg vs) (hn : vs.size = n)
  (h1 : vs.toList.all (·.oneCell') = true) (hp : Pick L (Box b bt cs) L') (hcs : cs.size = n) {w : World} (s : St w0 L w) :
  StepG P (ev N e) ⟨none, .store t x y, ty, pos, af, g⟩ w fun u w' => u = undef ∧ St w0 (Box b bt vs :: L') w' := by
 have s1 := s.pick hp
 have hb : w.heap[b]? = some (.cells cs bt (0, 0)) := s1.head
 obtain ⟨inf, hi, hsz⟩ := Option.map_eq_some_iff.1 (CSize.h (P := P) (t := t) (n := n))
 have hst := run_storeCells_at (P := P) b 0 bt vs.toList 0 cs w hb (by simp; omega) (fun u hu => List.all_eq_true.1 h1 u hu)
 have hlen : vs.toList.length = n := by simpa using hn
 have hvv : (cs.toList.take 0 ++ vs.toList ++ cs.toList.drop (0 + n)).toArray = vs := by
  rw [List.drop_eq_nil_of_le (by simp; omega)]
  simp
 simp only [Nat.add_zero, hlen] at hst
 rw [hvv] at hst
 have hr : (execOp (ev N e) ⟨none, .store t x y, ty, pos, af, g⟩).run P w = .ok .skip (w.setRow b vs) := by
  unfold execOp
  have hv2 : (Value.agg vs).cells = vs := rfl
  simp [Instr.storeAt, hx, hy, Instr.sureAddr, storeVar, sizeOf, typeInfo, hi, hsz, hn, hst, hv2]
 unfold StepG
 rw [hr]
 refine ⟨rfl, s1.turn (r' := Box b bt vs) ?_ ?_ ?_ ?_ ?_ ?_ ?_⟩
 ·simp [World.setRow]
 ·rfl
 ·rfl
 ·rfl
 ·intro c _ hc
  have : c ≠ b := hc
  simp [World.setRow, Array.getElem?_modify, Ne.symm this]
 ·exact setRow_heap w b cs _ bt _ hb
 ·intro c hc
  exact .inl hc
end
section
variable {P : Program} {N : Nat} {w0 : World} {L : List Res} {e : Env} {o : Oper}
theorem stepG_callm {X : Type} {f : FuncId} [CCall P f] {ars : Array Operand} {ts : Array TypeId} {l : List Value} {V : X → Value} {R : X → List Res} {w : World} (hop : o.op = .call { callee := .value (.func f), args := ars, argTypes := ts }) (hl : ars.toList.map (ev N e) = l) (hC : OkM P f l.toArray w V R) (s : St w0 L w) :
  StepG P (ev N e) o w fun u w' => ∃ x, u = V x ∧ St w0 (R x ++ L) w' := by
 unfold StepG
 rw [run_call hop CCall.h hl]
 exact Ok.mono hC fun v w' hx ⟨x, hv, hm⟩ => ⟨x, hv, s.adds hx hm⟩
end
theorem ro_make1 (w : World) (A : Option Addr) (c : Nat) : OkM Tryz.prog 209 [.bool false, .slice A 0 c].toArray w (fun x : Option Addr × Nat => .agg #[.bool false, .slice x.1 0 x.2]) (fun _ => []) := by
 unfold OkM
 refine ok_enter Tryz.func209 rfl Tryz.ntmps209 rfl ?_
 (refine gV ?_; refine w_alloc rfl (fun _ => ?_); refine gN ?_; refine gM ?_)
 refine gw_callm rfl (fun w _ => rn_norm0 w A c) rfl (fun x => ?_)
 (refine gM ?_; refine gN ?_; (iterate 2 refine gM ?_); (iterate 3 refine gU ?_); refine gPq ?_; refine gM ?_; apply gw_d; exact w_build (cells := #[.bool false, .slice x.1 0 x.2]) rfl rfl (by kernel_rfl); refine w_store_all rfl rfl rfl rfl rfl .here rfl ?_; refine gO ?_; refine gR ?_)
 exact gx_retc rfl rfl .here rfl fun w s => ⟨x, rfl, trivial⟩
theorem ro_norm (w : World) (A : Option Addr) (c : Nat) : OkM Tryz.prog 207 [.agg #[.bool false, .slice A 0 c]].toArray w (fun x : Option Addr × Nat => .agg #[.bool false, .slice x.1 0 x.2]) (fun _ => []) := by
 unfold OkM
 refine ok_enter Tryz.func207 rfl Tryz.ntmps207 rfl ?_
 (refine gV ?_; refine gw_boxd (v := .agg _) rfl rfl (fun _ => ?_); refine w_alloc rfl (fun _ => ?_); refine gN ?_; refine gF ?_; refine gW (.there .here) ?_; refine gF ?_; refine gW (.there .here) ?_)
 refine gw_callm rfl (fun w _ => ro_make1 w A c) rfl (fun x => ?_)
 (refine w_store_all rfl rfl rfl rfl rfl .here rfl ?_; refine gO ?_; refine gR ?_)
 exact gx_retc rfl rfl .here rfl fun w s => ⟨x, rfl, trivial⟩
theorem ro_of0 (w : World) : Ok Tryz.prog 211 [.int .i64 0].toArray w fun r _ => r = .agg #[.bool false, .slice none 0 0] := by
 refine ok_enter Tryz.func211 rfl Tryz.ntmps211 rfl ?_
 (refine gV ?_; refine w_alloc rfl (fun _ => ?_); refine gO ?_; refine gQ ?_; refine gV ?_; refine gM ?_; refine gC ?_; refine gO ?_)
 refine gc_if_dec rfl (fun h => absurd h (by decide)) (fun _ => ?_)
 (refine gK ?_; refine gX ?_; refine gV ?_; refine gM ?_; apply gw_d; exact det_conv (r := 0) rfl rfl rfl (by rfl); apply gw_d; exact w_call rfl rfl (fun w _ => rn_of0 w) rfl; apply gw_d; exact w_build (cells := #[.bool false, .slice none 0 0]) rfl rfl (by kernel_rfl); refine w_store_all rfl rfl rfl rfl rfl .here rfl ?_; refine gO ?_; refine gR ?_)
 exact gx_retc rfl rfl .here rfl fun w s => rfl
theorem ro_of1 (w : World) : OkM Tryz.prog 211 [.int .i64 1].toArray w (fun x : Option Addr × Nat => .agg #[.bool false, .slice x.1 1 x.2]) (fun x => [R32 x [1]]) := by
 unfold OkM
 refine ok_enter Tryz.func211 rfl Tryz.ntmps211 rfl ?_
 (refine gV ?_; refine w_alloc rfl (fun _ => ?_); refine gO ?_; refine gQ ?_; refine gV ?_; refine gM ?_; refine gC ?_; refine gO ?_)
 refine gc_if_dec rfl (fun h => absurd h (by decide)) (fun _ => ?_)
 (refine gK ?_; refine gX ?_; refine gV ?_; refine gM ?_; apply gw_d; exact det_conv (r := 1) rfl rfl rfl (by rfl))
 refine gw_callm rfl (fun w _ => rn_of1 w) rfl (fun x => ?_)
 (apply gw_d; exact w_build (cells := #[.bool false, .slice x.1 1 x.2]) rfl rfl (by kernel_rfl); refine w_store_all rfl rfl rfl rfl rfl (.there .here) rfl ?_; refine gO ?_; refine gR ?_)
 exact gx_retc rfl rfl .here rfl fun w s => ⟨x, rfl, (s.sub (.cons (.there .here) .nil)).sep⟩
theorem ro_cmp (w : World) (A B : Option Addr) (c d : Nat) : Ok Tryz.prog 186 [.agg #[.bool false, .slice A 0 c], .agg #[.bool false, .slice B 0 d]].toArray w fun r _ => r = .int .i64 0 := by
 have hN1 : ∀ (L : List Res) (w' : World), St w L w' → OkM Tryz.prog 207 [.agg #[.bool false, .slice A 0 c]].toArray w' (fun x : Option Addr × Nat => .agg #[.bool false, .slice x.1 0 x.2]) (fun _ => []) := fun L w' _ => ro_norm w' A c
 have hN2 : ∀ (L : List Res) (w' : World), St w L w' → OkM Tryz.prog 207 [.agg #[.bool false, .slice B 0 d]].toArray w' (fun x : Option Addr × Nat => .agg #[.bool false, .slice x.1 0 x.2]) (fun _ => []) := fun L w' _ => ro_norm w' B d
 refine ok_enter Tryz.func186 rfl Tryz.ntmps186 rfl ?_
 (refine gV ?_; refine gw_boxd (v := .agg _) rfl rfl (fun _ => ?_); refine gw_boxd (v := .agg _) rfl rfl (fun _ => ?_); refine gM ?_; refine gO ?_; refine gQ ?_)
 rename_i ba bb
 refine gc_blockJ (P := Tryz.prog) (Nat × Option Addr × Nat) 7 (fun i => ([[], [0], [], [0, 1, 2], [], [], [0, 1, 2, 3, 4, 5]] : List (List Nat)).getD i []) (fun i γ => match i with
  | 0 => .agg #[.bool false, .slice A 0 c]
  | 1 => .agg #[.bool false, .slice (γ 1).2.1 0 (γ 1).2.2]
  | 2 => .agg #[.bool false, .slice B 0 d]
  | 3 => .agg #[.bool false, .slice (γ 3).2.1 0 (γ 3).2.2]
  | 4 => .pointer (some ⟨(γ 4).1, 0, none⟩)
  | 5 => .pointer (some ⟨(γ 5).1, 0, none⟩)
  | _ => undef) (fun ls β w' => ((ls 6 = true → ls 4 = true) ∧ (ls 6 = true → ls 1 = true)) ∧ St w ((if ls 5 = true then [Box (β 5).1 151 #[.bool false, .slice none 0 0]] else []) ++ ((if ls 4 = true then [Box (β 4).1 151 (if ls 6 = true then #[.bool false, .slice (β 1).2.1 0 (β 1).2.2] else #[.bool false, .slice none 0 0])] else []) ++ [Box bb 151 #[.bool false, .slice B 0 d], Box ba 151 #[.bool false, .slice A 0 c]])) w') rfl (by kernel_rfl) (fun w' s => ⟨⟨fun h => (by cases h), fun h => (by cases h)⟩, by simp only [Bool.false_eq_true, if_false, List.nil_append]; exact s⟩) ?_ ?_
 ·intro i o ls β w' hi hik hls hpl hJ
  have hS0 : St w [Box bb 151 #[.bool false, .slice B 0 d], Box ba 151 #[.bool false, .slice A 0 c]] w' := hJ.2.sublist ((List.sublist_append_right _ _).trans (List.sublist_append_right _ _))
  obtain rfl | rfl | rfl | rfl | rfl | rfl | rfl : i = 0 ∨ i = 1 ∨ i = 2 ∨ i = 3 ∨ i = 4 ∨ i = 5 ∨ i = 6 := by omega
  ·cases hi
   exact detG (w_load_boxN (b := ba) (cs := #[.bool false, .slice A 0 c]) rfl rfl rfl (.there .here) rfl) rfl hS0 (fun w2 hx => ⟨default, rfl, hJ.1, St.ext hJ.2 hx⟩)
  ·cases hi
   obtain ⟨⟨j1, j2⟩, hS⟩ := hJ
   have h6 : ls 6 = false := by
    cases h : ls 6 with
    | false => rfl
    | true => have := j2 h; rw [hls] at this; cases this
   rw [h6] at hS
   refine ⟨rfl, (stepG_callm (l := [.agg #[.bool false, .slice A 0 c]]) rfl rfl (hN1 _ _ hS) hS).mono fun u w2 hu => ?_⟩
   obtain ⟨x, hu, s2⟩ := hu
   refine ⟨(0, x), hu, ⟨j1, fun _ => rfl⟩, ?_⟩
   show St w ((if ls 5 = true then [Box (β 5).1 151 #[.bool false, .slice none 0 0]] else []) ++ ((if ls 4 = true then [Box (β 4).1 151 (if ls 6 = true then #[.bool false, .slice x.1 0 x.2] else #[.bool false, .slice none 0 0])] else []) ++ [Box bb 151 #[.bool false, .slice B 0 d], Box ba 151 #[.bool false, .slice A 0 c]])) w2
   rw [h6]
   exact s2
  ·cases hi
   exact detG (w_load_boxN (b := bb) (cs := #[.bool false, .slice B 0 d]) rfl rfl rfl .here rfl) rfl hS0 (fun w2 hx => ⟨default, rfl, hJ.1, St.ext hJ.2 hx⟩)
  ·cases hi
   obtain ⟨j1, hS⟩ := hJ
   refine ⟨rfl, (stepG_callm (l := [.agg #[.bool false, .slice B 0 d]]) rfl rfl (hN2 _ _ hS) hS).mono fun u w2 hu => ?_⟩
   obtain ⟨x, hu, s2⟩ := hu
   exact ⟨(0, x), hu, j1, s2⟩
  ·cases hi
   obtain ⟨⟨j1, j2⟩, hS⟩ := hJ
   have h6 : ls 6 = false := by
    cases h : ls 6 with
    | false => rfl
    | true => have := j1 h; rw [hls] at this; cases this
   rw [hls] at hS
   refine ⟨rfl, (stepG_alloc (z := .agg #[.bool false, .slice none 0 0]) hS).mono fun u w2 hu => ?_⟩
   obtain ⟨b, hu, s2⟩ := hu
   refine ⟨(b, none, 0), hu, ⟨fun _ => rfl, j2⟩, ?_⟩
   show St w ((if ls 5 = true then [Box (β 5).1 151 #[.bool false, .slice none 0 0]] else []) ++ ([Box b 151 (if ls 6 = true then #[.bool false, .slice (β 1).2.1 0 (β 1).2.2] else #[.bool false, .slice none 0 0])] ++ [Box bb 151 #[.bool false, .slice B 0 d], Box ba 151 #[.bool false, .slice A 0 c]])) w2
   rw [h6]
   cases h5 : ls 5 with
   | false => rw [h5] at s2; exact s2
   | true => rw [h5] at s2; exact St.sub (.cons (.there .here) (Sub.all _)) s2
  ·cases hi
   obtain ⟨j1, hS⟩ := hJ
   rw [hls] at hS
   refine ⟨rfl, (stepG_alloc (z := .agg #[.bool false, .slice none 0 0]) hS).mono fun u w2 hu => ?_⟩
   obtain ⟨b, hu, s2⟩ := hu
   exact ⟨(b, none, 0), hu, j1, s2⟩
  ·cases hi
   obtain ⟨⟨j1, j2⟩, hS⟩ := hJ
   have h4 : ls 4 = true := hpl 4 (by decide)
   have h1 : ls 1 = true := hpl 1 (by decide)
   rw [hls, h4] at hS
   cases h5 : ls 5 with
   | false =>
    rw [h5] at hS
    refine ⟨rfl, (stepG_store (b := (β 4).1) (cs := #[.bool false, .slice none 0 0]) (vs := #[.bool false, .slice (β 1).2.1 0 (β 1).2.2]) rfl rfl rfl rfl .here rfl hS).mono fun u w2 hu => ?_⟩
    refine ⟨default, hu.1, ⟨fun _ => h4, fun _ => h1⟩, ?_⟩
    show St w ((if ls 5 = true then [Box (β 5).1 151 #[.bool false, .slice none 0 0]] else []) ++ ((if ls 4 = true then [Box (β 4).1 151 #[.bool false, .slice (β 1).2.1 0 (β 1).2.2]] else []) ++ [Box bb 151 #[.bool false, .slice B 0 d], Box ba 151 #[.bool false, .slice A 0 c]])) w2
    rw [h4, h5]
    exact hu.2
   | true =>
    rw [h5] at hS
    refine ⟨rfl, (stepG_store (b := (β 4).1) (cs := #[.bool false, .slice none 0 0]) (vs := #[.bool false, .slice (β 1).2.1 0 (β 1).2.2]) rfl rfl rfl rfl (.there .here) rfl hS).mono fun u w2 hu => ?_⟩
    refine ⟨default, hu.1, ⟨fun _ => h4, fun _ => h1⟩, ?_⟩
    show St w ((if ls 5 = true then [Box (β 5).1 151 #[.bool false, .slice none 0 0]] else []) ++ ((if ls 4 = true then [Box (β 4).1 151 #[.bool false, .slice (β 1).2.1 0 (β 1).2.2]] else []) ++ [Box bb 151 #[.bool false, .slice B 0 d], Box ba 151 #[.bool false, .slice A 0 c]])) w2
    rw [h4, h5]
    exact St.sub (.cons (.there .here) (Sub.all _)) hu.2
 intro ls β w' hall2 hJ2
 obtain ⟨_, hS⟩ := hJ2
 rw [hall2 4 (by decide), hall2 5 (by decide), hall2 6 (by decide)] at hS
 have hJ3 : St w (Box (β 5).1 151 #[.bool false, .slice none 0 0] :: Box (β 4).1 151 #[.bool false, .slice (β 1).2.1 0 (β 1).2.2] :: [Box bb 151 #[.bool false, .slice B 0 d], Box ba 151 #[.bool false, .slice A 0 c]]) w' := hS
 refine GW.h (P := Tryz.prog) ?_ w' hJ3
 refine w_store_all (b := (β 5).1) (cs := #[.bool false, .slice none 0 0]) (vs := #[.bool false, .slice (β 3).2.1 0 (β 3).2.2]) rfl rfl rfl rfl rfl .here rfl ?_
 (refine gO ?_; refine gQ ?_; refine gB ?_; refine gV ?_; refine gF ?_; refine gW (.there .here) ?_; refine gM ?_; (iterate 3 refine gU ?_); refine gPq ?_; refine gM ?_; refine gO ?_)
 refine gc_if_false rfl ?_
 (refine gV ?_; refine gF ?_; refine gW (.there .here) ?_; apply gw_d; exact det_eq (c' := .bool true) (det_not_ rfl rfl rfl) (by rfl); refine gM ?_; refine gF ?_; refine gW .here ?_; refine gPp ?_; refine gM ?_; refine gO ?_)
 refine gc_if_false rfl ?_
 (refine gV ?_; refine gF ?_; refine gW (.there .here) ?_; refine gM ?_; refine gO ?_)
 refine gc_if_false rfl ?_
 (refine gK ?_; refine gH ?_; refine gX ?_; refine gV ?_; refine gF ?_; refine gW (.there .here) ?_; refine gF ?_; refine gW .here ?_; apply gw_d; exact w_call rfl rfl (fun w _ => rn_cmp0 w _ _ _ _) rfl; refine gM ?_; refine gO ?_; refine gR ?_)
 refine gi1 (fun _ _ => ?_)
 rfl
theorem okM_of0 {P : Program} {f : FuncId} {args : Array Value} {w : World} {v : Value} {X : Type} [Inhabited X] (h : Ok P f args w fun x _ => x = v) : OkM (X := X) P f args w (fun _ => v) (fun _ => []) := Ok.mono h fun _ _ _ hx => ⟨default, hx, trivial⟩
theorem ro_mul (w : World) (A B : Option Addr) (c d : Nat) : OkM Tryz.prog 187 [.agg #[.bool false, .slice A 0 c], .agg #[.bool false, .slice B 1 d]].toArray w (fun x : Option Addr × Nat => .agg #[.bool false, .slice x.1 0 x.2]) (fun _ => []) := by
 unfold OkM
 refine ok_enter Tryz.func187 rfl Tryz.ntmps187 rfl ?_
 (refine gV ?_; refine gw_boxd (v := .agg _) rfl rfl (fun _ => ?_); refine gw_boxd (v := .agg _) rfl rfl (fun _ => ?_); refine w_alloc rfl (fun _ => ?_); refine gO ?_; refine gQ ?_)
 refine gc_block_draw (Option Addr × Nat) 11 (fun i => ([[], [0], [], [2], [0, 1, 2, 3], [], [5], [], [7], [5, 6, 7, 8], [0, 1, 2, 3, 4, 5, 6, 7, 8, 9]] : List (List Nat)).getD i []) rfl (by kernel_rfl) ?_
 (apply gb_d; (intro γ; exact w_field rfl rfl rfl); (intros; rfl); (intros; rfl); apply gb_d; (intro γ; exact w_load_box rfl rfl rfl (.there (.there .here)) rfl); (intros; rfl); (intros; rfl); apply gb_d; (intro γ; exact w_field rfl rfl rfl); (intros; rfl); (intros; rfl); apply gb_d; (intro γ; exact w_load_box rfl rfl rfl (.there .here) rfl); (intros; rfl); (intros; rfl); apply gb_d; (intro γ; exact det_bne rfl rfl rfl rfl rfl); (intros; rfl); (intros; rfl); apply gb_d; (intro γ; exact w_field rfl rfl rfl); (intros; rfl); (intros; rfl); apply gb_d; (intro γ; exact w_load_box rfl rfl rfl (.there (.there .here)) rfl); (intros; rfl); (intros; rfl); apply gb_d; (intro γ; exact w_field rfl rfl rfl); (intros; rfl); (intros; rfl); apply gb_d; (intro γ; exact w_load_box rfl rfl rfl (.there .here) rfl); (intros; rfl); (intros; rfl))
 refine gb_call (l := fun _ => [.slice A 0 c, .slice B 1 d]) (fun _ (x : Option Addr × Nat) => .slice x.1 0 x.2) (fun _ _ => []) (fun _ => rfl) (fun _ w _ => rn_mul0 w A B c d) (fun _ => rfl) (fun _ _ => ⟨rfl, rfl⟩) (fun _ => ⟨rfl, rfl⟩) ?_
 refine gb_call (l := fun γ => [.bool false, .slice (γ 9).1 0 (γ 9).2]) (fun _ (x : Option Addr × Nat) => .agg #[.bool false, .slice x.1 0 x.2]) (fun _ _ => []) (fun _ => rfl) (fun γ w _ => ro_make1 w (γ 9).1 (γ 9).2) (fun _ => rfl) (fun _ _ => ⟨rfl, rfl⟩) (fun _ => ⟨rfl, rfl⟩) ?_
 refine GB.nil (fun δ => ?_)
 (refine w_store_all rfl rfl rfl rfl rfl .here rfl ?_; refine gO ?_; refine gR ?_)
 exact gx_retc rfl rfl .here rfl fun w s => ⟨δ 10, rfl, trivial⟩

theorem ro_whole (w : World) : OkM Tryz.prog 205 [.int .i64 0].toArray w (fun x : Option Addr × Nat => .agg #[.bool false, .slice none 0 0, .slice x.1 1 x.2]) (fun _ => []) := by
 unfold OkM
 refine ok_enter Tryz.func205 rfl Tryz.ntmps205 rfl ?_
 (refine gV ?_; refine w_alloc rfl (fun _ => ?_); refine gN ?_; refine gM ?_; apply gw_d; exact w_call rfl rfl (fun w _ => ro_of0 w) rfl)
 refine gw_callm rfl (fun w _ => rn_of1 w) rfl (fun x => ?_)
 refine gw_ent (K := [Box _ _ _]) (Sub.ent (.cons (.there .here) .nil)) ?_
 (apply gw_d; exact w_buildP [(0, .agg #[.bool false, .slice none 0 0]), (1, .slice x.1 1 x.2)] (cells := #[.bool false, .slice none 0 0, .slice x.1 1 x.2]) (by kernel_rfl) rfl rfl rfl; refine w_store_all rfl rfl rfl rfl rfl .here rfl ?_; refine gO ?_; refine gR ?_)
 exact gx_retc rfl rfl .here rfl fun w s => ⟨x, rfl, trivial⟩
theorem ro_zero (w : World) (b : Bool) (A : Option Addr) (c : Nat) (v : Value) : Ok Tryz.prog 204 [.agg #[.bool b, .slice A 0 c, v]].toArray w fun r _ => r = .bool true := by
 refine ok_enter Tryz.func204 rfl Tryz.ntmps204 rfl ?_
 (refine gV ?_; refine gw_boxd (v := .agg _) rfl rfl (fun _ => ?_); refine gM ?_; refine gN ?_; (iterate 2 refine gF ?_); refine gW .here ?_)
 refine gw_callm rfl (fun w _ => rn_norm0 w A c) rfl (fun x => ?_)
 (refine gL ?_; apply gw_d; exact det_eq (c' := .bool true) (det_cmp rfl rfl rfl rfl rfl) (by rfl); refine gM ?_; (iterate 5 refine gU ?_); refine gPp ?_; refine gM ?_; refine gO ?_; refine gR ?_)
 refine gb1 (fun _ _ => ?_)
 rfl
theorem ro_norm3 (w : World) (b : Bool) (A : Option Addr) (c : Nat) (v : Value) : OkM Tryz.prog 185 [.agg #[.bool b, .slice A 0 c, v]].toArray w (fun x : Option Addr × Nat => .agg #[.bool false, .slice none 0 0, .slice x.1 1 x.2]) (fun _ => []) := by
 unfold OkM
 refine ok_enter Tryz.func185 rfl Tryz.ntmps185 rfl ?_
 (refine gV ?_; refine gw_boxd (v := .agg _) rfl rfl (fun _ => ?_); refine w_alloc rfl (fun _ => ?_); refine gO ?_; refine gQ ?_; refine gV ?_; apply gw_d; exact w_load_boxN rfl rfl rfl (.there .here) rfl; apply gw_d; exact w_call rfl rfl (fun w _ => ro_zero w b A c v) rfl; refine gO ?_)
 refine gc_if_true rfl ?_
 (refine gV ?_)
 refine gw_callm rfl (fun w _ => ro_whole w) rfl (fun x => ?_)
 (refine w_store_all rfl rfl rfl rfl rfl .here rfl ?_; refine gO ?_; refine gR ?_; refine gT ?_)
 exact gx_retc rfl rfl .here rfl fun w s => ⟨x, rfl, trivial⟩
theorem ro_reduce (w : World) (B : Option Addr) (d : Nat) (g : Is1 w B d) : OkM Tryz.prog 206 [.bool false, .slice none 0 0, .slice B 1 d].toArray w (fun x : (Option Addr × Nat) × Option Addr × Nat => .agg #[.bool false, .slice x.1.1 0 x.1.2, .slice x.2.1 1 x.2.2]) (fun _ => []) := by
 unfold OkM
 refine ok_enter Tryz.func206 rfl Tryz.ntmps206 rfl ?_
 (refine gV ?_; refine w_alloc rfl (fun _ => ?_); refine gN ?_; (iterate 2 refine gM ?_))
 refine gw_callm rfl (fun w s => rn_gcd w none B 0 d (g.later s)) rfl (fun x => ?_)
 (refine gM ?_; refine gN ?_; (iterate 2 refine gM ?_))
 refine gw_callm rfl (fun w s => rn_div0 w none x.1 0 x.2 (Is1.own s .here)) rfl (fun y => ?_)
 (refine gM ?_; apply gw_d; exact det_extract rfl rfl rfl (by conv => (lhs; whnf)); apply gw_d; exact det_extract rfl rfl rfl (by conv => (lhs; whnf)); apply gw_d; exact det_extract rfl rfl rfl (by conv => (lhs; whnf)); (iterate 3 refine gM ?_); refine gN ?_; (iterate 2 refine gM ?_))
 refine gw_callm rfl (fun w s => rn_div1 w B x.1 d x.2 (g.later s) (Is1.own s .here)) rfl (fun z => ?_)
 (refine gM ?_; apply gw_d; exact det_extract rfl rfl rfl (by conv => (lhs; whnf)); apply gw_d; exact det_extract rfl rfl rfl (by conv => (lhs; whnf)); apply gw_d; exact det_extract rfl rfl rfl (by conv => (lhs; whnf)); (iterate 3 refine gM ?_); refine gN ?_; (iterate 2 refine gM ?_); apply gw_d; exact w_build (cells := #[.bool false, .slice none 0 0]) rfl rfl (by kernel_rfl))
 refine gw_callm rfl (fun w _ => ro_norm w none 0) rfl (fun u => ?_)
 refine gw_ent (K := [Box _ _ _]) (Sub.ent (.cons (.there .here) .nil)) ?_
 (refine gM ?_; apply gw_d; exact w_buildP [(0, .agg #[.bool false, .slice u.1 0 u.2]), (1, .slice z.1.1 1 z.1.2)] (cells := #[.bool false, .slice u.1 0 u.2, .slice z.1.1 1 z.1.2]) (by kernel_rfl) rfl rfl rfl; refine w_store_all rfl rfl rfl rfl rfl .here rfl ?_; refine gO ?_; refine gR ?_)
 exact gx_retc rfl rfl .here rfl fun w s => ⟨(u, z.1), rfl, trivial⟩
section
variable {P : Program} {N : Nat} {w0 : World} {L L' : List Res} {e : Env} {t n : Nat}
theorem gx_ret2c [CAgg P t n] {fn : Func} {φ : Value → World → Prop} {b r c : Nat} {bt : TypeId} {cs : Array Value} {v : Value} (hres : fn.results = #[.cell r t, .tmp c]) (hv : ev N e (.tmp c) = v) (hr : ev N e (.tmp r) = .pointer (some ⟨b, 0, none⟩)) (hp : Pick L (Box b bt cs) L') (hn : cs.size = n) (h : ∀ w, St w0 L w → φ (.tuple #[.agg cs, v]) w) :
  GX (Post P fn w0 φ) N w0 L .ret e :=
 gx_ret (fun w s => by
  have hl := run_loadVarN (P := P) (t := t) (cs := cs.toList) (a := ⟨b, 0, none⟩) (w := w) (by rw [Array.length_toList, hn]; exact CAgg.h) fun j u hu => by
   have hadd : (⟨b, 0, none⟩ : Addr).add j = ⟨b, j, none⟩ := by unfold Addr.add; split <;> simp_all
   rw [hadd, Box.cell (s.pick hp).head j]
   simpa using hu
  have hg : (mk N e).tmps.getD r undef = .pointer (some ⟨b, 0, none⟩) := by rw [mk_getD]; exact hr
  have g2 : (mk N e).tmps.getD c undef = v := by rw [mk_getD]; exact hv
  simp only [Array.getD_eq_getD_getElem?] at hg g2
  simp [results, hres, hg, g2, asAddr, hl]) h
end
theorem ro_of3 (w : World) : OkM Tryz.prog 188 [.int .i64 0, .int .i64 1].toArray w (fun x : (Option Addr × Nat) × Option Addr × Nat => .tuple #[.agg #[.bool false, .slice x.1.1 0 x.1.2, .slice x.2.1 1 x.2.2], .bool true]) (fun _ => []) := by
 unfold OkM
 refine ok_enter Tryz.func188 rfl Tryz.ntmps188 rfl ?_
 (refine gV ?_; refine w_alloc rfl (fun _ => ?_); refine gM ?_; refine gO ?_; refine gQ ?_; refine gV ?_; refine gM ?_; refine gC ?_; refine gO ?_)
 refine gc_if_dec rfl (fun h => absurd h (by decide)) (fun _ => ?_)
 (refine gK ?_; refine gX ?_; refine gV ?_; refine gM ?_; apply gw_d; exact w_call rfl rfl (fun w _ => ro_of0 w) rfl; refine gM ?_)
 refine gw_callm rfl (fun w _ => ro_of1 w) rfl (fun x => ?_)
 (refine w_alloc rfl (fun _ => ?_); refine w_alloc rfl (fun _ => ?_); refine w_store_all rfl rfl rfl rfl rfl (.there .here) rfl ?_; refine w_store_all rfl rfl rfl rfl rfl (.there .here) rfl ?_; refine gN ?_; refine gF ?_; refine gW (.there .here) ?_; refine gF ?_; refine gW .here ?_; apply gw_d; exact det_bne rfl rfl rfl rfl rfl; refine gF ?_; refine gW (.there .here) ?_; refine gF ?_; refine gW .here ?_)
 refine gw_callm rfl (fun w s => ro_reduce w x.1 x.2 (Is1.own s (.there (.there .here)))) rfl (fun y => ?_)
 (refine w_store_all rfl rfl rfl rfl rfl (.there (.there (.there .here))) rfl ?_; refine gM ?_; refine gO ?_; refine gR ?_)
 exact gx_ret2c (v := .bool _) rfl rfl rfl .here rfl fun w s => ⟨y, rfl, trivial⟩
theorem rf_whole (w : World) : OkM Tryz.prog 160 [.int .i64 0].toArray w (fun x : (Option Addr × Nat) × Option Addr × Nat => .agg #[.bool false, .slice x.1.1 0 x.1.2, .slice x.2.1 1 x.2.2]) (fun _ => []) := by
 unfold OkM
 refine ok_enter Tryz.func160 rfl Tryz.ntmps160 rfl ?_
 (refine gV ?_; refine w_alloc rfl (fun _ => ?_); refine gN ?_; refine gM ?_)
 refine gw_callm rfl (fun w _ => ro_of3 w) rfl (fun x => ?_)
 (refine gM ?_; apply gw_d; exact det_extract rfl rfl rfl (by conv => (lhs; whnf)); apply gw_d; exact det_extract rfl rfl rfl (by conv => (lhs; whnf)); refine w_alloc rfl (fun _ => ?_); refine w_store_all rfl rfl rfl rfl rfl .here rfl ?_; refine gM ?_; refine gN ?_; apply gw_d; exact w_load_boxN rfl rfl rfl .here rfl; refine w_store_all rfl rfl rfl rfl rfl (.there .here) rfl ?_; refine gO ?_; refine gR ?_)
 exact gx_retc rfl rfl .here rfl fun w s => ⟨x, rfl, trivial⟩
theorem ro_cmp3 (w : World) (A B : Option Addr) (c d : Nat) (va vb : Value) : Ok Tryz.prog 159 [.agg #[.bool false, .slice A 0 c, va], .agg #[.bool false, .slice B 0 d, vb]].toArray w fun r _ => r = .int .i64 0 := by
 have hN1 : ∀ (L : List Res) (w' : World), St w L w' → OkM Tryz.prog 185 [.agg #[.bool false, .slice A 0 c, va]].toArray w' (fun x : Option Addr × Nat => .agg #[.bool false, .slice none 0 0, .slice x.1 1 x.2]) (fun _ => []) := fun L w' _ => ro_norm3 w' false A c va
 have hN2 : ∀ (L : List Res) (w' : World), St w L w' → OkM Tryz.prog 185 [.agg #[.bool false, .slice B 0 d, vb]].toArray w' (fun x : Option Addr × Nat => .agg #[.bool false, .slice none 0 0, .slice x.1 1 x.2]) (fun _ => []) := fun L w' _ => ro_norm3 w' false B d vb
 refine ok_enter Tryz.func159 rfl Tryz.ntmps159 rfl ?_
 (refine gV ?_; refine gw_boxd (v := .agg _) rfl rfl (fun _ => ?_); refine gw_boxd (v := .agg _) rfl rfl (fun _ => ?_); refine gM ?_; refine gO ?_; refine gQ ?_)
 rename_i ba bb
 refine gc_blockJ (P := Tryz.prog) (Nat × Option Addr × Nat) 7 (fun i => ([[], [0], [], [0, 1, 2], [], [], [0, 1, 2, 3, 4, 5]] : List (List Nat)).getD i []) (fun i γ => match i with
  | 0 => .agg #[.bool false, .slice A 0 c, va]
  | 1 => .agg #[.bool false, .slice none 0 0, .slice (γ 1).2.1 1 (γ 1).2.2]
  | 2 => .agg #[.bool false, .slice B 0 d, vb]
  | 3 => .agg #[.bool false, .slice none 0 0, .slice (γ 3).2.1 1 (γ 3).2.2]
  | 4 => .pointer (some ⟨(γ 4).1, 0, none⟩)
  | 5 => .pointer (some ⟨(γ 5).1, 0, none⟩)
  | _ => undef) (fun ls β w' => ((ls 6 = true → ls 4 = true) ∧ (ls 6 = true → ls 1 = true)) ∧ St w ((if ls 5 = true then [Box (β 5).1 153 #[.bool false, .slice none 0 0, .slice none 0 0]] else []) ++ ((if ls 4 = true then [Box (β 4).1 153 (if ls 6 = true then #[.bool false, .slice none 0 0, .slice (β 1).2.1 1 (β 1).2.2] else #[.bool false, .slice none 0 0, .slice none 0 0])] else []) ++ [Box bb 153 #[.bool false, .slice B 0 d, vb], Box ba 153 #[.bool false, .slice A 0 c, va]])) w') rfl (by kernel_rfl) (fun w' s => ⟨⟨fun h => (by cases h), fun h => (by cases h)⟩, by simp only [Bool.false_eq_true, if_false, List.nil_append]; exact s⟩) ?_ ?_
 ·intro i o ls β w' hi hik hls hpl hJ
  have hS0 : St w [Box bb 153 #[.bool false, .slice B 0 d, vb], Box ba 153 #[.bool false, .slice A 0 c, va]] w' := hJ.2.sublist ((List.sublist_append_right _ _).trans (List.sublist_append_right _ _))
  obtain rfl | rfl | rfl | rfl | rfl | rfl | rfl : i = 0 ∨ i = 1 ∨ i = 2 ∨ i = 3 ∨ i = 4 ∨ i = 5 ∨ i = 6 := by omega
  ·cases hi
   exact detG (w_load_boxN (b := ba) (cs := #[.bool false, .slice A 0 c, va]) rfl rfl rfl (.there .here) rfl) rfl hS0 (fun w2 hx => ⟨default, rfl, hJ.1, St.ext hJ.2 hx⟩)
  ·cases hi
   obtain ⟨⟨j1, j2⟩, hS⟩ := hJ
   have h6 : ls 6 = false := by
    cases h : ls 6 with
    | false => rfl
    | true => have := j2 h; rw [hls] at this; cases this
   rw [h6] at hS
   refine ⟨rfl, (stepG_callm (l := [.agg #[.bool false, .slice A 0 c, va]]) rfl rfl (hN1 _ _ hS) hS).mono fun u w2 hu => ?_⟩
   obtain ⟨x, hu, s2⟩ := hu
   refine ⟨(0, x), hu, ⟨j1, fun _ => rfl⟩, ?_⟩
   show St w ((if ls 5 = true then [Box (β 5).1 153 #[.bool false, .slice none 0 0, .slice none 0 0]] else []) ++ ((if ls 4 = true then [Box (β 4).1 153 (if ls 6 = true then #[.bool false, .slice none 0 0, .slice x.1 1 x.2] else #[.bool false, .slice none 0 0, .slice none 0 0])] else []) ++ [Box bb 153 #[.bool false, .slice B 0 d, vb], Box ba 153 #[.bool false, .slice A 0 c, va]])) w2
   rw [h6]
   exact s2
  ·cases hi
   exact detG (w_load_boxN (b := bb) (cs := #[.bool false, .slice B 0 d, vb]) rfl rfl rfl .here rfl) rfl hS0 (fun w2 hx => ⟨default, rfl, hJ.1, St.ext hJ.2 hx⟩)
  ·cases hi
   obtain ⟨j1, hS⟩ := hJ
   refine ⟨rfl, (stepG_callm (l := [.agg #[.bool false, .slice B 0 d, vb]]) rfl rfl (hN2 _ _ hS) hS).mono fun u w2 hu => ?_⟩
   obtain ⟨x, hu, s2⟩ := hu
   exact ⟨(0, x), hu, j1, s2⟩
  ·cases hi
   obtain ⟨⟨j1, j2⟩, hS⟩ := hJ
   have h6 : ls 6 = false := by
    cases h : ls 6 with
    | false => rfl
    | true => have := j1 h; rw [hls] at this; cases this
   rw [hls] at hS
   refine ⟨rfl, (stepG_alloc (z := .agg #[.bool false, .slice none 0 0, .slice none 0 0]) hS).mono fun u w2 hu => ?_⟩
   obtain ⟨b, hu, s2⟩ := hu
   refine ⟨(b, none, 0), hu, ⟨fun _ => rfl, j2⟩, ?_⟩
   show St w ((if ls 5 = true then [Box (β 5).1 153 #[.bool false, .slice none 0 0, .slice none 0 0]] else []) ++ ([Box b 153 (if ls 6 = true then #[.bool false, .slice none 0 0, .slice (β 1).2.1 1 (β 1).2.2] else #[.bool false, .slice none 0 0, .slice none 0 0])] ++ [Box bb 153 #[.bool false, .slice B 0 d, vb], Box ba 153 #[.bool false, .slice A 0 c, va]])) w2
   rw [h6]
   cases h5 : ls 5 with
   | false => rw [h5] at s2; exact s2
   | true => rw [h5] at s2; exact St.sub (.cons (.there .here) (Sub.all _)) s2
  ·cases hi
   obtain ⟨j1, hS⟩ := hJ
   rw [hls] at hS
   refine ⟨rfl, (stepG_alloc (z := .agg #[.bool false, .slice none 0 0, .slice none 0 0]) hS).mono fun u w2 hu => ?_⟩
   obtain ⟨b, hu, s2⟩ := hu
   exact ⟨(b, none, 0), hu, j1, s2⟩
  ·cases hi
   obtain ⟨⟨j1, j2⟩, hS⟩ := hJ
   have h4 : ls 4 = true := hpl 4 (by decide)
   have h1 : ls 1 = true := hpl 1 (by decide)
   rw [hls, h4] at hS
   cases h5 : ls 5 with
   | false =>
    rw [h5] at hS
    refine ⟨rfl, (stepG_store (b := (β 4).1) (cs := #[.bool false, .slice none 0 0, .slice none 0 0]) (vs := #[.bool false, .slice none 0 0, .slice (β 1).2.1 1 (β 1).2.2]) rfl rfl rfl rfl .here rfl hS).mono fun u w2 hu => ?_⟩
    refine ⟨default, hu.1, ⟨fun _ => h4, fun _ => h1⟩, ?_⟩
    show St w ((if ls 5 = true then [Box (β 5).1 153 #[.bool false, .slice none 0 0, .slice none 0 0]] else []) ++ ((if ls 4 = true then [Box (β 4).1 153 #[.bool false, .slice none 0 0, .slice (β 1).2.1 1 (β 1).2.2]] else []) ++ [Box bb 153 #[.bool false, .slice B 0 d, vb], Box ba 153 #[.bool false, .slice A 0 c, va]])) w2
    rw [h4, h5]
    exact hu.2
   | true =>
    rw [h5] at hS
    refine ⟨rfl, (stepG_store (b := (β 4).1) (cs := #[.bool false, .slice none 0 0, .slice none 0 0]) (vs := #[.bool false, .slice none 0 0, .slice (β 1).2.1 1 (β 1).2.2]) rfl rfl rfl rfl (.there .here) rfl hS).mono fun u w2 hu => ?_⟩
    refine ⟨default, hu.1, ⟨fun _ => h4, fun _ => h1⟩, ?_⟩
    show St w ((if ls 5 = true then [Box (β 5).1 153 #[.bool false, .slice none 0 0, .slice none 0 0]] else []) ++ ((if ls 4 = true then [Box (β 4).1 153 #[.bool false, .slice none 0 0, .slice (β 1).2.1 1 (β 1).2.2]] else []) ++ [Box bb 153 #[.bool false, .slice B 0 d, vb], Box ba 153 #[.bool false, .slice A 0 c, va]])) w2
    rw [h4, h5]
    exact St.sub (.cons (.there .here) (Sub.all _)) hu.2
 intro ls β w' hall2 hJ2
 obtain ⟨_, hS⟩ := hJ2
 rw [hall2 4 (by decide), hall2 5 (by decide), hall2 6 (by decide)] at hS
 have hJ3 : St w (Box (β 5).1 153 #[.bool false, .slice none 0 0, .slice none 0 0] :: Box (β 4).1 153 #[.bool false, .slice none 0 0, .slice (β 1).2.1 1 (β 1).2.2] :: [Box bb 153 #[.bool false, .slice B 0 d, vb], Box ba 153 #[.bool false, .slice A 0 c, va]]) w' := hS
 refine GW.h (P := Tryz.prog) ?_ w' hJ3
 refine w_store_all (b := (β 5).1) (cs := #[.bool false, .slice none 0 0, .slice none 0 0]) (vs := #[.bool false, .slice none 0 0, .slice (β 3).2.1 1 (β 3).2.2]) rfl rfl rfl rfl rfl .here rfl ?_
 (refine gO ?_; refine gQ ?_)
 have hM : ∀ (k : Option Addr × Nat) (w' : World), OkM Tryz.prog 187 [.agg #[.bool false, .slice none 0 0], .agg #[.bool false, .slice k.1 1 k.2]].toArray w' (fun x : Option Addr × Nat => .agg #[.bool false, .slice x.1 0 x.2]) (fun _ => []) := fun k w' => ro_mul w' none k.1 0 k.2
 refine gc_block_draw (Option Addr × Nat) 13 (fun i => ([[], [0], [], [2], [2, 3], [0, 1, 2, 3, 4], [], [6], [], [8], [8, 9], [0, 1, 2, 3, 4, 5, 6, 7, 8, 9, 10], [0, 1, 2, 3, 4, 5, 6, 7, 8, 9, 10, 11]] : List (List Nat)).getD i []) rfl (by kernel_rfl) ?_
 (apply gb_d; (intro γ; exact w_field rfl rfl rfl); (intros; rfl); (intros; rfl); apply gb_d; (intro γ; exact w_load_part rfl rfl rfl (.there .here) rfl rfl); (intros; rfl); (intros; rfl); apply gb_d; (intro γ; exact w_field rfl rfl rfl); (intros; rfl); (intros; rfl); apply gb_d; (intro γ; exact w_load_box rfl rfl rfl .here rfl); (intros; rfl); (intros; rfl); apply gb_d; (intro γ; exact w_build (cells := #[.bool false, .slice (β 3).2.1 1 (β 3).2.2]) rfl rfl (by kernel_rfl)); (intros; rfl); (intros; rfl))
 refine gb_call (l := fun _ => [.agg #[.bool false, .slice none 0 0], .agg #[.bool false, .slice (β 3).2.1 1 (β 3).2.2]]) (fun _ (x : Option Addr × Nat) => .agg #[.bool false, .slice x.1 0 x.2]) (fun _ _ => []) (fun _ => rfl) (fun _ w _ => hM _ w) (fun _ => rfl) (fun _ _ => ⟨rfl, rfl⟩) (fun _ => ⟨rfl, rfl⟩) ?_
 (apply gb_d; (intro γ; exact w_field rfl rfl rfl); (intros; rfl); (intros; rfl); apply gb_d; (intro γ; exact w_load_part rfl rfl rfl .here rfl rfl); (intros; rfl); (intros; rfl); apply gb_d; (intro γ; exact w_field rfl rfl rfl); (intros; rfl); (intros; rfl); apply gb_d; (intro γ; exact w_load_box rfl rfl rfl (.there .here) rfl); (intros; rfl); (intros; rfl); apply gb_d; (intro γ; exact w_build (cells := #[.bool false, .slice (β 1).2.1 1 (β 1).2.2]) rfl rfl (by kernel_rfl)); (intros; rfl); (intros; rfl))
 refine gb_call (l := fun _ => [.agg #[.bool false, .slice none 0 0], .agg #[.bool false, .slice (β 1).2.1 1 (β 1).2.2]]) (fun _ (x : Option Addr × Nat) => .agg #[.bool false, .slice x.1 0 x.2]) (fun _ _ => []) (fun _ => rfl) (fun _ w _ => hM _ w) (fun _ => rfl) (fun _ _ => ⟨rfl, rfl⟩) (fun _ => ⟨rfl, rfl⟩) ?_
 refine gb_call (l := fun γ => [.agg #[.bool false, .slice (γ 5).1 0 (γ 5).2], .agg #[.bool false, .slice (γ 11).1 0 (γ 11).2]]) (fun _ (_ : Option Addr × Nat) => .int .i64 0) (fun _ _ => []) (fun _ => rfl) (fun γ w _ => okM_of0 (ro_cmp w (γ 5).1 (γ 11).1 (γ 5).2 (γ 11).2)) (fun _ => rfl) (fun _ _ => ⟨rfl, rfl⟩) (fun _ => ⟨rfl, rfl⟩) ?_
 refine GB.nil (fun δ => ?_)
 (refine gM ?_; refine gO ?_; refine gR ?_)
 refine gi1 (fun _ _ => ?_)
 rfl

theorem rf_right (w : World) (s : ByteArray) (hs : s.size ≤ 9223372036854775807) : Ok Tryz.prog 132 [.agg #[.int .i64 2, .bool false, .slice none 0 0, .slice none 0 0, .string s, .slice none 0 0]].toArray w fun r _ => r = .bool (nameB s) := by
 have hN : ∀ (L : List Res) (w' : World), St w L w' → Ok Tryz.prog 82 [.string s].toArray w' fun r _ => r = .bool (nameB s) := fun L w' _ => rname_ok w' s hs
 refine ok_enter Tryz.func132 rfl Tryz.ntmps132 rfl ?_
 (refine gV ?_; refine gw_boxd (v := .agg _) rfl rfl (fun _ => ?_); refine gM ?_; refine gO ?_; refine gQ ?_)
 refine gc_block_draw ((Option Addr × Nat) × Option Addr × Nat) 5 (fun i => ([[], [0], [], [0, 1, 2], [0, 1, 2, 3]] : List (List Nat)).getD i []) rfl (by kernel_rfl) ?_
 (apply gb_d; (intro γ; exact w_field rfl rfl rfl); (intros; rfl); (intros; rfl); apply gb_d; (intro γ; exact w_load_part rfl rfl rfl .here rfl rfl); (intros; rfl); (intros; rfl))
 refine gb_call (l := fun _ => [.int .i64 0]) (fun _ (x : (Option Addr × Nat) × Option Addr × Nat) => .agg #[.bool false, .slice x.1.1 0 x.1.2, .slice x.2.1 1 x.2.2]) (fun _ _ => []) (fun _ => rfl) (fun _ w _ => rf_whole w) (fun _ => rfl) (fun _ _ => ⟨rfl, rfl⟩) (fun _ => ⟨rfl, rfl⟩) ?_
 refine gb_call (l := fun γ => [.agg #[.bool false, .slice none 0 0, .slice none 0 0], .agg #[.bool false, .slice (γ 2).1.1 0 (γ 2).1.2, .slice (γ 2).2.1 1 (γ 2).2.2]]) (fun _ _ => .int .i64 0) (fun _ _ => []) (fun _ => rfl) (fun γ w _ => okM_of0 (ro_cmp3 w none (γ 2).1.1 0 (γ 2).1.2 _ _)) (fun _ => rfl) (fun _ _ => ⟨rfl, rfl⟩) (fun _ => ⟨rfl, rfl⟩) ?_
 (apply gb_d; (intro γ; exact det_cmp rfl rfl rfl rfl rfl); (intros; rfl); (intros; rfl))
 refine GB.nil (fun δ => ?_)
 (refine gM ?_; refine gN ?_; refine gF ?_; refine gW .here ?_; refine gL ?_; refine gM ?_; refine gO ?_; refine gQ ?_; refine gV ?_; refine gF ?_; refine gW .here ?_; refine gO ?_; refine gB ?_; refine gV ?_; apply gw_d; exact det_eq (c' := .bool false) (det_cmp rfl rfl rfl rfl rfl) (by rfl); refine gM ?_; refine gO ?_)
 refine gc_if_false rfl ?_
 (refine gV ?_; apply gw_d; exact det_eq (c' := .bool true) (det_cmp rfl rfl rfl rfl rfl) (by rfl); refine gM ?_; refine gO ?_)
 refine gc_if_true rfl ?_
 cases hb : nameB s with
 | false =>
  rw [hb] at hN
  (refine gV ?_; refine gF ?_; refine gW .here ?_; apply gw_d; exact w_call rfl rfl (hN _) rfl; refine gM ?_; refine gU ?_; refine gPq ?_; refine gM ?_; (iterate 2 refine gU ?_); refine gPq ?_; refine gM ?_; refine gO ?_; refine gR ?_; refine gY ?_; refine gT ?_)
  refine gb1 (fun _ _ => ?_)
  rfl
 | true =>
  rw [hb] at hN
  (refine gV ?_; refine gF ?_; refine gW .here ?_; apply gw_d; exact w_call rfl rfl (hN _) rfl; (iterate 2 refine gM ?_); refine gPp ?_; (iterate 2 refine gM ?_); apply gw_d; exact det_eq (c' := .bool true) (det_cmp rfl rfl rfl rfl rfl) (by rfl); refine gPp ?_; refine gM ?_; refine gO ?_; refine gR ?_; refine gY ?_; refine gT ?_)
  refine gb1 (fun _ _ => ?_)
  rfl
theorem rf_check (w : World) (s : ByteArray) (hs : s.size ≤ 9223372036854775807) : Ok Tryz.prog 114 [.agg #[.int .i64 2, .bool false, .slice none 0 0, .slice none 0 0, .string s, .slice none 0 0], .int .i64 1].toArray w fun r _ => r = .int .i64 (if nameB s = true then 0 else 1) := by
 have hN : ∀ (L : List Res) (w' : World), St w L w' → Ok Tryz.prog 132 [.agg #[.int .i64 2, .bool false, .slice none 0 0, .slice none 0 0, .string s, .slice none 0 0]].toArray w' fun r _ => r = .bool (nameB s) := fun L w' _ => rf_right w' s hs
 refine ok_enter Tryz.func114 rfl Tryz.ntmps114 rfl ?_
 (refine gV ?_; refine gw_boxd (v := .agg _) rfl rfl (fun _ => ?_); refine gM ?_; refine gO ?_; refine gQ ?_; refine gV ?_; refine gM ?_; refine gC ?_; refine gO ?_)
 refine gc_if_dec rfl (fun h => absurd h (by decide)) (fun _ => ?_)
 (refine gK ?_; refine gX ?_; refine gQ ?_; refine gV ?_; apply gw_d; exact w_load_boxN rfl rfl rfl .here rfl; apply gw_d; exact w_call rfl rfl (hN _) rfl; apply gw_d; exact det_not_ rfl rfl rfl; refine gO ?_)
 refine gc_if rfl (fun h => ?_) (fun h => ?_)
 ·(refine gV ?_; refine gM ?_; refine gO ?_; refine gR ?_; refine gT ?_)
  refine gi1 (fun _ _ => ?_)
  rw [if_neg (by simpa using h)]
 ·(refine gK ?_; refine gX ?_; refine gQ ?_; refine gV ?_; refine gM ?_; refine gO ?_; refine gB ?_)
  refine gc_rounds 1 (gr_succ ?_)
  (refine gQ ?_; refine gV ?_; refine gM ?_; refine gF ?_; refine gW .here ?_; refine gL ?_; apply gw_d; exact det_eq (c' := .bool false) (det_cmp rfl rfl rfl rfl rfl) (by rfl); refine gO ?_)
  refine gc_if_false rfl ?_
  (refine gI ?_; (iterate 2 refine gZ ?_); refine gJ ?_; refine gX ?_; refine gV ?_; refine gM ?_; refine gO ?_; refine gR ?_)
  refine gi1 (fun _ _ => ?_)
  rw [if_pos (by simpa using h)]
theorem rf_name (w : World) (s : ByteArray) (hs : s.size ≤ 9223372036854775807) : Ok Tryz.prog 85 [.string s].toArray w fun r _ => r = .bool (nameB s) := by
 have hC : ∀ (L : List Res) (w' : World), St w L w' → Ok Tryz.prog 100 [.agg #[.int .i64 2, .bool false, .slice none 0 0, .slice none 0 0, .string s, .slice none 0 0]].toArray w' fun r _ => r = .int .i64 (if nameB s = true then 0 else 1) := fun L w' _ => by
  refine ok_enter Tryz.func100 rfl Tryz.ntmps100 rfl ?_
  (refine gV ?_; refine gw_boxd (v := .agg _) rfl rfl (fun _ => ?_); refine gM ?_; refine gN ?_; apply gw_d; exact w_load_boxN rfl rfl rfl .here rfl)
  (apply gw_d; exact w_call rfl rfl (fun w _ => rf_check w s hs) rfl; refine gM ?_; refine gO ?_; refine gR ?_)
  refine gi1 (fun _ _ => ?_)
  rfl
 refine ok_enter Tryz.func85 rfl Tryz.ntmps85 rfl ?_
 (refine gV ?_; refine gM ?_; refine gN ?_; refine gM ?_; apply gw_d; exact w_buildP [(0, .int .i64 2), (2, .string s)] (cells := #[.int .i64 2, .bool false, .slice none 0 0, .slice none 0 0, .string s, .slice none 0 0]) (by kernel_rfl) rfl rfl rfl; apply gw_d; exact w_call rfl rfl (hC _) rfl; refine gC ?_; refine gM ?_; refine gO ?_; refine gR ?_)
 refine gb1 (fun _ _ => ?_)
 refine congrArg Value.bool ?_
 cases nameB s
 ·rfl
 ·rfl
def rBadAt (l : List (Int × Int)) (i : Nat) : Bool :=
 decide (gS l i = gS l ((i + 1) % l.length)) || onB (gS l i).1 (gS l i).2 (gS l ((i + 1) % l.length)).1 (gS l ((i + 1) % l.length)).2 (gS l ((i + 2) % l.length)).1 (gS l ((i + 2) % l.length)).2 ||
  onB (gS l ((i + 1) % l.length)).1 (gS l ((i + 1) % l.length)).2 (gS l ((i + 2) % l.length)).1 (gS l ((i + 2) % l.length)).2 (gS l i).1 (gS l i).2 || meetsB l i l.length
def rSimpleB (l : List (Int × Int)) : Bool := !(List.range l.length).any (rBadAt l)

theorem lt_prod {X x Y y : Int} (h1 : 0 ≤ x) (h2 : x < X) (h3 : 0 ≤ Y) (h4 : Y < y) : Y * x < X * y := by
 have a1 : Y * x ≤ Y * X := Int.mul_le_mul_of_nonneg_left (by omega) h3
 have a2 : Y * X < y * X := Int.mul_lt_mul_of_pos_right h4 (by omega)
 rw [Int.mul_comm X y]
 omega
theorem mixed {X x Y y : Int} (hx : min 0 X ≤ x ∧ x ≤ max 0 X) (hx' : ¬ x = X) (hy : min 0 y ≤ Y ∧ Y ≤ max 0 y) (hy' : ¬ Y = y) : ¬ X * y = Y * x := by
 intro he
 by_cases h1 : 0 < X
 ·by_cases h2 : 0 < y
  ·have := lt_prod (X := X) (x := x) (Y := Y) (y := y) (by omega) (by omega) (by omega) (by omega)
   omega
  ·have := lt_prod (X := X) (x := x) (Y := -Y) (y := -y) (by omega) (by omega) (by omega) (by omega)
   rw [Int.neg_mul, Int.mul_neg] at this
   omega
 ·by_cases h2 : 0 < y
  ·have := lt_prod (X := -X) (x := -x) (Y := Y) (y := y) (by omega) (by omega) (by omega) (by omega)
   rw [Int.neg_mul, Int.mul_neg] at this
   omega
  ·have := lt_prod (X := -X) (x := -x) (Y := -Y) (y := -y) (by omega) (by omega) (by omega) (by omega)
   rw [Int.neg_mul_neg, Int.neg_mul_neg] at this
   omega
theorem between_or {X x : Int} (h : 0 ≤ X * x) : (min 0 X ≤ x ∧ x ≤ max 0 X) ∨ (min 0 x ≤ X ∧ X ≤ max 0 x) := by
 by_cases h1 : 0 ≤ X
 ·by_cases h2 : 0 ≤ x
  ·omega
  ·by_cases h3 : X = 0
   ·omega
   ·have := Int.mul_neg_of_pos_of_neg (a := X) (b := x) (by omega) (by omega)
    omega
 ·by_cases h2 : x ≤ 0
  ·omega
  ·have := Int.mul_neg_of_neg_of_pos (a := X) (b := x) (by omega) (by omega)
   omega
theorem same_side {X x Y y : Int} (hc : X * y = Y * x) (hd : X * x + Y * y > 0) : 0 ≤ X * x ∧ 0 ≤ Y * y := by
 have hp : (X * x) * (Y * y) = (X * y) * (X * y) := by
  rw [show (X * y) * (X * y) = (X * y) * (Y * x) from by rw [← hc]]
  simp only [Int.mul_comm, Int.mul_left_comm]
 have hs : 0 ≤ (X * y) * (X * y) := by
  by_cases h : 0 ≤ X * y
  ·exact Int.mul_nonneg h h
  ·exact Int.mul_nonneg_of_nonpos_of_nonpos (by omega) (by omega)
 generalize X * x = a at hp hd ⊢
 generalize Y * y = b at hp hd ⊢
 refine ⟨Int.not_lt.1 fun h => ?_, Int.not_lt.1 fun h => ?_⟩
 ·have := Int.mul_neg_of_neg_of_pos (a := a) (b := b) h (by omega)
  omega
 ·have := Int.mul_neg_of_pos_of_neg (a := a) (b := b) (by omega) h
  omega
theorem fold_box {X x Y y : Int} (hc : X * y = Y * x) (hd : X * x + Y * y > 0) : ((min 0 X ≤ x ∧ x ≤ max 0 X) ∧ (min 0 Y ≤ y ∧ y ≤ max 0 Y)) ∨ ((min 0 x ≤ X ∧ X ≤ max 0 x) ∧ (min 0 y ≤ Y ∧ Y ≤ max 0 y)) := by
 obtain ⟨h1, h2⟩ := same_side hc hd
 have b1 := between_or h1
 have b2 := between_or h2
 by_cases e1 : x = X
 ·omega
 by_cases e2 : Y = y
 ·omega
 have m1 := fun hx hy => mixed (X := X) (x := x) (Y := Y) (y := y) hx e1 hy e2 hc
 have m2 := fun hx hy => mixed (X := Y) (x := y) (Y := X) (y := x) hx (fun h => e2 h.symm) hy (fun h => e1 h.symm) hc.symm
 rcases b1 with b1 | b1
 ·rcases b2 with b2 | b2
  ·exact .inl ⟨b1, b2⟩
  ·exact absurd b2 (m1 b1)
 ·rcases b2 with b2 | b2
  ·exact absurd b1 (m2 b2)
  ·exact .inr ⟨b1, b2⟩
theorem dot_pos {X x Y y : Int} (hx : min 0 X ≤ x ∧ x ≤ max 0 X) (hy : min 0 Y ≤ y ∧ y ≤ max 0 Y) (hne : ¬ (x = 0 ∧ y = 0)) : X * x + Y * y > 0 := by
 have h1 : ∀ {X x : Int}, min 0 X ≤ x ∧ x ≤ max 0 X → 0 ≤ X * x ∧ (¬ x = 0 → 0 < X * x) := fun {X x} h => by
  by_cases hX : 0 ≤ X
  ·exact ⟨Int.mul_nonneg hX (by omega), fun hz => Int.mul_pos (by omega) (by omega)⟩
  ·exact ⟨Int.mul_nonneg_of_nonpos_of_nonpos (by omega) (by omega), fun hz => Int.mul_pos_of_neg_of_neg (by omega) (by omega)⟩
 have a1 := h1 hx
 have a2 := h1 hy
 by_cases hx0 : x = 0
 ·have := a2.2 fun h => hne ⟨hx0, h⟩
  omega
 ·have := a1.2 hx0
  omega
theorem cross_uv (ax ay bx by_ cx cy : Int) : crossI ax ay bx by_ cx cy = (ax - bx) * (by_ - cy) - (ay - by_) * (bx - cx) := by
 unfold crossI
 simp only [Int.mul_sub, Int.mul_comm]
 omega
theorem cross_cyc (ax ay bx by_ cx cy : Int) : crossI bx by_ cx cy ax ay = crossI ax ay bx by_ cx cy := by
 unfold crossI
 simp only [Int.mul_sub, Int.mul_comm]
 omega
theorem onB_iff {ax ay bx by_ px py : Int} : onB ax ay bx by_ px py = true ↔ crossI ax ay bx by_ px py = 0 ∧ (min ax bx ≤ px ∧ px ≤ max ax bx) ∧ (min ay by_ ≤ py ∧ py ≤ max ay by_) := by
 unfold onB
 simp only [Bool.and_eq_true, decide_eq_true_eq]
 constructor
 ·rintro ⟨⟨⟨⟨h1, h2⟩, h3⟩, h4⟩, h5⟩; exact ⟨h1, ⟨h2, h3⟩, h4, h5⟩
 ·rintro ⟨h1, ⟨h2, h3⟩, h4, h5⟩; exact ⟨⟨⟨⟨h1, h2⟩, h3⟩, h4⟩, h5⟩
theorem foldB_iff {ax ay bx by_ cx cy : Int} : foldB ax ay bx by_ cx cy = true ↔ crossI ax ay bx by_ cx cy = 0 ∧ (ax - bx) * (cx - bx) + (ay - by_) * (cy - by_) > 0 := by
 unfold foldB
 simp only [Bool.and_eq_true, decide_eq_true_eq]
theorem fold_on {ax ay bx by_ cx cy : Int} (h : foldB ax ay bx by_ cx cy = true) : onB ax ay bx by_ cx cy = true ∨ onB bx by_ cx cy ax ay = true := by
 obtain ⟨h1, h2⟩ := foldB_iff.1 h
 have hc : (ax - bx) * (cy - by_) = (ay - by_) * (cx - bx) := by
  have := cross_uv ax ay bx by_ cx cy
  rw [h1] at this
  have e1 : (ax - bx) * (by_ - cy) = - ((ax - bx) * (cy - by_)) := by rw [← Int.mul_neg]; congr 1; omega
  have e2 : (ay - by_) * (bx - cx) = - ((ay - by_) * (cx - bx)) := by rw [← Int.mul_neg]; congr 1; omega
  omega
 rcases fold_box hc h2 with ⟨g1, g2⟩ | ⟨g1, g2⟩
 ·exact .inl (onB_iff.2 ⟨h1, by omega, by omega⟩)
 ·exact .inr (onB_iff.2 ⟨by rw [cross_cyc]; exact h1, by omega, by omega⟩)
theorem on_fold1 {ax ay bx by_ cx cy : Int} (h : onB ax ay bx by_ cx cy = true) (hne : ¬ (bx, by_) = (cx, cy)) : foldB ax ay bx by_ cx cy = true := by
 obtain ⟨h1, h2, h3⟩ := onB_iff.1 h
 refine foldB_iff.2 ⟨h1, dot_pos (by omega) (by omega) fun ⟨e1, e2⟩ => hne ?_⟩
 rw [show bx = cx by omega, show by_ = cy by omega]
theorem on_fold2 {ax ay bx by_ cx cy : Int} (h : onB bx by_ cx cy ax ay = true) (hne : ¬ (ax, ay) = (bx, by_)) : foldB ax ay bx by_ cx cy = true := by
 obtain ⟨h1, h2, h3⟩ := onB_iff.1 h
 rw [cross_cyc] at h1
 have := dot_pos (X := cx - bx) (x := ax - bx) (Y := cy - by_) (y := ay - by_) (by omega) (by omega) fun ⟨e1, e2⟩ => hne (by rw [show ax = bx by omega, show ay = by_ by omega])
 refine foldB_iff.2 ⟨h1, ?_⟩
 rw [Int.mul_comm (ax - bx), Int.mul_comm (ay - by_)]
 exact this
theorem on_self (ax ay bx by_ : Int) : onB ax ay bx by_ ax ay = true := by
 refine onB_iff.2 ⟨?_, by omega, by omega⟩
 unfold crossI
 simp

theorem dup_iff {l : List (Int × Int)} : dupB l l.length = false ↔ ∀ i j, i < j → j < l.length → ¬ gS l i = gS l j := by
 unfold dupB
 rw [← Bool.not_eq_true, List.any_eq_true]
 constructor
 ·intro h i j hij hj he
  refine h ⟨j, List.mem_range.2 hj, ?_⟩
  rw [List.any_eq_true]
  refine ⟨l[i], List.mem_take_iff_getElem.2 ⟨i, by omega, rfl⟩, ?_⟩
  unfold isP
  rw [← gS_get (by omega), he]
  simp
 ·rintro h ⟨j, hj, hx⟩
  rw [List.any_eq_true] at hx
  obtain ⟨x, hx, he⟩ := hx
  obtain ⟨i, hi, rfl⟩ := List.mem_take_iff_getElem.1 hx
  have hj' := List.mem_range.1 hj
  unfold isP at he
  have := of_decide_eq_true he
  refine h i j (by omega) hj' ?_
  rw [gS_get (by omega), ← this]
theorem simple_same {l : List (Int × Int)} (hn : 3 ≤ l.length) : rSimpleB l = simpleB l := by
 rw [Bool.eq_iff_iff]
 unfold rSimpleB simpleB
 rw [Bool.and_eq_true]
 simp only [Bool.not_eq_true']
 have mod1 : ∀ i, i < l.length → (i + 1) % l.length = if i + 1 = l.length then 0 else i + 1 := fun i hi => by
  by_cases h : i + 1 = l.length
  ·rw [if_pos h, h, Nat.mod_self]
  ·rw [if_neg h, Nat.mod_eq_of_lt (by omega)]
 have mod2 : ∀ i, i < l.length → (i + 2) % l.length = if i + 2 < l.length then i + 2 else i + 2 - l.length := fun i hi => by
  by_cases h : i + 2 < l.length
  ·rw [if_pos h, Nat.mod_eq_of_lt h]
  ·rw [if_neg h, Nat.mod_eq_sub_mod (by omega), Nat.mod_eq_of_lt (by omega)]
 constructor
 ·intro h
  have hno : ∀ i, i < l.length → rBadAt l i = false := fun i hi => by
   cases hb : rBadAt l i with
   | false => rfl
   | true => rw [range_any_no hi hb] at h; cases h
  have hp : ∀ i, i < l.length → (¬ gS l i = gS l ((i + 1) % l.length)) ∧ onB (gS l i).1 (gS l i).2 (gS l ((i + 1) % l.length)).1 (gS l ((i + 1) % l.length)).2 (gS l ((i + 2) % l.length)).1 (gS l ((i + 2) % l.length)).2 = false ∧
    onB (gS l ((i + 1) % l.length)).1 (gS l ((i + 1) % l.length)).2 (gS l ((i + 2) % l.length)).1 (gS l ((i + 2) % l.length)).2 (gS l i).1 (gS l i).2 = false ∧ meetsB l i l.length = false := fun i hi => by
   have := hno i hi
   unfold rBadAt at this
   simp only [Bool.or_eq_false_iff, decide_eq_false_iff_not] at this
   exact ⟨this.1.1.1, this.1.1.2, this.1.2, this.2⟩
  refine ⟨dup_iff.2 fun i j hij hj he => ?_, ?_⟩
  ·by_cases h1 : j = i + 1
   ·subst h1
    have := (hp i (by omega)).1
    rw [mod1 i (by omega), if_neg (by omega)] at this
    exact this he
   ·by_cases h2 : i = 0 ∧ j + 1 = l.length
    ·have := (hp j hj).1
     rw [mod1 j hj, if_pos h2.2] at this
     exact this (by rw [← h2.1, he])
    ·have hm := (hp i (by omega)).2.2.2
     have hmod : ¬ (j + 1) % l.length = i := by
      rw [mod1 j hj]
      split <;> omega
     have : meetsB l i l.length = true := by
      unfold meetsB
      refine range_any_no hj ?_
      rw [decide_eq_true (by omega : i + 2 ≤ j), decide_eq_true hmod]
      simp only [Bool.true_and]
      unfold meetAt meetB
      rw [← he, on_self]
      rfl
     rw [this] at hm
     cases hm
  ·unfold badB
   rw [← Bool.not_eq_true, List.any_eq_true]
   rintro ⟨i, hi, hb⟩
   have hi' := List.mem_range.1 hi
   obtain ⟨_, h2, h3, h4⟩ := hp i hi'
   rw [h4, Bool.or_false] at hb
   unfold foldAt at hb
   rcases fold_on hb with g | g
   ·rw [h2] at g; cases g
   ·rw [h3] at g; cases g
 ·rintro ⟨hd, hb⟩
  have hd' := dup_iff.1 hd
  have hne : ∀ i j, i < l.length → j < l.length → ¬ i = j → ¬ gS l i = gS l j := fun i j hi hj hij he => by
   rcases Nat.lt_or_gt_of_ne hij with h | h
   ·exact hd' i j h hj he
   ·exact hd' j i h hi he.symm
  rw [← Bool.not_eq_true, List.any_eq_true]
  rintro ⟨i, hi, hx⟩
  have hi' := List.mem_range.1 hi
  have hnb : (foldAt l i || meetsB l i l.length) = false := by
   cases hc : (foldAt l i || meetsB l i l.length) with
   | false => rfl
   | true =>
    unfold badB at hb
    rw [range_any_no hi' hc] at hb
    cases hb
  rw [Bool.or_eq_false_iff] at hnb
  have l1 : (i + 1) % l.length < l.length := Nat.mod_lt _ (by omega)
  have l2 : (i + 2) % l.length < l.length := Nat.mod_lt _ (by omega)
  have n1 : ¬ gS l i = gS l ((i + 1) % l.length) := hne _ _ hi' l1 (by rw [mod1 i hi']; split <;> omega)
  have n2 : ¬ gS l ((i + 1) % l.length) = gS l ((i + 2) % l.length) := hne _ _ l1 l2 (by rw [mod1 i hi', mod2 i hi']; split <;> split <;> omega)
  unfold rBadAt at hx
  rw [hnb.2, Bool.or_false, decide_eq_false n1, Bool.false_or, Bool.or_eq_true] at hx
  have hf := hnb.1
  unfold foldAt at hf
  rcases hx with hx | hx
  ·rw [on_fold1 hx n2] at hf
   cases hf
  ·rw [on_fold2 hx n1] at hf
   cases hf
theorem r_far_ok (w : World) (x : Int) : Ok Tryz.prog 181 [.int .i64 x].toArray w fun r _ => r = .bool (decide (x > 1048576) || decide (x < -1048576)) := by
 refine ok_enter Tryz.func181 rfl Tryz.ntmps181 rfl ?_
 focus (refine gV ?_; refine gM ?_; refine gN ?_; refine gM ?_; refine gC ?_; refine gM ?_; refine gD (fun _ => ?_) (fun _ => ?_); (iterate 2 refine gU ?_); refine gPp ?_; refine gM ?_; refine gO ?_; refine gR ?_; rotate_left; refine gM ?_; refine gC ?_; refine gPq ?_; refine gM ?_; refine gO ?_; refine gR ?_; rotate_left)
 all_goals (refine gb1 (fun _ _ => ?_); simp [*])

theorem far_out (x y : Int) : ((decide (x > 1048576) || decide (x < -1048576)) || (decide (y > 1048576) || decide (y < -1048576))) = outB x y := by
 unfold outB
 rw [Bool.eq_iff_iff]
 simp only [Bool.or_eq_true, decide_eq_true_eq]
 omega

set_option maxHeartbeats 1000000 in
theorem r_Far_ok (w : World) (v : Value) (l : List (Int × Int)) (hl : Sl rSpot w w.heap.size v l) : Ok Tryz.prog 155 [v].toArray w fun r _ => r = .bool (l.any outP) := by
 obtain ⟨A, c, rfl, hc, hm, hcell⟩ := hl.spot
 refine ok_enter Tryz.func155 rfl Tryz.ntmps155 rfl ?_
 (refine gV ?_; refine gM ?_; refine gO ?_; refine gQ ?_; refine gV ?_; refine gM ?_; refine gO ?_; refine gB ?_)
 refine gc_loop (σ := Nat) [4, 5, 6, 7, 10, 11, 12, 13, 14, 15, 16, 17, 18, 19, 20, 21, 22, 23, 2, 8, 9, 3] (fun k => [(3, .int .i64 k)]) (fun _ => []) (fun k => k ≤ l.length ∧ (l.take k).any outP = false) (fun k => l.length - k) 0 ⟨Nat.zero_le _, rfl⟩ ⟨rfl, trivial⟩ .nil ?_
 rintro k base ⟨hk, hI⟩
 (refine gQ ?_; refine gV ?_; (iterate 2 refine gM ?_); refine gL ?_; refine gC ?_; refine gO ?_)
 refine gc_if_dec rfl (fun h => ?_) (fun h => ?_)
 ·obtain ⟨ad, rfl, hb, hce, hi⟩ := hcell k (by omega)
  have hlt : k < l.length := by omega
  have hyes : outP l[k] = true → l.any outP = true := fun h => List.any_eq_true.2 ⟨_, List.getElem_mem hlt, h⟩
  focus (refine gK ?_; refine gX ?_; refine gQ ?_; refine gB ?_; refine gV ?_; (iterate 2 refine gM ?_); apply gw_d; exact w_index rfl rfl rfl rfl (by with_reducible exact rfl) (by omega); refine gF ?_; apply gw_d; exact w_load_fld rfl rfl rfl hb (hce 0 _ rfl); apply gw_d; exact w_call rfl rfl (fun w _ => r_far_ok w _) rfl; refine gM ?_; refine gw_guard rfl rfl (fun _ => ?_) (fun _ => ?_); (iterate 6 refine gU ?_); refine gPp ?_; refine gO ?_; refine gc_if_true rfl ?_; refine gV ?_; refine gM ?_; refine gO ?_; refine gR ?_; refine gY ?_; (iterate 2 refine gT ?_); refine gY ?_; refine gT ?_; rotate_left; (iterate 2 refine gM ?_); apply gw_d; exact w_index rfl rfl rfl rfl (by with_reducible exact rfl) (by omega); refine gF ?_; apply gw_d; exact w_load_fld rfl rfl rfl hb (hce 1 _ rfl); apply gw_d; exact w_call rfl rfl (fun w _ => r_far_ok w _) rfl; refine gPq ?_; refine gO ?_; refine gc_if rfl (fun _ => ?_) (fun _ => ?_); refine gV ?_; refine gM ?_; refine gO ?_; refine gR ?_; refine gY ?_; (iterate 2 refine gT ?_); refine gY ?_; refine gT ?_; rotate_left; refine gK ?_; refine gH ?_; refine gX ?_; refine gG ?_; refine gM ?_; refine gA ?_; refine gM ?_; refine gw_nil ?_; rotate_left)
  all_goals first
   | (refine gb1 (fun _ _ => ?_); rw [hyes (show outB _ _ = true from by rw [← far_out]; simp [*])])
   | exact gx_round (k + 1) ⟨by omega, any_snoc hlt hI (show outB _ _ = false from by rw [← far_out]; simp [*])⟩ (by omega) kK ⟨rfl, trivial⟩ .nil
 ·(refine gI ?_; (iterate 2 refine gZ ?_); refine gJ ?_; refine gX ?_; refine gV ?_; refine gM ?_; refine gO ?_; refine gR ?_)
  refine gb1 (fun _ _ => ?_)
  rw [List.take_of_length_le (by omega)] at hI
  rw [hI]

set_option maxHeartbeats 1000000 in
theorem r_polyline_ok (w : World) (v : Value) (l : List (Int × Int)) (hl : Sl rSpot w w.heap.size v l) : Ok Tryz.prog 126 [v].toArray w fun r _ => r = .int .i64 (plineE l) := by
 by_cases hlen : 2 ≤ l.length
 ·obtain ⟨ad, c, rfl, hc, hm, hb, hcell⟩ := hl.spot' (by omega)
  refine ok_enter Tryz.func126 rfl Tryz.ntmps126 rfl ?_
  focus (refine gV ?_; refine gM ?_; refine gO ?_; refine gQ ?_; refine gV ?_; refine gM ?_; refine gL ?_; refine gC ?_; refine gO ?_; refine gc_if_dec rfl (fun _ => ?_) (fun _ => ?_); refine gV ?_; refine gM ?_; refine gO ?_; refine gR ?_; refine gT ?_; rotate_left; refine gK ?_; refine gX ?_; refine gQ ?_; refine gV ?_; refine gM ?_; refine gL ?_; refine gC ?_; refine gO ?_; refine gc_if_dec rfl (fun _ => ?_) (fun _ => ?_); refine gV ?_; refine gM ?_; refine gO ?_; refine gR ?_; refine gT ?_; rotate_left; refine gK ?_; refine gX ?_; refine gQ ?_; refine gV ?_; refine gM ?_; apply gw_d; exact w_call rfl rfl (fun w s => r_Far_ok w _ l (hl.later s)) rfl; refine gO ?_; refine gc_if rfl (fun _ => ?_) (fun _ => ?_); refine gV ?_; refine gM ?_; refine gO ?_; refine gR ?_; refine gT ?_; rotate_left; refine gK ?_; refine gX ?_; refine gQ ?_; refine gV ?_; refine gM ?_; refine gO ?_; refine gB ?_; rotate_left)
  ·refine gi1 (fun _ _ => ?_)
   have : 40 < l.length := by omega
   simp [plineE, this]
  ·omega
  ·refine gi1 (fun _ _ => ?_)
   have h1 : ¬ 40 < l.length := by omega
   have h2 : ¬ l.length < 2 := by omega
   simp only [plineE, h1, h2, if_false]
   rw [if_pos ‹_›]
  ·refine gc_loop (σ := Nat) [12, 13, 14, 15, 18, 19, 20, 21, 22, 23, 24, 25, 26, 27, 2, 16, 17, 3] (fun k => [(3, .int .i64 (k + 1 : Nat))]) (fun _ => []) (fun k => k ≤ l.length - 1 ∧ stillB l k = false) (fun k => l.length - k) 0 ⟨Nat.zero_le _, rfl⟩ ⟨rfl, trivial⟩ .nil ?_
   rintro k base ⟨hk, hI⟩
   (refine gQ ?_; refine gV ?_; (iterate 2 refine gM ?_); refine gL ?_; refine gC ?_; refine gO ?_)
   refine gc_if_dec rfl (fun h => ?_) (fun h => ?_)
   ·have hce0 := hcell k (by omega)
    have hce1 := hcell (k + 1) (by omega)
    (refine gK ?_; refine gX ?_; refine gQ ?_; refine gB ?_; refine gQ ?_)
    refine gc_draw 10 (by kernel_rfl) (by kernel_rfl) ?_
    focus ((iterate 2 refine dM ?_); apply gd_d; exact w_index (m := k + 1) rfl rfl rfl rfl rfl (by omega); apply gd_d; exact w_load_elem rfl rfl rfl (by assumption) (by assumption) (by rfl); (iterate 2 refine dM ?_); apply gd_d; exact det_ar rfl rfl rfl rfl rfl (by omega); apply gd_d; exact w_index (m := k) rfl rfl rfl rfl (by omega) (by omega); apply gd_d; exact w_load_elem rfl rfl rfl (by assumption) (by assumption) (by rfl); apply gd_d; exact w_eq2 rfl rfl rfl rfl; refine gd_nil ?_; refine gO ?_; refine gc_if_dec rfl (fun _ => ?_) (fun _ => ?_); refine gV ?_; refine gM ?_; refine gO ?_; refine gR ?_; refine gY ?_; (iterate 2 refine gT ?_); refine gY ?_; refine gT ?_; rotate_left; refine gK ?_; refine gH ?_; refine gX ?_; refine gG ?_; refine gM ?_; refine gA ?_; refine gM ?_; refine gw_nil ?_; rotate_left)
    ·refine gi1 (fun _ _ => ?_)
     have h1 : ¬ 40 < l.length := by omega
     have h2 : ¬ l.length < 2 := by omega
     simp only [plineE, h1, h2, if_false]
     rw [if_neg (by simpa using ‹l.any outP = false›), if_pos (still_yes (k := k) (by omega) (Eq.symm ‹_›))]
    ·exact gx_round (k + 1) ⟨by omega, still_snoc hI (fun h => absurd h.symm ‹_›)⟩ (by omega) kK ⟨rfl, trivial⟩ .nil
   ·(refine gI ?_; (iterate 2 refine gZ ?_); refine gJ ?_; refine gX ?_; refine gV ?_; refine gM ?_; refine gO ?_; refine gR ?_)
    refine gi1 (fun _ _ => ?_)
    have h1 : ¬ 40 < l.length := by omega
    have h2 : ¬ l.length < 2 := by omega
    obtain rfl : k = l.length - 1 := by omega
    simp only [plineE, h1, h2, if_false]
    rw [if_neg (by simpa using ‹l.any outP = false›), if_neg (by simpa using hI)]
 ·obtain ⟨A, c, rfl, hc, hm⟩ := len_small hl
  refine ok_enter Tryz.func126 rfl Tryz.ntmps126 rfl ?_
  (refine gV ?_; refine gM ?_; refine gO ?_; refine gQ ?_; refine gV ?_; refine gM ?_; refine gL ?_; refine gC ?_; refine gO ?_)
  refine gc_if_dec rfl (fun h => by omega) (fun h => ?_)
  (refine gK ?_; refine gX ?_; refine gQ ?_; refine gV ?_; refine gM ?_; refine gL ?_; refine gC ?_; refine gO ?_)
  refine gc_if_dec rfl (fun h => ?_) (fun h => by omega)
  (refine gV ?_; refine gM ?_; refine gO ?_; refine gR ?_; refine gT ?_)
  refine gi1 (fun _ _ => ?_)
  have h1 : ¬ 40 < l.length := by omega
  have h2 : l.length < 2 := by omega
  simp [plineE, h1, h2]

set_option maxHeartbeats 1000000 in
theorem r_cross_ok (w : World) (ax ay bx by_ cx cy : Int) (h1 : Bd ax) (h2 : Bd ay) (h3 : Bd bx) (h4 : Bd by_) (h5 : Bd cx) (h6 : Bd cy) :
  Ok Tryz.prog 202 [.agg #[.int .i64 ax, .int .i64 ay], .agg #[.int .i64 bx, .int .i64 by_], .agg #[.int .i64 cx, .int .i64 cy]].toArray w fun r _ => r = .int .i64 (crossI ax ay bx by_ cx cy) := by
 unfold Bd at *
 have m1 := mul_bd (x := bx - ax) (y := cy - ay) (B := 2097152) (C := 2097152) (by omega) (by omega) (by omega) (by omega)
 have m2 := mul_bd (x := by_ - ay) (y := cx - ax) (B := 2097152) (C := 2097152) (by omega) (by omega) (by omega) (by omega)
 refine ok_enter Tryz.func202 rfl Tryz.ntmps202 rfl ?_
 (refine gV ?_; refine gw_boxd (v := .agg _) rfl rfl (fun _ => ?_); refine gw_boxd (v := .agg _) rfl rfl (fun _ => ?_); refine gw_boxd (v := .agg _) rfl rfl (fun _ => ?_); refine gM ?_; refine gN ?_; refine gF ?_; refine gW (.there .here) ?_; refine gF ?_; refine gW (.there (.there .here)) ?_; refine gA ?_; refine gF ?_; refine gW .here ?_; refine gF ?_; refine gW (.there (.there .here)) ?_; refine gA ?_; refine gA ?_; refine gF ?_; refine gW (.there .here) ?_; refine gF ?_; refine gW (.there (.there .here)) ?_; refine gA ?_; refine gF ?_; refine gW .here ?_; refine gF ?_; refine gW (.there (.there .here)) ?_; refine gA ?_; refine gA ?_; refine gA ?_; refine gM ?_; refine gO ?_; refine gR ?_)
 refine gi1 (fun _ _ => ?_)
 simp only [crossI]

theorem r_sign_ok (w : World) (x : Int) : Ok Tryz.prog 203 [.int .i64 x].toArray w fun r _ => r = .int .i64 (signI x 0) := by
 refine ok_enter Tryz.func203 rfl Tryz.ntmps203 rfl ?_
 focus (refine gV ?_; refine gM ?_; refine gO ?_; refine gQ ?_; refine gB ?_; refine gV ?_; refine gM ?_; refine gC ?_; refine gM ?_; refine gO ?_; refine gc_if_dec rfl (fun _ => ?_) (fun _ => ?_); refine gV ?_; refine gM ?_; refine gO ?_; refine gR ?_; refine gY ?_; refine gT ?_; rotate_left; refine gV ?_; refine gM ?_; refine gC ?_; refine gM ?_; refine gO ?_; refine gc_if_dec rfl (fun _ => ?_) (fun _ => ?_); refine gV ?_; refine gM ?_; refine gO ?_; refine gR ?_; refine gY ?_; refine gT ?_; rotate_left; refine gK ?_; refine gH ?_; refine gX ?_; refine gV ?_; refine gM ?_; refine gO ?_; refine gR ?_; rotate_left)
 all_goals
  refine gi1 (fun _ _ => ?_)
  congr 1
  unfold signI
  repeat' split
  all_goals first | rfl | (exfalso; omega)

set_option maxHeartbeats 1000000 in
theorem r_on_ok (w : World) (ax ay bx by_ cx cy : Int) (h1 : Bd ax) (h2 : Bd ay) (h3 : Bd bx) (h4 : Bd by_) (h5 : Bd cx) (h6 : Bd cy) :
  Ok Tryz.prog 182 [.agg #[.int .i64 ax, .int .i64 ay], .agg #[.int .i64 bx, .int .i64 by_], .agg #[.int .i64 cx, .int .i64 cy]].toArray w fun r _ => r = .bool (onB ax ay bx by_ cx cy) := by
 refine ok_enter Tryz.func182 rfl Tryz.ntmps182 rfl ?_
 focus (refine gV ?_; refine gw_boxd (v := .agg _) rfl rfl (fun _ => ?_); refine gw_boxd (v := .agg _) rfl rfl (fun _ => ?_); refine gw_boxd (v := .agg _) rfl rfl (fun _ => ?_); refine gM ?_; refine gN ?_; apply gw_d; exact w_load_boxN rfl rfl rfl (.there (.there .here)) rfl; apply gw_d; exact w_load_boxN rfl rfl rfl (.there .here) rfl; apply gw_d; exact w_load_boxN rfl rfl rfl .here rfl; apply gw_d; exact w_call rfl rfl (fun w _ => r_cross_ok w _ _ _ _ _ _ h1 h2 h3 h4 h5 h6) rfl; refine gC ?_; refine gM ?_; refine gD (fun _ => ?_) (fun _ => ?_); refine gF ?_; refine gW (.there (.there .here)) ?_; refine gF ?_; refine gW (.there .here) ?_; apply gw_d; exact w_min rfl rfl rfl rfl; refine gF ?_; refine gW .here ?_; refine gC ?_; refine gPp ?_; refine gM ?_; refine gD (fun _ => ?_) (fun _ => ?_); refine gF ?_; refine gW .here ?_; refine gF ?_; refine gW (.there (.there .here)) ?_; refine gF ?_; refine gW (.there .here) ?_; apply gw_d; exact w_max rfl rfl rfl rfl; refine gC ?_; refine gPp ?_; refine gM ?_; refine gD (fun _ => ?_) (fun _ => ?_); refine gF ?_; refine gW (.there (.there .here)) ?_; refine gF ?_; refine gW (.there .here) ?_; apply gw_d; exact w_min rfl rfl rfl rfl; refine gF ?_; refine gW .here ?_; refine gC ?_; refine gPp ?_; refine gM ?_; refine gD (fun _ => ?_) (fun _ => ?_); refine gF ?_; refine gW .here ?_; refine gF ?_; refine gW (.there (.there .here)) ?_; refine gF ?_; refine gW (.there .here) ?_; apply gw_d; exact w_max rfl rfl rfl rfl; refine gC ?_; refine gPp ?_; refine gM ?_; refine gO ?_; refine gR ?_; rotate_left; (iterate 8 refine gU ?_); refine gPq ?_; refine gM ?_; refine gO ?_; refine gR ?_; rotate_left; (iterate 8 refine gU ?_); refine gPq ?_; refine gM ?_; (iterate 8 refine gU ?_); refine gPq ?_; refine gM ?_; refine gO ?_; refine gR ?_; rotate_left; (iterate 8 refine gU ?_); refine gPq ?_; refine gM ?_; (iterate 8 refine gU ?_); refine gPq ?_; refine gM ?_; (iterate 8 refine gU ?_); refine gPq ?_; refine gM ?_; refine gO ?_; refine gR ?_; rotate_left; (iterate 8 refine gU ?_); refine gPq ?_; refine gM ?_; (iterate 8 refine gU ?_); refine gPq ?_; refine gM ?_; (iterate 8 refine gU ?_); refine gPq ?_; refine gM ?_; (iterate 8 refine gU ?_); refine gPq ?_; refine gM ?_; refine gO ?_; refine gR ?_; rotate_left)
 all_goals (refine gb1 (fun _ _ => ?_); simp [onB, *])

set_option maxHeartbeats 1000000 in
theorem r_meet_ok (w : World) (ax ay bx by_ cx cy dx dy : Int) (h1 : Bd ax) (h2 : Bd ay) (h3 : Bd bx) (h4 : Bd by_) (h5 : Bd cx) (h6 : Bd cy) (h7 : Bd dx) (h8 : Bd dy) :
  Ok Tryz.prog 183 [.agg #[.int .i64 ax, .int .i64 ay], .agg #[.int .i64 bx, .int .i64 by_], .agg #[.int .i64 cx, .int .i64 cy], .agg #[.int .i64 dx, .int .i64 dy]].toArray w fun r _ => r = .bool (meetB ax ay bx by_ cx cy dx dy) := by
 have s1 := sign_bd (crossI ax ay bx by_ cx cy) 0
 have s2 := sign_bd (crossI ax ay bx by_ dx dy) 0
 have m := mul_bd (B := 1) (C := 1) s1.1 s1.2 s2.1 s2.2
 have s3 := sign_bd (crossI cx cy dx dy ax ay) 0
 have s4 := sign_bd (crossI cx cy dx dy bx by_) 0
 have m2 := mul_bd (B := 1) (C := 1) s3.1 s3.2 s4.1 s4.2
 refine ok_enter Tryz.func183 rfl Tryz.ntmps183 rfl ?_
 focus (refine gV ?_; refine gw_boxd (v := .agg _) rfl rfl (fun _ => ?_); refine gw_boxd (v := .agg _) rfl rfl (fun _ => ?_); refine gw_boxd (v := .agg _) rfl rfl (fun _ => ?_); refine gw_boxd (v := .agg _) rfl rfl (fun _ => ?_); refine gM ?_; refine gO ?_; refine gQ ?_; refine gV ?_; apply gw_d; exact w_load_boxN rfl rfl rfl (.there (.there (.there .here))) rfl; apply gw_d; exact w_load_boxN rfl rfl rfl (.there (.there .here)) rfl; apply gw_d; exact w_load_boxN rfl rfl rfl (.there .here) rfl; apply gw_d; exact w_call rfl rfl (fun w _ => r_on_ok w _ _ _ _ _ _ (by assumption) (by assumption) (by assumption) (by assumption) (by assumption) (by assumption)) rfl; refine gM ?_; refine gw_guard rfl rfl (fun _ => ?_) (fun _ => ?_); (iterate 4 refine gU ?_); refine gPp ?_; refine gM ?_; (iterate 4 refine gU ?_); refine gPp ?_; refine gM ?_; (iterate 4 refine gU ?_); refine gPp ?_; refine gO ?_; refine gc_if_true rfl ?_; refine gV ?_; refine gM ?_; refine gO ?_; refine gR ?_; refine gT ?_; rotate_left; apply gw_d; exact w_load_boxN rfl rfl rfl (.there (.there (.there .here))) rfl; apply gw_d; exact w_load_boxN rfl rfl rfl (.there (.there .here)) rfl; apply gw_d; exact w_load_boxN rfl rfl rfl .here rfl; apply gw_d; exact w_call rfl rfl (fun w _ => r_on_ok w _ _ _ _ _ _ (by assumption) (by assumption) (by assumption) (by assumption) (by assumption) (by assumption)) rfl; refine gPq ?_; refine gM ?_; refine gw_guard rfl rfl (fun _ => ?_) (fun _ => ?_); (iterate 4 refine gU ?_); refine gPp ?_; refine gM ?_; (iterate 4 refine gU ?_); refine gPp ?_; refine gO ?_; refine gc_if_true rfl ?_; refine gV ?_; refine gM ?_; refine gO ?_; refine gR ?_; refine gT ?_; rotate_left; apply gw_d; exact w_load_boxN rfl rfl rfl (.there .here) rfl; apply gw_d; exact w_load_boxN rfl rfl rfl .here rfl; apply gw_d; exact w_load_boxN rfl rfl rfl (.there (.there (.there .here))) rfl; apply gw_d; exact w_call rfl rfl (fun w _ => r_on_ok w _ _ _ _ _ _ (by assumption) (by assumption) (by assumption) (by assumption) (by assumption) (by assumption)) rfl; refine gPq ?_; refine gM ?_; refine gw_guard rfl rfl (fun _ => ?_) (fun _ => ?_); (iterate 4 refine gU ?_); refine gPp ?_; refine gO ?_; refine gc_if_true rfl ?_; refine gV ?_; refine gM ?_; refine gO ?_; refine gR ?_; refine gT ?_; rotate_left; apply gw_d; exact w_load_boxN rfl rfl rfl (.there .here) rfl; apply gw_d; exact w_load_boxN rfl rfl rfl .here rfl; apply gw_d; exact w_load_boxN rfl rfl rfl (.there (.there .here)) rfl; apply gw_d; exact w_call rfl rfl (fun w _ => r_on_ok w _ _ _ _ _ _ (by assumption) (by assumption) (by assumption) (by assumption) (by assumption) (by assumption)) rfl; refine gPq ?_; refine gO ?_; refine gc_if rfl (fun _ => ?_) (fun _ => ?_); refine gV ?_; refine gM ?_; refine gO ?_; refine gR ?_; refine gT ?_; rotate_left; refine gK ?_; refine gX ?_; refine gQ ?_; rotate_left)
 all_goals first
  | (refine gb1 (fun _ _ => ?_); simp [meetB, partB, *]; done)
  | skip
 refine gc_draw 26 (by kernel_rfl) (by kernel_rfl) ?_
 focus (apply gd_d; exact w_load_boxN rfl rfl rfl (.there (.there (.there .here))) rfl; apply gd_d; exact w_load_boxN rfl rfl rfl (.there (.there .here)) rfl; apply gd_d; exact w_load_boxN rfl rfl rfl (.there .here) rfl; apply gd_d; exact w_call rfl rfl (fun w _ => r_cross_ok w _ _ _ _ _ _ (by assumption) (by assumption) (by assumption) (by assumption) (by assumption) (by assumption)) rfl; apply gd_d; exact w_call rfl rfl (fun w _ => r_sign_ok w _) rfl; apply gd_d; exact w_load_boxN rfl rfl rfl (.there (.there (.there .here))) rfl; apply gd_d; exact w_load_boxN rfl rfl rfl (.there (.there .here)) rfl; apply gd_d; exact w_load_boxN rfl rfl rfl .here rfl; apply gd_d; exact w_call rfl rfl (fun w _ => r_cross_ok w _ _ _ _ _ _ (by assumption) (by assumption) (by assumption) (by assumption) (by assumption) (by assumption)) rfl; apply gd_d; exact w_call rfl rfl (fun w _ => r_sign_ok w _) rfl; apply gd_d; exact det_ar rfl rfl rfl rfl rfl (by omega); apply gd_d; exact det_cmp rfl rfl rfl rfl rfl; refine dM ?_; refine gd_guard_dec rfl rfl (fun _ => ?_) (fun _ => ?_); apply gd_d; exact w_load_boxN rfl rfl rfl (.there .here) rfl; apply gd_d; exact w_load_boxN rfl rfl rfl .here rfl; apply gd_d; exact w_load_boxN rfl rfl rfl (.there (.there (.there .here))) rfl; apply gd_d; exact w_call rfl rfl (fun w _ => r_cross_ok w _ _ _ _ _ _ (by assumption) (by assumption) (by assumption) (by assumption) (by assumption) (by assumption)) rfl; apply gd_d; exact w_call rfl rfl (fun w _ => r_sign_ok w _) rfl; apply gd_d; exact w_load_boxN rfl rfl rfl (.there .here) rfl; apply gd_d; exact w_load_boxN rfl rfl rfl .here rfl; apply gd_d; exact w_load_boxN rfl rfl rfl (.there (.there .here)) rfl; apply gd_d; exact w_call rfl rfl (fun w _ => r_cross_ok w _ _ _ _ _ _ (by assumption) (by assumption) (by assumption) (by assumption) (by assumption) (by assumption)) rfl; apply gd_d; exact w_call rfl rfl (fun w _ => r_sign_ok w _) rfl; apply gd_d; exact det_ar rfl rfl rfl rfl rfl (by omega); apply gd_d; exact det_cmp rfl rfl rfl rfl rfl; apply gd_d; exact det_pick_t (v := .bool _) rfl rfl rfl rfl; refine gd_nil ?_; refine gM ?_; refine gO ?_; refine gR ?_; rotate_left; (iterate 12 refine dU ?_); apply gd_d; exact det_pick_f (v := .bool _) rfl rfl rfl rfl; refine gd_nil ?_; refine gM ?_; refine gO ?_; refine gR ?_; rotate_left)
 all_goals (refine gb1 (fun _ _ => ?_); simp [meetB, partB, *])

theorem r_within_ok (w : World) (x y : Int) : Ok Tryz.prog 156 [.agg #[.int .i64 x, .int .i64 y], .int .i64 1048576].toArray w fun r _ => r = .bool (!outB x y) := by
 refine ok_enter Tryz.func156 rfl Tryz.ntmps156 rfl ?_
 focus (refine gV ?_; refine gw_boxd (v := .agg _) rfl rfl (fun _ => ?_); refine gM ?_; refine gN ?_; refine gF ?_; refine gW .here ?_; refine gM ?_; apply gw_d; exact det_neg (j := -1048576) rfl rfl rfl rfl; refine gC ?_; refine gM ?_; refine gD (fun _ => ?_) (fun _ => ?_); refine gF ?_; refine gW .here ?_; refine gM ?_; refine gC ?_; refine gPp ?_; refine gM ?_; refine gD (fun _ => ?_) (fun _ => ?_); refine gF ?_; refine gW .here ?_; refine gM ?_; apply gw_d; exact det_neg (j := -1048576) rfl rfl rfl rfl; refine gC ?_; refine gPp ?_; refine gM ?_; refine gD (fun _ => ?_) (fun _ => ?_); refine gF ?_; refine gW .here ?_; refine gM ?_; refine gC ?_; refine gPp ?_; refine gM ?_; refine gO ?_; refine gR ?_; rotate_left; (iterate 4 refine gU ?_); refine gPq ?_; refine gM ?_; refine gO ?_; refine gR ?_; rotate_left; (iterate 5 refine gU ?_); refine gPq ?_; refine gM ?_; (iterate 4 refine gU ?_); refine gPq ?_; refine gM ?_; refine gO ?_; refine gR ?_; rotate_left; (iterate 4 refine gU ?_); refine gPq ?_; refine gM ?_; (iterate 5 refine gU ?_); refine gPq ?_; refine gM ?_; (iterate 4 refine gU ?_); refine gPq ?_; refine gM ?_; refine gO ?_; refine gR ?_; rotate_left)
 all_goals
  refine gb1 (fun _ _ => ?_)
  congr 1
  unfold outB
  rw [Bool.eq_iff_iff]
  simp [*]
  try omega
end Go.Proofs.YtckhibfbdnoigaaGreatDoor
