/- Texts in one file: WR RV RY RX RZ RZ2 M22 Open57 Open Open2 Open3 Open4. -/
import Derived.Test.YtckhibfbdnoigaaGreatDoorTC6
import Derived.Test.YtckhibfbdnoigaaGreatDoorTC4
import Derived.Test.YtckhibfbdnoigaaGreatDoorTC5
import Derived.Test.YtckhibfbdnoigaaGreatDoorTC2
import Derived.Lib.LaidTab
import Derived.LaidByTextLater
import Derived.Test.YtckhibfbdnoigaaGreatDoorTC3
set_option maxRecDepth 100000
set_option maxHeartbeats 8000000
namespace Go.Proofs.YtckhibfbdnoigaaGreatDoor
open Go.RowKit
theorem rCheck57_ok (w : World) (r l : Int) : Ok Tryz.prog 34 [tarV r l].toArray w fun x _ => x = .int .i64 (tarE r l) := by
 unfold tarV
 refine ok_enter Tryz.func34 rfl Tryz.ntmps34 rfl ?_
 focus (refine gV ?_; refine gw_boxd (v := .agg _) rfl rfl (fun _ => ?_); refine gM ?_; refine gO ?_; refine gQ ?_; refine gV ?_; refine gF ?_; refine gW .here ?_; refine gC ?_; refine gM ?_; refine gD (fun _ => ?_) (fun _ => ?_); (iterate 3 refine gU ?_); refine gPp ?_; refine gM ?_; (iterate 3 refine gU ?_); refine gPp ?_; refine gM ?_; (iterate 3 refine gU ?_); refine gPp ?_; refine gO ?_; refine gc_if_true rfl ?_; refine gV ?_; refine gM ?_; refine gO ?_; refine gR ?_; refine gT ?_; rotate_left; refine gF ?_; refine gW .here ?_; refine gC ?_; refine gPq ?_; refine gM ?_; refine gD (fun _ => ?_) (fun _ => ?_); (iterate 3 refine gU ?_); refine gPp ?_; refine gM ?_; (iterate 3 refine gU ?_); refine gPp ?_; refine gO ?_; refine gc_if_true rfl ?_; refine gV ?_; refine gM ?_; refine gO ?_; refine gR ?_; refine gT ?_; rotate_left; refine gF ?_; refine gW .here ?_; refine gC ?_; refine gPq ?_; refine gM ?_; refine gD (fun _ => ?_) (fun _ => ?_); (iterate 3 refine gU ?_); refine gPp ?_; refine gO ?_; refine gc_if_true rfl ?_; refine gV ?_; refine gM ?_; refine gO ?_; refine gR ?_; refine gT ?_; rotate_left; refine gF ?_; refine gW .here ?_; refine gC ?_; refine gPq ?_; refine gO ?_; refine gc_if_dec rfl (fun _ => ?_) (fun _ => ?_); refine gV ?_; refine gM ?_; refine gO ?_; refine gR ?_; refine gT ?_; rotate_left; refine gK ?_; refine gX ?_; refine gV ?_; refine gM ?_; refine gO ?_; refine gR ?_; rotate_left)
 all_goals (refine gi1 (fun _ _ => ?_); unfold tarE; first | rw [if_pos (by omega)] | rw [if_neg (by omega)])

theorem rAmount_ok (w : World) (r l m c : Int) : Ok Tryz.prog 48 [tarV r l, .int .i64 m, .int .i64 c].toArray w fun x _ => x = .tuple #[.int .i64 (amtV r l m c), .int .i64 (amtE r l m c)] := by
 have hC : ∀ (L : List Res) (w' : World), St w L w' → Ok Tryz.prog 34 [tarV r l].toArray w' fun x _ => x = .int .i64 (tarE r l) := fun L w' _ => rCheck57_ok w' r l
 by_cases he : amtE r l m c = 0
 ·obtain ⟨h1, h2, h3⟩ := amt_zero he
  obtain ⟨r1, r2⟩ := amt_range he
  rw [h1] at hC
  unfold amtV
  rw [if_pos he, he]
  unfold tarV at hC ⊢
  refine ok_enter Tryz.func48 rfl Tryz.ntmps48 rfl ?_
  focus (refine gV ?_; refine gw_boxd (v := .agg _) rfl rfl (fun _ => ?_); (iterate 2 refine gM ?_); refine gO ?_; refine gQ ?_; refine gV ?_; apply gw_d; exact w_load_boxN rfl rfl rfl .here rfl; apply gw_d; exact w_call rfl rfl (hC _) rfl; refine gM ?_; refine gN ?_; refine gM ?_; refine gC ?_; refine gO ?_; refine gc_if_dec rfl (fun _ => ?_) (fun _ => ?_); refine gV ?_; (iterate 3 refine gM ?_); refine gO ?_; refine gR ?_; refine gT ?_; rotate_left; refine gK ?_; refine gX ?_; refine gQ ?_; refine gV ?_; refine gM ?_; refine gC ?_; refine gM ?_; refine gD (fun _ => ?_) (fun _ => ?_); (iterate 2 refine gU ?_); refine gPp ?_; refine gM ?_; (iterate 2 refine gU ?_); refine gPp ?_; refine gM ?_; (iterate 2 refine gU ?_); refine gPp ?_; refine gO ?_; refine gc_if_true rfl ?_; refine gV ?_; (iterate 2 refine gM ?_); refine gO ?_; refine gR ?_; refine gT ?_; rotate_left; refine gM ?_; refine gC ?_; refine gPq ?_; refine gM ?_; refine gD (fun _ => ?_) (fun _ => ?_); (iterate 2 refine gU ?_); refine gPp ?_; refine gM ?_; (iterate 2 refine gU ?_); refine gPp ?_; refine gO ?_; refine gc_if_true rfl ?_; refine gV ?_; (iterate 2 refine gM ?_); refine gO ?_; refine gR ?_; refine gT ?_; rotate_left; refine gM ?_; refine gC ?_; refine gPq ?_; refine gM ?_; refine gD (fun _ => ?_) (fun _ => ?_); (iterate 2 refine gU ?_); refine gPp ?_; refine gO ?_; refine gc_if_true rfl ?_; refine gV ?_; (iterate 2 refine gM ?_); refine gO ?_; refine gR ?_; refine gT ?_; rotate_left; refine gM ?_; refine gC ?_; refine gPq ?_; refine gO ?_; refine gc_if_dec rfl (fun _ => ?_) (fun _ => ?_); refine gV ?_; (iterate 2 refine gM ?_); refine gO ?_; refine gR ?_; refine gT ?_; rotate_left; refine gK ?_; refine gX ?_; refine gV ?_; (iterate 2 refine gM ?_); refine gA ?_; refine gF ?_; refine gW .here ?_; refine gA ?_; refine gA ?_; apply gw_d; exact det_quo rfl rfl rfl rfl (by omega) (by omega) (by omega); (iterate 2 refine gM ?_); refine gO ?_; refine gR ?_; rotate_left)
  all_goals first | (exfalso; omega) | skip
  refine gx_ret2 (u := .int _ _) (v := .int _ _) rfl rfl rfl (fun _ _ => ?_)
  rfl
 ·unfold amtV
  rw [if_neg he]
  by_cases h1 : tarE r l = 0
  ·have hE : amtE r l m c = 3 ∧ ((m < 0 ∨ m > 10000) ∨ (c < 0 ∨ c > 1000)) := by
    unfold amtE at he ⊢
    rw [if_neg (by rw [h1]; decide)] at he ⊢
    split
    ·rename_i h2; exact ⟨rfl, h2⟩
    ·rename_i h2; rw [if_neg h2] at he; exact absurd rfl he
   rw [hE.1]
   have h2 := hE.2
   rw [h1] at hC
   unfold tarV at hC ⊢
   refine ok_enter Tryz.func48 rfl Tryz.ntmps48 rfl ?_
   focus (refine gV ?_; refine gw_boxd (v := .agg _) rfl rfl (fun _ => ?_); (iterate 2 refine gM ?_); refine gO ?_; refine gQ ?_; refine gV ?_; apply gw_d; exact w_load_boxN rfl rfl rfl .here rfl; apply gw_d; exact w_call rfl rfl (hC _) rfl; refine gM ?_; refine gN ?_; refine gM ?_; refine gC ?_; refine gO ?_; refine gc_if_dec rfl (fun _ => ?_) (fun _ => ?_); refine gV ?_; (iterate 3 refine gM ?_); refine gO ?_; refine gR ?_; refine gT ?_; rotate_left; refine gK ?_; refine gX ?_; refine gQ ?_; refine gV ?_; refine gM ?_; refine gC ?_; refine gM ?_; refine gD (fun _ => ?_) (fun _ => ?_); (iterate 2 refine gU ?_); refine gPp ?_; refine gM ?_; (iterate 2 refine gU ?_); refine gPp ?_; refine gM ?_; (iterate 2 refine gU ?_); refine gPp ?_; refine gO ?_; refine gc_if_true rfl ?_; refine gV ?_; (iterate 2 refine gM ?_); refine gO ?_; refine gR ?_; refine gT ?_; rotate_left; refine gM ?_; refine gC ?_; refine gPq ?_; refine gM ?_; refine gD (fun _ => ?_) (fun _ => ?_); (iterate 2 refine gU ?_); refine gPp ?_; refine gM ?_; (iterate 2 refine gU ?_); refine gPp ?_; refine gO ?_; refine gc_if_true rfl ?_; refine gV ?_; (iterate 2 refine gM ?_); refine gO ?_; refine gR ?_; refine gT ?_; rotate_left; refine gM ?_; refine gC ?_; refine gPq ?_; refine gM ?_; refine gD (fun _ => ?_) (fun _ => ?_); (iterate 2 refine gU ?_); refine gPp ?_; refine gO ?_; refine gc_if_true rfl ?_; refine gV ?_; (iterate 2 refine gM ?_); refine gO ?_; refine gR ?_; refine gT ?_; rotate_left; refine gM ?_; refine gC ?_; refine gPq ?_; refine gO ?_; refine gc_if_dec rfl (fun _ => ?_) (fun _ => ?_); refine gV ?_; (iterate 2 refine gM ?_); refine gO ?_; refine gR ?_; refine gT ?_; rotate_left; refine gK ?_; refine gX ?_; refine gV ?_; (iterate 2 refine gM ?_); refine gA ?_; refine gF ?_; refine gW .here ?_; refine gA ?_; refine gA ?_; apply gw_d; exact det_quo rfl rfl rfl rfl (by omega) (by omega) (by omega); (iterate 2 refine gM ?_); refine gO ?_; refine gR ?_; rotate_left)
   all_goals first | (exfalso; omega) | skip
   all_goals (refine gx_ret2 (u := .int _ _) (v := .int _ _) rfl rfl rfl (fun _ _ => ?_); rfl)
  ·have hE : amtE r l m c = tarE r l := by
    unfold amtE
    rw [if_pos h1]
   rw [hE]
   unfold tarV at hC ⊢
   refine ok_enter Tryz.func48 rfl Tryz.ntmps48 rfl ?_
   (refine gV ?_; refine gw_boxd (v := .agg _) rfl rfl (fun _ => ?_); (iterate 2 refine gM ?_); refine gO ?_; refine gQ ?_; refine gV ?_; apply gw_d; exact w_load_boxN rfl rfl rfl .here rfl; apply gw_d; exact w_call rfl rfl (hC _) rfl; refine gM ?_; refine gN ?_; refine gM ?_; refine gC ?_; refine gO ?_)
   refine gc_if_dec rfl (fun _ => ?_) (fun h => absurd h1 h)
   (refine gV ?_; (iterate 3 refine gM ?_); refine gO ?_; refine gR ?_; refine gT ?_)
   refine gx_ret2 (u := .int _ _) (v := .int _ _) rfl rfl rfl (fun _ _ => ?_)
   rfl

theorem money_ok (w : World) (n : Int) : Ok Tryz.prog 62 [.int .i64 n].toArray w fun x _ => x = .bool (moneyB n) := by
 refine ok_enter Tryz.func62 rfl Tryz.ntmps62 rfl ?_
 focus (refine gV ?_; refine gM ?_; refine gN ?_; refine gM ?_; refine gC ?_; refine gM ?_; refine gD (fun _ => ?_) (fun _ => ?_); refine gM ?_; refine gC ?_; refine gPp ?_; refine gM ?_; refine gO ?_; refine gR ?_; rotate_left; (iterate 2 refine gU ?_); refine gPq ?_; refine gM ?_; refine gO ?_; refine gR ?_; rotate_left)
 ·refine gb1 (fun _ _ => ?_)
  unfold moneyB
  rename_i h
  rw [decide_eq_true (show 0 ≤ n by omega)]
  rfl
 ·refine gb1 (fun _ _ => ?_)
  unfold moneyB
  rename_i h
  rw [decide_eq_false (show ¬ 0 ≤ n by omega)]
  rfl
theorem rShare_good (w : World) (a : Int) (n : Nat) (he : shE a n = 0) : OkM Tryz.prog 52 [.int .i64 a, .int .i64 (n : Int)].toArray w (fun x : Option Addr × Nat => .tuple #[.slice x.1 n x.2, .int .i64 0]) (fun x => [Own x.1 n x.2 3 1 ((shL a n).map (Value.int .i64))]) := by
 obtain ⟨ha, hn1, hn2⟩ := sh_zero he
 have hmb : moneyB a = true := money_iff.2 ha
 have c1 : ∀ (L : List Res) (w' : World), St w L w' → Ok Tryz.prog 62 [.int .i64 a].toArray w' fun x _ => x = .bool true := fun _ w' _ => by have := money_ok w' a; rw [hmb] at this; exact this
 have hll := shL_len a n
 unfold OkM
 refine ok_enter Tryz.func52 rfl Tryz.ntmps52 rfl ?_
 focus (refine gV ?_; (iterate 2 refine gM ?_); refine gO ?_; refine gQ ?_; refine gV ?_; refine gM ?_; apply gw_d; exact w_call rfl rfl (c1 _) rfl; apply gw_d; exact det_not_ rfl rfl rfl; (iterate 2 refine gM ?_); refine gC ?_; refine gPq ?_; refine gM ?_; refine gD (fun _ => ?_) (fun _ => ?_); (iterate 2 refine gU ?_); refine gPp ?_; refine gO ?_; refine gc_if_true rfl ?_; refine gV ?_; (iterate 2 refine gM ?_); refine gO ?_; refine gR ?_; refine gT ?_; rotate_left; refine gM ?_; refine gC ?_; refine gPq ?_; refine gO ?_; refine gc_if_dec rfl (fun _ => ?_) (fun _ => ?_); refine gV ?_; (iterate 2 refine gM ?_); refine gO ?_; refine gR ?_; refine gT ?_; rotate_left; refine gK ?_; refine gX ?_; refine gV ?_; refine gM ?_; refine gO ?_; refine gQ ?_; refine gV ?_; refine gM ?_; refine gO ?_; refine gB ?_; rotate_left)
 all_goals first | (exfalso; omega) | skip
 refine gc_own0 3 1 ?_
 refine gc_loop (σ := Nat × Option Addr × Nat) [20, 21, 22, 25, 26, 27, 8, 28, 29, 30, 31, 32, 33, 34, 35, 36, 37, 38, 6, 23, 24, 7] (fun s => [(6, .slice s.2.1 s.1 s.2.2), (7, .int .i64 s.1)]) (fun s => [Own s.2.1 s.1 s.2.2 3 1 (((shL a n).take s.1).map (Value.int .i64))]) (fun s => s.1 ≤ n) (fun s => n - s.1) (0, none, 0) (Nat.zero_le _) ⟨rfl, rfl, trivial⟩ (.cons .here .nil) ?_
 rintro ⟨k, A, c⟩ base hk
 dsimp only at hk ⊢
 (refine gQ ?_; refine gV ?_; (iterate 2 refine gM ?_); refine gC ?_; refine gO ?_)
 refine gc_if_dec rfl (fun h => ?_) (fun h => ?_)
 ·have hlt : k < n := by omega
  have hq : a / (n : Int) ≤ a := Int.ediv_le_self _ ha.1
  have hq0 : 0 ≤ a / (n : Int) := Int.ediv_nonneg ha.1 (by omega)
  have hsn := shL_take_snoc a hlt
  have hF : ∀ x : Int, shF a n k = x → (shL a n).take (k + 1) = (shL a n).take k ++ [x] := fun x hx => by rw [hsn, hx]
  (refine gK ?_; refine gX ?_; refine gQ ?_; refine gB ?_; refine gV ?_; (iterate 2 refine gM ?_); apply gw_d; exact det_quo rfl rfl rfl rfl (by omega) (by omega) (by omega); refine gM ?_; refine gO ?_; refine gQ ?_; refine gV ?_; (iterate 3 refine gM ?_); apply gw_d; exact det_rem rfl rfl rfl rfl (by omega) (by omega); refine gC ?_; refine gO ?_)
  refine gc_if_dec rfl (fun h2 => ?_) (fun h2 => ?_)
  ·(refine gG ?_; refine gM ?_; refine gA ?_; refine gM ?_; refine gO ?_; refine gG ?_; (iterate 2 refine gM ?_))
   refine gw_bslice1 (v := .int .i64 (a / (n : Int) + 1)) rfl rfl rfl rfl rfl (fun bb => ?_)
   refine gw_append (news := [.int .i64 (a / (n : Int) + 1)]) rfl rfl rfl (.there .here) rfl (fun w' s _ => ?_) (fun u hu => ?_) (by unfold maxLen; omega) (by omega) (by decide) rfl (fun A3 c3 => ?_)
   ·refine ⟨⟨bb, 0, none⟩, rfl, fun i u hu => ?_⟩
    rw [add_zero]
    refine (Box.cell s.head i).trans ?_
    change (#[Value.int .i64 (a / (n : Int) + 1)] : Array Value)[i]? = some u
    rw [List.getElem?_toArray]
    exact hu
   ·rw [List.mem_singleton] at hu
    subst hu
    rfl
   ·(refine gM ?_; refine gw_nil ?_; refine gH ?_; refine gX ?_; refine gG ?_; refine gM ?_; refine gA ?_; refine gM ?_; refine gw_nil ?_)
    refine gx_round (k + 1, A3, c3) hlt (by dsimp only; omega) kK ⟨rfl, rfl, trivial⟩ ?_
    dsimp only
    rw [hF (a / (n : Int) + 1) (by unfold shF; rw [if_pos h2]), List.map_append]
    exact .cons .here .nil
  ·(refine gK ?_; refine gX ?_; refine gG ?_; (iterate 2 refine gM ?_))
   refine gw_bslice1 (v := .int .i64 (a / (n : Int))) rfl rfl rfl rfl rfl (fun bb => ?_)
   refine gw_append (news := [.int .i64 (a / (n : Int))]) rfl rfl rfl (.there .here) rfl (fun w' s _ => ?_) (fun u hu => ?_) (by unfold maxLen; omega) (by omega) (by decide) rfl (fun A3 c3 => ?_)
   ·refine ⟨⟨bb, 0, none⟩, rfl, fun i u hu => ?_⟩
    rw [add_zero]
    refine (Box.cell s.head i).trans ?_
    change (#[Value.int .i64 (a / (n : Int))] : Array Value)[i]? = some u
    rw [List.getElem?_toArray]
    exact hu
   ·rw [List.mem_singleton] at hu
    subst hu
    rfl
   ·(refine gM ?_; refine gw_nil ?_; refine gH ?_; refine gX ?_; refine gG ?_; refine gM ?_; refine gA ?_; refine gM ?_; refine gw_nil ?_)
    refine gx_round (k + 1, A3, c3) hlt (by dsimp only; omega) kK ⟨rfl, rfl, trivial⟩ ?_
    dsimp only
    rw [hF (a / (n : Int)) (by unfold shF; rw [if_neg h2]), List.map_append]
    exact .cons .here .nil
 ·obtain rfl : k = n := by omega
  rw [List.take_of_length_le (by omega)]
  (refine gI ?_; (iterate 2 refine gZ ?_); refine gJ ?_; refine gX ?_; refine gV ?_; (iterate 3 refine gM ?_); refine gO ?_; refine gR ?_)
  exact gx_ret2 (u := .slice _ _ _) (v := .int _ _) rfl rfl rfl (fun w' s => ⟨(A, c), rfl, s.sep⟩)
section
variable {w : World} {v0 v1 v2 v3 v4 v5 v6 vb vw vx : Value} {r le : Int} {s : Sty} {bs : List Bun} {ws : List Wrk} {xs : List Scn}
theorem rJudge_bad (hs : StyV w w.heap.size (.agg #[v0, v1, v2, v3, v4, v5, v6]) s) (hb : Sl rBun w w.heap.size vb bs) (hw : Sl rWrk w w.heap.size vw ws) (hx : Sl rScn w w.heap.size vx xs) (he : ¬ judgeAllE (opCheckE s plE) bs ws xs.length = 0) :
  Ok Tryz.prog 35 [.agg #[v0, v1, v2, v3, v4, v5, v6], vb, vw, vx].toArray w fun x _ => x = .tuple #[.slice none 0 0, .int .i64 (judgeAllE (opCheckE s plE) bs ws xs.length)] := by
 have hC := fun (L : List Res) (w' : World) (s' : St w L w') => rs_check w' _ _ _ s bs ws (StyV.later s' hs) (hb.later s') (hw.later s')
 obtain ⟨A, c, rfl, hxc, hxm, _⟩ := hx.scn
 refine ok_enter Tryz.func35 rfl Tryz.ntmps35 rfl ?_
 (refine gV ?_; refine gw_boxd (v := .agg _) rfl rfl (fun _ => ?_); (iterate 2 refine gM ?_); refine gO ?_; refine gQ ?_; refine gV ?_; apply gw_d; exact w_load_boxN rfl rfl rfl .here rfl; (iterate 2 refine gM ?_))
 (apply gw_d; exact w_call rfl rfl (hC _) rfl; refine gM ?_; refine gN ?_; refine gM ?_; refine gC ?_; refine gO ?_)
 refine gc_if_dec rfl (fun h => ?_) (fun h => ?_)
 ·(refine gV ?_; (iterate 3 refine gM ?_); refine gO ?_; refine gR ?_; refine gT ?_)
  refine gx_ret2 (u := .slice _ _ _) (v := .int _ _) rfl rfl rfl (fun _ _ => ?_)
  unfold judgeAllE
  rw [if_pos h]
 ·(refine gK ?_; refine gX ?_; refine gQ ?_; refine gV ?_; refine gM ?_; refine gL ?_; refine gC ?_; refine gO ?_)
  refine gc_if_dec rfl (fun h3 => ?_) (fun h3 => ?_)
  ·(refine gV ?_; (iterate 2 refine gM ?_); refine gO ?_; refine gR ?_; refine gT ?_)
   refine gx_ret2 (u := .slice _ _ _) (v := .int _ _) rfl rfl rfl (fun _ _ => ?_)
   unfold judgeAllE
   rw [if_neg h, if_pos (by omega)]
  ·exfalso
   apply he
   unfold judgeAllE
   rw [if_neg h, if_neg (by omega)]
theorem rJudge_ok (hs : StyV w w.heap.size (.agg #[v0, v1, v2, v3, v4, v5, v6]) s) (hb : Sl rBun w w.heap.size vb bs) (hw : Sl rWrk w w.heap.size vw ws) (hx : Sl rScn w w.heap.size vx xs) (he : judgeAllE (opCheckE s plE) bs ws xs.length = 0) :
  OkM Tryz.prog 35 [.agg #[v0, v1, v2, v3, v4, v5, v6], vb, vw, vx].toArray w (fun x : Option Addr × Nat => .tuple #[.slice x.1 xs.length x.2, .int .i64 0]) (fun x => [Own x.1 xs.length x.2 3 1 ((outs s.ops ws (ticks bs) [] xs).map (Value.int .i64))]) := by
 obtain ⟨hOk, hx300⟩ := judge_zero he
 have hsc : scanE (opCheckE s plE) bs ws = 0 := by
  unfold judgeAllE at he
  split at he
  ·rename_i h; exact absurd he h
  ·rename_i h; simpa using h
 have hC : ∀ (L : List Res) (w' : World), St w L w' → Ok Tryz.prog 45 [.agg #[v0, v1, v2, v3, v4, v5, v6], vb, vw].toArray w' fun x _ => x = .int .i64 0 := fun L w' s' => by
  have := rs_check w' _ _ _ s bs ws (StyV.later s' hs) (hb.later s') (hw.later s')
  rw [hsc] at this
  exact this
 have h6 := sty_ops hs
 have hO : ∀ (L L' : List Res) (w' : World) (B : Option Addr) (cb : Nat) (ps : List Scn) (x : Scn), (∀ q ∈ ps, q ∈ xs) → Pick L (Own B ps.length cb 51 4 (ps.flatMap encX)) L' → St w L w' → Ok Tryz.prog 46 [.agg #[v0, v1, v2, v3, v4, v5, v6], vb, vw, .slice B ps.length cb, .agg #[.int .i64 x.tick, .int .i64 x.op, .int .i64 x.who, .int .i64 x.time]].toArray w' fun r _ => r = .int .i64 (outE s.ops ws (ticks bs) ps x) := fun L L' w' B cb ps x hin hp s' =>
  rs_outcome w' v0 v1 v2 v3 v4 v5 v6 vb vw _ s.ops bs ws ps x (h6.later s') (hb.later s') (hw.later s') (Sl.own (R := rScn) (enc := encX) s' hp rfl (fun q hq => paid_rep hx (hin q hq)))
 obtain ⟨Ax, cx, rfl, hxc, hxm, hxcell⟩ := hx.scn
 unfold OkM
 refine ok_enter Tryz.func35 rfl Tryz.ntmps35 rfl ?_
 (refine gV ?_; refine gw_boxd (v := .agg _) rfl rfl (fun _ => ?_); (iterate 2 refine gM ?_); refine gO ?_; refine gQ ?_; refine gV ?_; apply gw_d; exact w_load_boxN rfl rfl rfl .here rfl; (iterate 2 refine gM ?_))
 rename_i bS
 (apply gw_d; exact w_call rfl rfl (hC _) rfl; refine gM ?_; refine gN ?_; refine gM ?_; refine gC ?_; refine gO ?_)
 refine gc_if_dec rfl (fun h => absurd rfl h) (fun _ => ?_)
 (refine gK ?_; refine gX ?_; refine gQ ?_; refine gV ?_; refine gM ?_; refine gL ?_; refine gC ?_; refine gO ?_)
 refine gc_if_dec rfl (fun h => by omega) (fun _ => ?_)
 (refine gK ?_; refine gX ?_; refine gV ?_; refine gM ?_; refine gN ?_; refine gM ?_; refine gO ?_; refine gQ ?_; refine gV ?_; refine gM ?_; refine gO ?_; refine gB ?_)
 refine gc_own0 51 4 ?_
 refine gc_own0 3 1 ?_
 refine gc_loop (σ := Nat × (Option Addr × Nat) × Option Addr × Nat) [25, 26, 27, 28, 31, 32, 33, 34, 35, 36, 37, 38, 39, 14, 40, 41, 42, 43, 11, 44, 45, 46, 47, 48, 49, 50, 51, 52, 12, 29, 30, 13] (fun q => [(13, .int .i64 q.1), (11, .slice q.2.1.1 q.1 q.2.1.2), (12, .slice q.2.2.1 (paidL s.ops ws (ticks bs) (xs.take q.1)).length q.2.2.2)]) (fun q => [Own q.2.1.1 q.1 q.2.1.2 3 1 ((outs s.ops ws (ticks bs) [] (xs.take q.1)).map (Value.int .i64)), Own q.2.2.1 (paidL s.ops ws (ticks bs) (xs.take q.1)).length q.2.2.2 51 4 ((paidL s.ops ws (ticks bs) (xs.take q.1)).flatMap encX), Box bS 29 #[v0, v1, v2, v3, v4, v5, v6]]) (fun q => q.1 ≤ xs.length) (fun q => xs.length - q.1) (0, (none, 0), none, 0) (Nat.zero_le _) ⟨rfl, rfl, rfl, trivial⟩ (.cons .here (.cons .here (.cons .here .nil))) ?_
 rintro ⟨k, ⟨A, c⟩, B, cb⟩ base hk
 dsimp only at hk ⊢
 (refine gQ ?_; refine gV ?_; (iterate 2 refine gM ?_); refine gL ?_; refine gC ?_; refine gO ?_)
 refine gc_if_dec rfl (fun h => ?_) (fun h => ?_)
 ·have hlt : k < xs.length := by omega
  obtain ⟨ad, rfl, hbk, hce, _⟩ := hxcell k hlt
  have hin : ∀ q ∈ paidL s.ops ws (ticks bs) (xs.take k), q ∈ xs := fun q hq => List.mem_of_mem_take (paid_mem hq)
  have hpl := paidL_len s.ops ws (ticks bs) (xs.take k)
  have hos : outs s.ops ws (ticks bs) [] (xs.take (k + 1)) = outs s.ops ws (ticks bs) [] (xs.take k) ++ [outE s.ops ws (ticks bs) (paidL s.ops ws (ticks bs) (xs.take k)) xs[k]] := by
   rw [List.take_succ_eq_append_getElem hlt, outs_snoc]
   rfl
  have hps : paidL s.ops ws (ticks bs) (xs.take (k + 1)) = nextP s.ops ws (ticks bs) (paidL s.ops ws (ticks bs) (xs.take k)) xs[k] := by rw [List.take_succ_eq_append_getElem hlt, paidL_snoc]
  unfold nextP at hps
  rw [List.length_take] at hpl
  generalize paidL s.ops ws (ticks bs) (xs.take k) = ps at hin hpl hos hps
  generalize xs[k] = x at hce hos hps
  have hO1 := fun (L L' : List Res) (w' : World) hp (s' : St w L w') => hO L L' w' B cb ps x hin hp s'
  generalize outE s.ops ws (ticks bs) ps x = o at hos hps hO1
  (refine gK ?_; refine gX ?_; refine gQ ?_; refine gB ?_; refine gQ ?_)
  refine gc_draw 9 (by kernel_rfl) (by kernel_rfl) ?_
  (apply gd_d; exact w_load_boxN rfl rfl rfl (.there (.there .here)) rfl; (iterate 5 refine dM ?_); apply gd_d; exact w_index (m := k) rfl rfl rfl rfl rfl hlt; apply gd_d; exact w_load_elem rfl rfl rfl (by assumption) (by assumption) (by rfl); apply gd_d; exact w_call rfl rfl (fun w s' => hO1 _ _ w (.there .here) s') rfl; refine gd_nil ?_; refine gM ?_; refine gN ?_; (iterate 2 refine gM ?_))
  refine gw_bslice1 (v := .int .i64 o) rfl rfl rfl rfl rfl (fun b1 => ?_)
  refine gw_append (news := [.int .i64 o]) rfl rfl rfl (.there .here) rfl (fun w' s' _ => ⟨⟨b1, 0, none⟩, rfl, fun j u hu => by rw [add_zero]; refine (Box.cell s'.head j).trans ?_; change (#[Value.int .i64 o] : Array Value)[j]? = some u; rw [List.getElem?_toArray]; exact hu⟩) (fun u hu => by rw [List.mem_singleton] at hu; subst hu; rfl) (by unfold maxLen; omega) (by omega) (by decide) rfl (fun A2 c2 => ?_)
  (refine gM ?_; refine gN ?_; refine gM ?_; refine gC ?_; refine gO ?_)
  refine gc_if_dec rfl (fun h1 => ?_) (fun h1 => ?_)
  ·rw [if_pos h1] at hps
   (refine gG ?_; (iterate 3 refine gM ?_); apply gw_d; exact w_index (m := k) rfl rfl rfl rfl rfl hlt; apply gw_d; exact w_load_elem rfl rfl rfl (by assumption) (by assumption) (by rfl))
   refine gw_bslice1 (v := .agg #[.int .i64 x.tick, .int .i64 x.op, .int .i64 x.who, .int .i64 x.time]) rfl rfl rfl rfl rfl (fun b2 => ?_)
   refine gw_append (news := encX x) rfl rfl rfl (.there (.there (.there .here))) rfl (fun w' s' _ => ⟨⟨b2, 0, none⟩, rfl, fun j u hu => by rw [add_zero]; refine (Box.cell s'.head j).trans ?_; change (#[Value.int .i64 x.tick, .int .i64 x.op, .int .i64 x.who, .int .i64 x.time] : Array Value)[j]? = some u; rw [List.getElem?_toArray]; exact hu⟩) (fun u hu => by simp only [encX, List.mem_cons, List.not_mem_nil, or_false] at hu; rcases hu with rfl | rfl | rfl | rfl <;> rfl) (by unfold maxLen; omega) (by omega) (by decide) rfl (fun B2 cb2 => ?_)
   (refine gM ?_; refine gw_nil ?_; refine gH ?_; refine gX ?_; refine gG ?_; refine gM ?_; refine gA ?_; refine gM ?_; refine gw_nil ?_)
   refine gx_round (k + 1, (A2, c2), B2, cb2) hlt (by dsimp only; omega) kK ⟨rfl, rfl, by rw [hps, List.length_append]; rfl, trivial⟩ ?_
   dsimp only
   rw [hos, hps, List.map_append, List.flatMap_append, List.length_append]
   simp only [List.flatMap_cons, List.flatMap_nil, List.append_nil, List.map_cons, List.map_nil]
   exact .cons (.there (.there .here)) (.cons .here (.cons (.there (.there .here)) .nil))
  ·rw [if_neg h1] at hps
   (refine gK ?_; refine gH ?_; refine gX ?_; refine gG ?_; refine gM ?_; refine gA ?_; refine gM ?_; refine gw_nil ?_)
   refine gx_round (k + 1, (A2, c2), B, cb) hlt (by dsimp only; omega) kK ⟨rfl, rfl, by rw [hps]; rfl, trivial⟩ ?_
   dsimp only
   rw [hos, hps, List.map_append]
   simp only [List.map_cons, List.map_nil]
   exact .cons .here (.cons (.there .here) (.cons (.there .here) .nil))
 ·obtain rfl : k = xs.length := by omega
  rw [List.take_length]
  (refine gI ?_; (iterate 2 refine gZ ?_); refine gJ ?_; refine gX ?_; refine gV ?_; (iterate 3 refine gM ?_); refine gO ?_; refine gR ?_)
  exact gx_ret2 (u := .slice _ _ _) (v := .int _ _) rfl rfl rfl (fun w' s' => ⟨(A, c), rfl, (s'.sub (.cons .here .nil)).sep⟩)
end
def bunD (bs : List Bun) (t : Int) : Bun := (bunAt bs t).getD bunZ
def bunV (b : Bun) : Array Value := #[.int .i64 b.tick, .int .i64 b.garm, .int .i64 b.size, .int .i64 b.lot, .int .i64 b.fr, .int .i64 b.upto]
theorem findT {α : Type} {p : α → Bool} {l : List α} {k : Nat} (hk : k < l.length) (h : (l.take k).find? p = none) (hp : p l[k] = true) : l.find? p = some l[k] := by
 have e : (l.take k ++ l[k] :: l.drop (k + 1)).find? p = some l[k] := by
  rw [List.find?_append, h, List.find?_cons, hp]
  rfl
 rwa [List.getElem_cons_drop, List.take_append_drop] at e
theorem findS {α : Type} {p : α → Bool} {l : List α} {k : Nat} (hk : k < l.length) (h : (l.take k).find? p = none) (hp : p l[k] = false) : (l.take (k + 1)).find? p = none := by
 rw [List.take_succ_eq_append_getElem hk, List.find?_append, h]
 simp [hp]
section
variable {w : World} {v0 v1 v2 v3 v4 v5 v6 vb vw vx : Value} {r le : Int} {s : Sty} {bs : List Bun} {ws : List Wrk} {xs : List Scn}
end
theorem rbundle58_ok (w : World) (v : Value) (bs : List Bun) (t : Int) (hb : Sl rBun w w.heap.size v bs) : Ok Tryz.prog 51 [v, .int .i64 t].toArray w fun r _ => r = .tuple #[.agg (bunV (bunD bs t)), .bool (bunAt bs t).isSome] := by
 obtain ⟨A, c, rfl, hc, hm, hcell⟩ := hb.bun
 refine ok_enter Tryz.func51 rfl Tryz.ntmps51 rfl ?_
 (refine gV ?_; refine w_alloc rfl (fun _ => ?_); refine gM ?_; refine gO ?_; refine gQ ?_; refine gV ?_; refine gM ?_; refine gO ?_; refine gB ?_)
 refine gc_loopK (σ := Nat) [7, 8, 9, 10, 13, 14, 15, 16, 17, 18, 19, 20, 21, 22, 23, 5, 11, 12, 6] (fun k => [(6, .int .i64 k)]) (fun k => k ≤ bs.length ∧ (bs.take k).find? (fun b => decide (b.tick = t)) = none) (fun k => bs.length - k) 0 ⟨Nat.zero_le _, rfl⟩ ⟨rfl, trivial⟩ ?_
 rintro k base ⟨hk, hI⟩
 (refine gQ ?_; refine gV ?_; (iterate 2 refine gM ?_); refine gL ?_; refine gC ?_; refine gO ?_)
 refine gc_if_dec rfl (fun h => ?_) (fun h => ?_)
 ·have hlt : k < bs.length := by omega
  obtain ⟨ad, rfl, hbk, hce, _⟩ := hcell k hlt
  have hce0 := hce 0 _ rfl
  (refine gK ?_; refine gX ?_; refine gQ ?_; refine gB ?_; refine gV ?_; (iterate 2 refine gM ?_); apply gw_d; exact w_index rfl rfl rfl rfl (by with_reducible exact rfl) (by omega); refine gF ?_; apply gw_d; exact w_load_fld rfl rfl rfl (by assumption) (by assumption); refine gM ?_; refine gC ?_; refine gO ?_)
  refine gc_if_dec rfl (fun h2 => ?_) (fun h2 => ?_)
  ·have hd : bunAt bs t = some bs[k] := findT hlt hI (decide_eq_true h2)
   unfold bunD
   rw [hd]
   (refine gV ?_; (iterate 2 refine gM ?_); apply gw_d; exact w_index rfl rfl rfl rfl (by with_reducible exact rfl) (by omega); apply gw_d; exact w_load_elem rfl rfl rfl (by assumption) (by assumption) (by rfl); refine w_store_all rfl rfl rfl rfl rfl .here rfl ?_; refine gM ?_; refine gO ?_; refine gR ?_; refine gY ?_; (iterate 2 refine gT ?_); refine gY ?_; refine gT ?_)
   exact gx_ret2c (v := .bool _) rfl rfl rfl .here rfl fun w s => rfl
  ·(refine gK ?_; refine gH ?_; refine gX ?_; refine gG ?_; refine gM ?_; refine gA ?_; refine gM ?_; refine gw_nil ?_)
   exact gx_round (k + 1) ⟨hlt, findS hlt hI (decide_eq_false h2)⟩ (by omega) kK ⟨rfl, trivial⟩ (Sub.all _)
 ·obtain rfl : k = bs.length := by omega
  rw [List.take_length] at hI
  have hd : bunAt bs t = none := hI
  unfold bunD
  rw [hd]
  (refine gI ?_; (iterate 2 refine gZ ?_); refine gJ ?_; refine gX ?_; refine gV ?_; apply gw_d; exact w_build (cells := #[.int .i64 0, .int .i64 0, .int .i64 0, .int .i64 0, .int .i64 0, .int .i64 0]) rfl rfl (by kernel_rfl); refine w_store_all rfl rfl rfl rfl rfl .here rfl ?_; refine gM ?_; refine gO ?_; refine gR ?_)
  exact gx_ret2c (v := .bool _) rfl rfl rfl .here rfl fun w s => rfl

theorem paid_ext (l : List Opn) (ws : List Wrk) (tk : List Int) : ∀ (ys ps : List Scn), ∃ r, ys.foldl (nextP l ws tk) ps = ps ++ r
 | [], ps => ⟨[], by simp⟩
 | y :: ys, ps => by
  rw [List.foldl_cons]
  obtain ⟨r, hr⟩ := paid_ext l ws tk ys (nextP l ws tk ps y)
  rw [hr]
  unfold nextP
  split
  ·exact ⟨y :: r, by simp⟩
  ·exact ⟨r, rfl⟩
theorem who_hit {l : List Opn} {ws : List Wrk} {tk : List Int} {xs : List Scn} {k : Nat} {t o : Int} (hk : k < xs.length) (hI : whoAt (paidL l ws tk (xs.take k)) t o = none) (h1 : outE l ws tk (paidL l ws tk (xs.take k)) xs[k] = 1) (ht : xs[k].tick = t) (ho : xs[k].op = o) : whoAt (paidL l ws tk xs) t o = some xs[k] := by
 have e : paidL l ws tk xs = (xs.drop (k + 1)).foldl (nextP l ws tk) (paidL l ws tk (xs.take (k + 1))) := by
  unfold paidL
  rw [← List.foldl_append, List.take_append_drop]
 have e2 : paidL l ws tk (xs.take (k + 1)) = paidL l ws tk (xs.take k) ++ [xs[k]] := by
  rw [List.take_succ_eq_append_getElem hk, paidL_snoc]
  unfold nextP
  rw [if_pos h1]
 obtain ⟨r, hr⟩ := paid_ext l ws tk (xs.drop (k + 1)) (paidL l ws tk (xs.take (k + 1)))
 rw [e, hr, e2]
 unfold whoAt at hI ⊢
 rw [List.append_assoc, List.find?_append, hI]
 simp [ht, ho]
theorem who_miss {l : List Opn} {ws : List Wrk} {tk : List Int} {xs : List Scn} {k : Nat} {t o : Int} (hk : k < xs.length) (hI : whoAt (paidL l ws tk (xs.take k)) t o = none) (h1 : ¬ (outE l ws tk (paidL l ws tk (xs.take k)) xs[k] = 1 ∧ xs[k].tick = t ∧ xs[k].op = o)) : whoAt (paidL l ws tk (xs.take (k + 1))) t o = none := by
 rw [List.take_succ_eq_append_getElem hk, paidL_snoc]
 unfold nextP
 split
 ·rename_i h2
  unfold whoAt at hI ⊢
  rw [List.find?_append, hI]
  have h3 : ¬ (xs[k].tick = t ∧ xs[k].op = o) := fun h => h1 ⟨h2, h⟩
  simpa using h3
 ·exact hI

section
variable {w : World} {v0 v1 v2 v3 v4 v5 v6 vb vw vx vl vo : Value} {r le : Int} {s : Sty} {bs : List Bun} {ws : List Wrk} {xs : List Scn} {l : List Opn} {tk os : List Int}
theorem rtrace58_ok (x : Ret) (hl : Sl rOp w w.heap.size v6 l) (hb : Sl rBun w w.heap.size vb bs) (hx : Sl rScn w w.heap.size vx xs) (ho : Sl rInt w w.heap.size vo os) (hol : os.length = xs.length) (hoat : ∀ i (hi : i < xs.length), os.getD i 0 = outE l ws tk (paidL l ws tk (xs.take i)) xs[i]) :
  Ok Tryz.prog 40 [.agg #[v0, v1, v2, v3, v4, v5, v6], vb, vx, vo, .agg #[.int .i64 x.tick, .int .i64 x.ply, .int .i64 x.op]].toArray w fun y _ => y = .tuple #[.int .i64 (trW l.length bs (paidL l ws tk xs) x), .int .i64 (trE l.length bs (paidL l ws tk xs) x)] := by
 have hBu := fun (L : List Res) (w' : World) (s' : St w L w') => rbundle58_ok w' vb bs x.tick (hb.later s')
 obtain ⟨Al, cl, rfl, hlc, hlm⟩ := len_small hl
 obtain ⟨Ax, cx, rfl, hxc, hxm, hxcell⟩ := hx.scn
 obtain ⟨Ao, co, rfl, hoc, hom, hocell⟩ := ho.int
 by_cases hr : bunAt bs x.tick = none
 ·have hE : trE l.length bs (paidL l ws tk xs) x = 6 := by unfold trE; rw [hr]
  obtain ⟨hW, _⟩ := trE_bad (n := l.length) (bs := bs) (ps := paidL l ws tk xs) (r := x) (by rw [hE]; decide)
  rw [hE, hW]
  rw [hr] at hBu
  refine ok_enter Tryz.func40 rfl Tryz.ntmps40 rfl ?_
  (refine gV ?_; refine gw_boxd (v := .agg _) rfl rfl (fun _ => ?_); refine gw_boxd (v := .agg _) rfl rfl (fun _ => ?_); (iterate 2 refine gM ?_); refine gN ?_; refine gM ?_; refine gF ?_; refine gW .here ?_; apply gw_d; exact w_call rfl rfl (hBu _) rfl; refine gM ?_; apply gw_d; exact det_extract rfl rfl rfl (by conv => (lhs; whnf)); apply gw_d; exact det_extract rfl rfl rfl (by conv => (lhs; whnf)); refine w_alloc rfl (fun _ => ?_); refine w_store_all rfl rfl rfl rfl rfl .here rfl ?_; refine gM ?_; refine gO ?_; refine gQ ?_; refine gV ?_; refine gM ?_; apply gw_d; exact det_not_ rfl rfl rfl; refine gO ?_)
  refine gc_if_true rfl ?_
  (refine gV ?_; (iterate 2 refine gM ?_); refine gO ?_; refine gR ?_; refine gT ?_)
  refine gx_ret2 (u := .int _ _) (v := .int _ _) rfl rfl rfl (fun _ _ => ?_)
  rfl
 obtain ⟨b, hbe⟩ : ∃ b, bunAt bs x.tick = some b := Option.ne_none_iff_exists'.1 hr
 have hBD : bunD bs x.tick = b := by unfold bunD; rw [hbe]; rfl
 rw [hBD, hbe] at hBu
 by_cases hrr : x.ply < b.fr ∨ x.ply ≥ b.upto ∨ x.op < 0 ∨ x.op ≥ (l.length : Int)
 ·have hE : trE l.length bs (paidL l ws tk xs) x = 3 := by
   unfold trE
   rw [hbe]
   dsimp only
   rw [if_pos hrr]
  obtain ⟨hW, _⟩ := trE_bad (n := l.length) (bs := bs) (ps := paidL l ws tk xs) (r := x) (by rw [hE]; decide)
  rw [hE, hW]
  refine ok_enter Tryz.func40 rfl Tryz.ntmps40 rfl ?_
  (refine gV ?_; refine gw_boxd (v := .agg _) rfl rfl (fun _ => ?_); refine gw_boxd (v := .agg _) rfl rfl (fun _ => ?_); (iterate 2 refine gM ?_); refine gN ?_; refine gM ?_; refine gF ?_; refine gW .here ?_; apply gw_d; exact w_call rfl rfl (hBu _) rfl; refine gM ?_; apply gw_d; exact det_extract rfl rfl rfl (by conv => (lhs; whnf)); apply gw_d; exact det_extract rfl rfl rfl (by conv => (lhs; whnf)); refine w_alloc rfl (fun _ => ?_); refine w_store_all rfl rfl rfl rfl rfl .here rfl ?_; refine gM ?_; refine gO ?_; refine gQ ?_; refine gV ?_; refine gM ?_; apply gw_d; exact det_not_ rfl rfl rfl; refine gO ?_)
  refine gc_if_false rfl ?_
  focus (refine gK ?_; refine gX ?_; refine gQ ?_; refine gV ?_; refine gF ?_; refine gW (.there .here) ?_; refine gF ?_; refine gW .here ?_; refine gC ?_; refine gM ?_; refine gD (fun _ => ?_) (fun _ => ?_); (iterate 5 refine gU ?_); refine gPp ?_; refine gM ?_; (iterate 3 refine gU ?_); refine gPp ?_; refine gM ?_; (iterate 6 refine gU ?_); refine gPp ?_; refine gO ?_; refine gc_if_true rfl ?_; refine gV ?_; (iterate 2 refine gM ?_); refine gO ?_; refine gR ?_; refine gT ?_; rotate_left; refine gF ?_; refine gW (.there .here) ?_; refine gF ?_; refine gW .here ?_; refine gC ?_; refine gPq ?_; refine gM ?_; refine gD (fun _ => ?_) (fun _ => ?_); (iterate 3 refine gU ?_); refine gPp ?_; refine gM ?_; (iterate 6 refine gU ?_); refine gPp ?_; refine gO ?_; refine gc_if_true rfl ?_; refine gV ?_; (iterate 2 refine gM ?_); refine gO ?_; refine gR ?_; refine gT ?_; rotate_left; refine gF ?_; refine gW (.there .here) ?_; refine gC ?_; refine gPq ?_; refine gM ?_; refine gD (fun _ => ?_) (fun _ => ?_); (iterate 6 refine gU ?_); refine gPp ?_; refine gO ?_; refine gc_if_true rfl ?_; refine gV ?_; (iterate 2 refine gM ?_); refine gO ?_; refine gR ?_; refine gT ?_; rotate_left; refine gF ?_; refine gW (.there .here) ?_; refine gF ?_; refine gW (.there (.there .here)) ?_; refine gL ?_; refine gC ?_; refine gPq ?_; refine gO ?_; refine gc_if_dec rfl (fun _ => ?_) (fun _ => ?_); refine gV ?_; (iterate 2 refine gM ?_); refine gO ?_; refine gR ?_; refine gT ?_; rotate_left; refine gK ?_; refine gX ?_; refine gQ ?_; refine gV ?_; refine gM ?_; refine gO ?_; refine gB ?_; rotate_left)
  all_goals first | (exfalso; omega) | skip
  all_goals (refine gx_ret2 (u := .int _ _) (v := .int _ _) rfl rfl rfl (fun _ _ => ?_))
  all_goals rfl
 have hnE : trE l.length bs (paidL l ws tk xs) x = (match whoAt (paidL l ws tk xs) x.tick x.op with | none => (6 : Int) | some _ => 0) := by
  unfold trE
  rw [hbe]
  dsimp only
  rw [if_neg hrr]
  try rfl
 refine ok_enter Tryz.func40 rfl Tryz.ntmps40 rfl ?_
 (refine gV ?_; refine gw_boxd (v := .agg _) rfl rfl (fun _ => ?_); refine gw_boxd (v := .agg _) rfl rfl (fun _ => ?_); (iterate 2 refine gM ?_); refine gN ?_; refine gM ?_; refine gF ?_; refine gW .here ?_; apply gw_d; exact w_call rfl rfl (hBu _) rfl; refine gM ?_; apply gw_d; exact det_extract rfl rfl rfl (by conv => (lhs; whnf)); apply gw_d; exact det_extract rfl rfl rfl (by conv => (lhs; whnf)); refine w_alloc rfl (fun _ => ?_); refine w_store_all rfl rfl rfl rfl rfl .here rfl ?_; refine gM ?_; refine gO ?_; refine gQ ?_; refine gV ?_; refine gM ?_; apply gw_d; exact det_not_ rfl rfl rfl; refine gO ?_)
 refine gc_if_false rfl ?_
 focus (refine gK ?_; refine gX ?_; refine gQ ?_; refine gV ?_; refine gF ?_; refine gW (.there .here) ?_; refine gF ?_; refine gW .here ?_; refine gC ?_; refine gM ?_; refine gD (fun _ => ?_) (fun _ => ?_); (iterate 5 refine gU ?_); refine gPp ?_; refine gM ?_; (iterate 3 refine gU ?_); refine gPp ?_; refine gM ?_; (iterate 6 refine gU ?_); refine gPp ?_; refine gO ?_; refine gc_if_true rfl ?_; refine gV ?_; (iterate 2 refine gM ?_); refine gO ?_; refine gR ?_; refine gT ?_; rotate_left; refine gF ?_; refine gW (.there .here) ?_; refine gF ?_; refine gW .here ?_; refine gC ?_; refine gPq ?_; refine gM ?_; refine gD (fun _ => ?_) (fun _ => ?_); (iterate 3 refine gU ?_); refine gPp ?_; refine gM ?_; (iterate 6 refine gU ?_); refine gPp ?_; refine gO ?_; refine gc_if_true rfl ?_; refine gV ?_; (iterate 2 refine gM ?_); refine gO ?_; refine gR ?_; refine gT ?_; rotate_left; refine gF ?_; refine gW (.there .here) ?_; refine gC ?_; refine gPq ?_; refine gM ?_; refine gD (fun _ => ?_) (fun _ => ?_); (iterate 6 refine gU ?_); refine gPp ?_; refine gO ?_; refine gc_if_true rfl ?_; refine gV ?_; (iterate 2 refine gM ?_); refine gO ?_; refine gR ?_; refine gT ?_; rotate_left; refine gF ?_; refine gW (.there .here) ?_; refine gF ?_; refine gW (.there (.there .here)) ?_; refine gL ?_; refine gC ?_; refine gPq ?_; refine gO ?_; refine gc_if_dec rfl (fun _ => ?_) (fun _ => ?_); refine gV ?_; (iterate 2 refine gM ?_); refine gO ?_; refine gR ?_; refine gT ?_; rotate_left; refine gK ?_; refine gX ?_; refine gQ ?_; refine gV ?_; refine gM ?_; refine gO ?_; refine gB ?_; rotate_left)
 all_goals first | (exfalso; omega) | skip
 refine gc_loopK (σ := Nat) [49, 50, 51, 52, 55, 56, 57, 58, 59, 60, 61, 62, 63, 64, 65, 66, 67, 68, 69, 70, 71, 72, 73, 74, 75, 76, 77, 78, 79, 80, 81, 82, 83, 84, 10, 11, 53, 54, 14] (fun j => [(14, .int .i64 j)]) (fun j => j ≤ xs.length ∧ whoAt (paidL l ws tk (xs.take j)) x.tick x.op = none) (fun j => xs.length - j) 0 ⟨Nat.zero_le _, rfl⟩ ⟨rfl, trivial⟩ ?_
 rintro j base2 ⟨hj, hJ⟩
 (refine gQ ?_; refine gV ?_; (iterate 2 refine gM ?_); refine gL ?_; refine gC ?_; refine gO ?_)
 refine gc_if_dec rfl (fun h3 => ?_) (fun h3 => ?_)
 ·have hjl : j < xs.length := by omega
  obtain ⟨ad2, rfl, hpk, hcp, _⟩ := hxcell j hjl
  have hcp0 := hcp 0 _ rfl
  have hcp1 := hcp 1 _ rfl
  have hcp2 := hcp 2 _ rfl
  obtain ⟨ad3, rfl, hok, hco, _⟩ := hocell j (by omega)
  have hgd : os[j] = os.getD j 0 := by rw [List.getD_eq_getElem?_getD, List.getElem?_eq_getElem (by omega)]; rfl
  have hoo := hoat j hjl
  rw [← hgd] at hoo
  by_cases hm : os[j] = 1 ∧ xs[j].tick = x.tick ∧ xs[j].op = x.op
  ·have hwho := who_hit hjl hJ (by rw [← hoo]; exact hm.1) hm.2.1 hm.2.2
   have hE : trE l.length bs (paidL l ws tk xs) x = 0 := by rw [hnE, hwho]
   have hW : trW l.length bs (paidL l ws tk xs) x = xs[j].who := by unfold trW; rw [if_pos hE, hwho]; rfl
   rw [hE, hW]
   obtain ⟨hm1, hm2, hm3⟩ := hm
   (refine gK ?_; refine gX ?_; refine gQ ?_; refine gB ?_; refine gQ ?_)
   refine gc_draw 25 (by kernel_rfl) (by kernel_rfl) ?_
   focus ((iterate 2 refine dM ?_); apply gd_d; exact w_index rfl rfl rfl rfl (by with_reducible exact rfl) (by omega); apply gd_d; exact w_load_at rfl rfl rfl (by assumption) (by assumption); apply gd_d; exact det_cmp rfl rfl rfl rfl rfl; refine dM ?_; refine gd_guard_dec rfl rfl (fun _ => ?_) (fun _ => ?_); (iterate 2 refine dM ?_); apply gd_d; exact w_index rfl rfl rfl rfl (by with_reducible exact rfl) (by omega); apply gd_d; exact w_field rfl rfl rfl; apply gd_d; exact w_load_fld rfl rfl rfl (by assumption) (by assumption); apply gd_d; exact w_field rfl rfl rfl; apply gd_d; exact w_load_box rfl rfl rfl (.there .here) rfl; apply gd_d; exact det_cmp rfl rfl rfl rfl rfl; apply gd_d; exact det_pick_t (v := .bool _) rfl rfl rfl rfl; refine dM ?_; refine gd_guard_dec rfl rfl (fun _ => ?_) (fun _ => ?_); (iterate 2 refine dM ?_); apply gd_d; exact w_index rfl rfl rfl rfl (by with_reducible exact rfl) (by omega); apply gd_d; exact w_field rfl rfl rfl; apply gd_d; exact w_load_fld rfl rfl rfl (by assumption) (by assumption); apply gd_d; exact w_field rfl rfl rfl; apply gd_d; exact w_load_box rfl rfl rfl (.there .here) rfl; apply gd_d; exact det_cmp rfl rfl rfl rfl rfl; apply gd_d; exact det_pick_t (v := .bool _) rfl rfl rfl rfl; refine gd_nil ?_; refine gO ?_; refine gc_if_dec rfl (fun _ => ?_) (fun _ => ?_); refine gV ?_; (iterate 2 refine gM ?_); apply gw_d; exact w_index rfl rfl rfl rfl (by with_reducible exact rfl) (by omega); refine gF ?_; apply gw_d; exact w_load_fld rfl rfl rfl (by assumption) (by assumption); (iterate 2 refine gM ?_); refine gO ?_; refine gR ?_; refine gY ?_; (iterate 2 refine gT ?_); refine gY ?_; refine gT ?_; rotate_left; refine gK ?_; refine gH ?_; refine gX ?_; refine gG ?_; refine gM ?_; refine gA ?_; refine gM ?_; refine gw_nil ?_; rotate_left; (iterate 8 refine dU ?_); apply gd_d; exact det_pick_f (v := .bool _) rfl rfl rfl rfl; refine gd_nil ?_; refine gO ?_; refine gc_if_false rfl ?_; refine gK ?_; refine gH ?_; refine gX ?_; refine gG ?_; refine gM ?_; refine gA ?_; refine gM ?_; refine gw_nil ?_; rotate_left; (iterate 8 refine dU ?_); apply gd_d; exact det_pick_f (v := .bool _) rfl rfl rfl rfl; refine dM ?_; (iterate 8 refine dU ?_); apply gd_d; exact det_pick_f (v := .bool _) rfl rfl rfl rfl; refine gd_nil ?_; refine gO ?_; refine gc_if_false rfl ?_; refine gK ?_; refine gH ?_; refine gX ?_; refine gG ?_; refine gM ?_; refine gA ?_; refine gM ?_; refine gw_nil ?_; rotate_left)
   all_goals first | (exfalso; omega) | skip
   refine gx_ret2 (u := .int _ _) (v := .int _ _) rfl rfl rfl (fun _ _ => ?_)
   rfl
  ·have hJ' := who_miss hjl hJ (by rw [← hoo]; exact hm)
   (refine gK ?_; refine gX ?_; refine gQ ?_; refine gB ?_; refine gQ ?_)
   refine gc_draw 25 (by kernel_rfl) (by kernel_rfl) ?_
   focus ((iterate 2 refine dM ?_); apply gd_d; exact w_index rfl rfl rfl rfl (by with_reducible exact rfl) (by omega); apply gd_d; exact w_load_at rfl rfl rfl (by assumption) (by assumption); apply gd_d; exact det_cmp rfl rfl rfl rfl rfl; refine dM ?_; refine gd_guard_dec rfl rfl (fun _ => ?_) (fun _ => ?_); (iterate 2 refine dM ?_); apply gd_d; exact w_index rfl rfl rfl rfl (by with_reducible exact rfl) (by omega); apply gd_d; exact w_field rfl rfl rfl; apply gd_d; exact w_load_fld rfl rfl rfl (by assumption) (by assumption); apply gd_d; exact w_field rfl rfl rfl; apply gd_d; exact w_load_box rfl rfl rfl (.there .here) rfl; apply gd_d; exact det_cmp rfl rfl rfl rfl rfl; apply gd_d; exact det_pick_t (v := .bool _) rfl rfl rfl rfl; refine dM ?_; refine gd_guard_dec rfl rfl (fun _ => ?_) (fun _ => ?_); (iterate 2 refine dM ?_); apply gd_d; exact w_index rfl rfl rfl rfl (by with_reducible exact rfl) (by omega); apply gd_d; exact w_field rfl rfl rfl; apply gd_d; exact w_load_fld rfl rfl rfl (by assumption) (by assumption); apply gd_d; exact w_field rfl rfl rfl; apply gd_d; exact w_load_box rfl rfl rfl (.there .here) rfl; apply gd_d; exact det_cmp rfl rfl rfl rfl rfl; apply gd_d; exact det_pick_t (v := .bool _) rfl rfl rfl rfl; refine gd_nil ?_; refine gO ?_; refine gc_if_dec rfl (fun _ => ?_) (fun _ => ?_); refine gV ?_; (iterate 2 refine gM ?_); apply gw_d; exact w_index rfl rfl rfl rfl (by with_reducible exact rfl) (by omega); refine gF ?_; apply gw_d; exact w_load_fld rfl rfl rfl (by assumption) (by assumption); (iterate 2 refine gM ?_); refine gO ?_; refine gR ?_; refine gY ?_; (iterate 2 refine gT ?_); refine gY ?_; refine gT ?_; rotate_left; refine gK ?_; refine gH ?_; refine gX ?_; refine gG ?_; refine gM ?_; refine gA ?_; refine gM ?_; refine gw_nil ?_; rotate_left; (iterate 8 refine dU ?_); apply gd_d; exact det_pick_f (v := .bool _) rfl rfl rfl rfl; refine gd_nil ?_; refine gO ?_; refine gc_if_false rfl ?_; refine gK ?_; refine gH ?_; refine gX ?_; refine gG ?_; refine gM ?_; refine gA ?_; refine gM ?_; refine gw_nil ?_; rotate_left; (iterate 8 refine dU ?_); apply gd_d; exact det_pick_f (v := .bool _) rfl rfl rfl rfl; refine dM ?_; (iterate 8 refine dU ?_); apply gd_d; exact det_pick_f (v := .bool _) rfl rfl rfl rfl; refine gd_nil ?_; refine gO ?_; refine gc_if_false rfl ?_; refine gK ?_; refine gH ?_; refine gX ?_; refine gG ?_; refine gM ?_; refine gA ?_; refine gM ?_; refine gw_nil ?_; rotate_left)
   all_goals first | (exfalso; exact hm ⟨by assumption, by assumption, by assumption⟩) | skip
   all_goals exact gx_round (j + 1) ⟨by omega, hJ'⟩ (by omega) kK ⟨rfl, trivial⟩ (Sub.all _)
 ·obtain rfl : j = xs.length := by omega
  rw [List.take_length] at hJ
  have hE : trE l.length bs (paidL l ws tk xs) x = 6 := by rw [hnE, hJ]
  obtain ⟨hW, _⟩ := trE_bad (n := l.length) (bs := bs) (ps := paidL l ws tk xs) (r := x) (by rw [hE]; decide)
  rw [hE, hW]
  (refine gI ?_; (iterate 2 refine gZ ?_); refine gJ ?_; refine gX ?_; refine gV ?_; (iterate 2 refine gM ?_); refine gO ?_; refine gR ?_)
  refine gx_ret2 (u := .int _ _) (v := .int _ _) rfl rfl rfl (fun _ _ => ?_)
  rfl
theorem out_range (l : List Opn) (ws : List Wrk) (tk : List Int) (ps : List Scn) (x : Scn) : 1 ≤ outE l ws tk ps x ∧ outE l ws tk ps x ≤ 6 := by
 unfold outE judgeE
 repeat' split
 all_goals exact ⟨by decide, by decide⟩
theorem outs_in (l : List Opn) (ws : List Wrk) (tk : List Int) : ∀ (xs ps : List Scn), ∀ y ∈ outs l ws tk ps xs, inI64 y
 | [], _, y, h => by cases h
 | x :: xs, ps, y, h => by
  rcases List.mem_cons.1 h with rfl | h
  ·have := out_range l ws tk ps x
   unfold inI64
   omega
  ·exact outs_in l ws tk xs _ y h
end
def isC (x : Ret) (c : Chg) : Bool := decide (c.tick = x.tick ∧ c.ply = x.ply ∧ c.op = x.op)
theorem isC_any (r le : Int) (l : List Opn) (bs : List Bun) (ps : List Scn) (D : List Ret) (x : Ret) : (D.map (chgOf r le l bs ps)).any (isC x) = hasB D x := by
 rw [List.any_map]
 cases hb : hasB D x with
 | true =>
  have := hasB_iff.1 hb
  exact List.any_eq_true.2 ⟨x, this, decide_eq_true ⟨rfl, rfl, rfl⟩⟩
 | false =>
  refine List.any_eq_false.2 fun y hy hc => ?_
  obtain ⟨h1, h2, h3⟩ := of_decide_eq_true hc
  have : y = x := by
   cases x
   cases y
   change _ = _ at h1
   unfold chgOf at h1 h2 h3
   dsimp only at h1 h2 h3
   subst h1 h2 h3
   rfl
  rw [this] at hy
  rw [hasB_iff.2 hy] at hb
  cases hb
theorem rcharged_ok (w : World) (vl : Value) (cs : List Chg) (x : Ret) (hl : Sl rChg w w.heap.size vl cs) : Ok Tryz.prog 41 [vl, .agg #[.int .i64 x.tick, .int .i64 x.ply, .int .i64 x.op]].toArray w fun y _ => y = .bool (cs.any (isC x)) := by
 obtain ⟨A, c, rfl, hlc, hlm, hcell⟩ := hl.chg
 refine ok_enter Tryz.func41 rfl Tryz.ntmps41 rfl ?_
 (refine gV ?_; refine gw_boxd (v := .agg _) rfl rfl (fun _ => ?_); refine gM ?_; refine gO ?_; refine gQ ?_; refine gV ?_; refine gM ?_; refine gO ?_; refine gB ?_)
 refine gc_loopK (σ := Nat) [6, 7, 8, 9, 12, 13, 14, 15, 16, 17, 18, 19, 20, 21, 22, 23, 24, 25, 26, 27, 28, 29, 30, 31, 32, 33, 34, 35, 36, 37, 38, 39, 4, 10, 11, 5] (fun j => [(5, .int .i64 j)]) (fun j => j ≤ cs.length ∧ (cs.take j).any (isC x) = false) (fun j => cs.length - j) 0 ⟨Nat.zero_le _, rfl⟩ ⟨rfl, trivial⟩ ?_
 rintro j base ⟨hj, hJ⟩
 (refine gQ ?_; refine gV ?_; (iterate 2 refine gM ?_); refine gL ?_; refine gC ?_; refine gO ?_)
 refine gc_if_dec rfl (fun h3 => ?_) (fun h3 => ?_)
 ·have hjl : j < cs.length := by omega
  obtain ⟨ad, rfl, hbk, hce, _⟩ := hcell j hjl
  have hce1 := hce 1 _ rfl
  have hce2 := hce 2 _ rfl
  have hce3 := hce 3 _ rfl
  by_cases hm : cs[j].tick = x.tick ∧ cs[j].ply = x.ply ∧ cs[j].op = x.op
  ·have hE : cs.any (isC x) = true := List.any_eq_true.2 ⟨cs[j], List.getElem_mem hjl, decide_eq_true hm⟩
   rw [hE]
   obtain ⟨hm1, hm2, hm3⟩ := hm
   (refine gK ?_; refine gX ?_; refine gQ ?_; refine gB ?_; refine gQ ?_)
   refine gc_draw 28 (by kernel_rfl) (by kernel_rfl) ?_
   focus ((iterate 2 refine dM ?_); apply gd_d; exact w_index rfl rfl rfl rfl (by with_reducible exact rfl) (by omega); apply gd_d; exact w_field rfl rfl rfl; apply gd_d; exact w_load_fld rfl rfl rfl (by assumption) (by assumption); apply gd_d; exact w_field rfl rfl rfl; apply gd_d; exact w_load_box rfl rfl rfl .here rfl; apply gd_d; exact det_cmp rfl rfl rfl rfl rfl; refine dM ?_; refine gd_guard_dec rfl rfl (fun _ => ?_) (fun _ => ?_); (iterate 2 refine dM ?_); apply gd_d; exact w_index rfl rfl rfl rfl (by with_reducible exact rfl) (by omega); apply gd_d; exact w_field rfl rfl rfl; apply gd_d; exact w_load_fld rfl rfl rfl (by assumption) (by assumption); apply gd_d; exact w_field rfl rfl rfl; apply gd_d; exact w_load_box rfl rfl rfl .here rfl; apply gd_d; exact det_cmp rfl rfl rfl rfl rfl; apply gd_d; exact det_pick_t (v := .bool _) rfl rfl rfl rfl; refine dM ?_; refine gd_guard_dec rfl rfl (fun _ => ?_) (fun _ => ?_); (iterate 2 refine dM ?_); apply gd_d; exact w_index rfl rfl rfl rfl (by with_reducible exact rfl) (by omega); apply gd_d; exact w_field rfl rfl rfl; apply gd_d; exact w_load_fld rfl rfl rfl (by assumption) (by assumption); apply gd_d; exact w_field rfl rfl rfl; apply gd_d; exact w_load_box rfl rfl rfl .here rfl; apply gd_d; exact det_cmp rfl rfl rfl rfl rfl; apply gd_d; exact det_pick_t (v := .bool _) rfl rfl rfl rfl; refine gd_nil ?_; refine gO ?_; refine gc_if_dec rfl (fun _ => ?_) (fun _ => ?_); refine gV ?_; refine gM ?_; refine gO ?_; refine gR ?_; refine gY ?_; (iterate 2 refine gT ?_); refine gY ?_; refine gT ?_; rotate_left; refine gK ?_; refine gH ?_; refine gX ?_; refine gG ?_; refine gM ?_; refine gA ?_; refine gM ?_; refine gw_nil ?_; rotate_left; (iterate 8 refine dU ?_); apply gd_d; exact det_pick_f (v := .bool _) rfl rfl rfl rfl; refine gd_nil ?_; refine gO ?_; refine gc_if_false rfl ?_; refine gK ?_; refine gH ?_; refine gX ?_; refine gG ?_; refine gM ?_; refine gA ?_; refine gM ?_; refine gw_nil ?_; rotate_left; (iterate 8 refine dU ?_); apply gd_d; exact det_pick_f (v := .bool _) rfl rfl rfl rfl; refine dM ?_; (iterate 8 refine dU ?_); apply gd_d; exact det_pick_f (v := .bool _) rfl rfl rfl rfl; refine gd_nil ?_; refine gO ?_; refine gc_if_false rfl ?_; refine gK ?_; refine gH ?_; refine gX ?_; refine gG ?_; refine gM ?_; refine gA ?_; refine gM ?_; refine gw_nil ?_; rotate_left)
   all_goals first | (exfalso; omega) | skip
   refine gb1 (fun _ _ => ?_)
   rfl
  ·have hJ' := any_snoc hjl hJ (decide_eq_false hm)
   (refine gK ?_; refine gX ?_; refine gQ ?_; refine gB ?_; refine gQ ?_)
   refine gc_draw 28 (by kernel_rfl) (by kernel_rfl) ?_
   focus ((iterate 2 refine dM ?_); apply gd_d; exact w_index rfl rfl rfl rfl (by with_reducible exact rfl) (by omega); apply gd_d; exact w_field rfl rfl rfl; apply gd_d; exact w_load_fld rfl rfl rfl (by assumption) (by assumption); apply gd_d; exact w_field rfl rfl rfl; apply gd_d; exact w_load_box rfl rfl rfl .here rfl; apply gd_d; exact det_cmp rfl rfl rfl rfl rfl; refine dM ?_; refine gd_guard_dec rfl rfl (fun _ => ?_) (fun _ => ?_); (iterate 2 refine dM ?_); apply gd_d; exact w_index rfl rfl rfl rfl (by with_reducible exact rfl) (by omega); apply gd_d; exact w_field rfl rfl rfl; apply gd_d; exact w_load_fld rfl rfl rfl (by assumption) (by assumption); apply gd_d; exact w_field rfl rfl rfl; apply gd_d; exact w_load_box rfl rfl rfl .here rfl; apply gd_d; exact det_cmp rfl rfl rfl rfl rfl; apply gd_d; exact det_pick_t (v := .bool _) rfl rfl rfl rfl; refine dM ?_; refine gd_guard_dec rfl rfl (fun _ => ?_) (fun _ => ?_); (iterate 2 refine dM ?_); apply gd_d; exact w_index rfl rfl rfl rfl (by with_reducible exact rfl) (by omega); apply gd_d; exact w_field rfl rfl rfl; apply gd_d; exact w_load_fld rfl rfl rfl (by assumption) (by assumption); apply gd_d; exact w_field rfl rfl rfl; apply gd_d; exact w_load_box rfl rfl rfl .here rfl; apply gd_d; exact det_cmp rfl rfl rfl rfl rfl; apply gd_d; exact det_pick_t (v := .bool _) rfl rfl rfl rfl; refine gd_nil ?_; refine gO ?_; refine gc_if_dec rfl (fun _ => ?_) (fun _ => ?_); refine gV ?_; refine gM ?_; refine gO ?_; refine gR ?_; refine gY ?_; (iterate 2 refine gT ?_); refine gY ?_; refine gT ?_; rotate_left; refine gK ?_; refine gH ?_; refine gX ?_; refine gG ?_; refine gM ?_; refine gA ?_; refine gM ?_; refine gw_nil ?_; rotate_left; (iterate 8 refine dU ?_); apply gd_d; exact det_pick_f (v := .bool _) rfl rfl rfl rfl; refine gd_nil ?_; refine gO ?_; refine gc_if_false rfl ?_; refine gK ?_; refine gH ?_; refine gX ?_; refine gG ?_; refine gM ?_; refine gA ?_; refine gM ?_; refine gw_nil ?_; rotate_left; (iterate 8 refine dU ?_); apply gd_d; exact det_pick_f (v := .bool _) rfl rfl rfl rfl; refine dM ?_; (iterate 8 refine dU ?_); apply gd_d; exact det_pick_f (v := .bool _) rfl rfl rfl rfl; refine gd_nil ?_; refine gO ?_; refine gc_if_false rfl ?_; refine gK ?_; refine gH ?_; refine gX ?_; refine gG ?_; refine gM ?_; refine gA ?_; refine gM ?_; refine gw_nil ?_; rotate_left)
   all_goals first | (exfalso; exact hm ⟨by assumption, by assumption, by assumption⟩) | skip
   all_goals exact gx_round (j + 1) ⟨by omega, hJ'⟩ (by omega) kK ⟨rfl, trivial⟩ (Sub.all _)
 ·obtain rfl : j = cs.length := by omega
  rw [List.take_length] at hJ
  rw [hJ]
  (refine gI ?_; (iterate 2 refine gZ ?_); refine gJ ?_; refine gX ?_; refine gV ?_; refine gM ?_; refine gO ?_; refine gR ?_)
  refine gb1 (fun _ _ => ?_)
  rfl

theorem rcharge58_ok (w : World) (v0 v1 v2 v3 v4 v5 v6 vb : Value) (r le who : Int) (l : List Opn) (bs : List Bun) (x : Ret) (b : Bun) (hl : Sl rOp w w.heap.size v6 l) (hb : Sl rBun w w.heap.size vb bs) (hB : bunAt bs x.tick = some b) (hp : b.fr ≤ x.ply ∧ x.ply < b.upto) (hbr : 1 ≤ b.upto - b.fr ∧ b.upto - b.fr ≤ 40) (ho : 0 ≤ x.op ∧ x.op < l.length) :
  Ok Tryz.prog 42 [.agg #[v0, v1, v2, v3, v4, v5, v6], vb, .agg #[.int .i64 r, .int .i64 le], .int .i64 who, .agg #[.int .i64 x.tick, .int .i64 x.ply, .int .i64 x.op]].toArray w fun y _ => y = .agg #[.int .i64 who, .int .i64 x.tick, .int .i64 x.ply, .int .i64 x.op, .int .i64 (shareOf r le l bs x)] := by
 have hBu := fun (L : List Res) (w' : World) (s' : St w L w') => rbundle58_ok w' vb bs x.tick (hb.later s')
 have hBD : bunD bs x.tick = b := by unfold bunD; rw [hB]; rfl
 rw [hBD, hB] at hBu
 obtain ⟨o, hoo⟩ : ∃ o : Nat, x.op = (o : Int) := ⟨x.op.toNat, by omega⟩
 have hol : o < l.length := by omega
 obtain ⟨ad, co, rfl, _, hlm, hbo, hocell⟩ := hl.at' 5 rfl (by omega)
 obtain ⟨cs, hce, Aa, ca, Au, cu, rfl, hnm, q1, q2⟩ := hocell o hol
 have hce2 := hce 2 _ rfl
 have hmin : minAt l x.op = l[o].minutes := by
  unfold minAt
  rw [hoo, Int.toNat_natCast, List.getElem?_eq_getElem hol]
  rfl
 obtain ⟨n, hn⟩ : ∃ n : Nat, b.upto - b.fr = (n : Int) := ⟨(b.upto - b.fr).toNat, by omega⟩
 obtain ⟨k, hk⟩ : ∃ k : Nat, x.ply - b.fr = (k : Int) := ⟨(x.ply - b.fr).toNat, by omega⟩
 have hkn : k < n := by omega
 have hAm : ∀ (L : List Res) (w' : World), St w L w' → Ok Tryz.prog 48 [.agg #[.int .i64 r, .int .i64 le], .int .i64 l[o].minutes, .int .i64 (b.upto - b.fr)].toArray w' fun y _ => y = .tuple #[.int .i64 (amtV r le l[o].minutes (n : Int)), .int .i64 (amtE r le l[o].minutes (n : Int))] := fun L w' _ => by
  rw [hn]
  exact rAmount_ok w' r le l[o].minutes (n : Int)
 have har := amtV_range r le l[o].minutes (n : Int)
 have hsh : shE (amtV r le l[o].minutes (n : Int)) n = 0 := by
  unfold shE
  rw [if_neg]
  rw [money_iff.2 (by omega)]
  simp
  omega
 have hS : ∀ (L : List Res) (w' : World), St w L w' → OkM Tryz.prog 52 [.int .i64 (amtV r le l[o].minutes (n : Int)), .int .i64 (b.upto - b.fr)].toArray w' (fun x : Option Addr × Nat => .tuple #[.slice x.1 n x.2, .int .i64 0]) (fun x => [Own x.1 n x.2 3 1 ((shL (amtV r le l[o].minutes (n : Int)) n).map (Value.int .i64))]) := fun L w' s => by
  rw [hn]
  exact rShare_good w' _ n hsh
 have hlen := shL_len (amtV r le l[o].minutes (n : Int)) n
 have hrow : ((shL (amtV r le l[o].minutes (n : Int)) n).map (Value.int .i64))[k * 1]? = some (.int .i64 ((shL (amtV r le l[o].minutes (n : Int)) n).getD k 0)) := by
  rw [Nat.mul_one, List.getElem?_map, List.getElem?_eq_getElem (by omega), List.getD_eq_getElem?_getD, List.getElem?_eq_getElem (by omega)]
  rfl
 have hsv : shareOf r le l bs x = (shL (amtV r le l[o].minutes (n : Int)) n).getD k 0 := by
  unfold shareOf amtF frAt
  rw [cnt_bun hB, hB, hmin, hn]
  show (shL _ ((n : Int)).toNat).getD (x.ply - b.fr).toNat 0 = _
  rw [hk, Int.toNat_natCast, Int.toNat_natCast]
 rw [hsv]
 generalize amtE r le l[o].minutes (n : Int) = ee at hAm
 generalize amtV r le l[o].minutes (n : Int) = av at hAm hS hrow hlen
 generalize shL av n = sl at hS hrow hlen
 refine ok_enter Tryz.func42 rfl Tryz.ntmps42 rfl ?_
 (refine gV ?_; refine gw_boxd (v := .agg _) rfl rfl (fun _ => ?_); refine gw_boxd (v := .agg _) rfl rfl (fun _ => ?_); refine gw_boxd (v := .agg _) rfl rfl (fun _ => ?_); refine w_alloc rfl (fun _ => ?_); refine gN ?_; refine gM ?_; refine gF ?_; refine gW (.there .here) ?_; apply gw_d; exact w_call rfl rfl (hBu _) rfl; refine gM ?_; apply gw_d; exact det_extract rfl rfl rfl (by conv => (lhs; whnf)); apply gw_d; exact det_extract rfl rfl rfl (by conv => (lhs; whnf)); refine w_alloc rfl (fun _ => ?_); refine w_store_all rfl rfl rfl rfl rfl .here rfl ?_; refine gM ?_; refine gO ?_; refine gQ ?_)
 refine gc_draw 19 (by kernel_rfl) (by kernel_rfl) ?_
 (apply gd_d; exact w_load_boxN rfl rfl rfl (.there (.there (.there .here))) rfl; apply gd_d; exact w_field rfl rfl rfl; apply gd_d; exact w_load_box rfl rfl rfl (.there (.there (.there (.there .here)))) rfl; apply gd_d; exact w_field rfl rfl rfl; apply gd_d; exact w_load_box rfl rfl rfl (.there (.there .here)) rfl; apply gd_d; exact w_index (m := o) rfl rfl rfl rfl hoo hol; apply gd_d; exact w_field rfl rfl rfl; apply gd_d; exact w_load_fld rfl rfl rfl (by assumption) (by assumption); apply gd_d; exact w_field rfl rfl rfl; apply gd_d; exact w_load_box rfl rfl rfl .here rfl; apply gd_d; exact w_field rfl rfl rfl; apply gd_d; exact w_load_box rfl rfl rfl .here rfl; apply gd_d; exact det_ar rfl rfl rfl rfl rfl (by omega); apply gd_d; exact w_call rfl rfl (hAm _) rfl; refine dM ?_; apply gd_d; exact det_extract rfl rfl rfl (by conv => (lhs; whnf)); apply gd_d; exact det_extract rfl rfl rfl (by conv => (lhs; whnf)); (iterate 2 refine dM ?_); refine gd_nil ?_; refine gN ?_; refine gM ?_; refine gF ?_; refine gW .here ?_; refine gF ?_; refine gW .here ?_; refine gA ?_)
 refine gw_callm rfl (hS _) rfl (fun y => ?_)
 obtain ⟨O, cO⟩ := y
 (refine gM ?_; apply gw_d; exact det_extract rfl rfl rfl (by conv => (lhs; whnf)); apply gw_d; exact det_extract rfl rfl rfl (by conv => (lhs; whnf)); (iterate 2 refine gM ?_); refine gO ?_; refine gQ ?_)
 refine gc_draw 16 (by kernel_rfl) (by kernel_rfl) ?_
 (refine dM ?_; apply gd_d; exact w_field rfl rfl rfl; apply gd_d; exact w_load_box rfl rfl rfl (.there (.there (.there .here))) rfl; apply gd_d; exact w_field rfl rfl rfl; apply gd_d; exact w_load_box rfl rfl rfl (.there (.there (.there .here))) rfl; apply gd_d; exact w_field rfl rfl rfl; apply gd_d; exact w_load_box rfl rfl rfl (.there (.there (.there .here))) rfl; refine dM ?_; apply gd_d; exact w_field rfl rfl rfl; apply gd_d; exact w_load_box rfl rfl rfl (.there (.there (.there .here))) rfl; apply gd_d; exact w_field rfl rfl rfl; apply gd_d; exact w_load_box rfl rfl rfl (.there .here) rfl; apply gd_d; exact det_ar rfl rfl rfl rfl rfl (by omega); apply gd_d; exact w_indexO (m := k) rfl rfl rfl rfl hk (by omega) .here; apply gd_d; exact w_loadO rfl rfl rfl .here (by omega) hrow; apply gd_d; exact w_buildP [(0, .int .i64 who), (1, .int .i64 x.tick), (2, .int .i64 x.ply), (3, .int .i64 x.op), (4, .int .i64 (sl.getD k 0))] (cells := #[.int .i64 who, .int .i64 x.tick, .int .i64 x.ply, .int .i64 x.op, .int .i64 (sl.getD k 0)]) (by kernel_rfl) rfl rfl rfl; refine gd_nil ?_; refine w_store_all rfl rfl rfl rfl rfl (.there (.there .here)) rfl ?_; refine gO ?_; refine gR ?_)
 exact gx_retc rfl rfl .here rfl fun w s => rfl
section
variable {w : World} {v0 v1 v2 v3 v4 v5 v6 vb vw vx vl : Value} {r le : Int} {s : Sty} {bs : List Bun} {ws : List Wrk} {xs : List Scn} {l : List Ret}
theorem rCharges_bad (hs : StyV w w.heap.size (.agg #[v0, v1, v2, v3, v4, v5, v6]) s) (hb : Sl rBun w w.heap.size vb bs) (hw : Sl rWrk w w.heap.size vw ws) (hx : Sl rScn w w.heap.size vx xs) (hl : Sl rRet w w.heap.size vl l) (he : ¬ chgErr r le (opCheckE s plE) bs ws xs.length l.length = 0) :
  Ok Tryz.prog 22 [.agg #[v0, v1, v2, v3, v4, v5, v6], vb, vw, vx, .agg #[.int .i64 r, .int .i64 le], vl].toArray w fun x _ => x = .tuple #[.slice none 0 0, .slice none 0 0, .int .i64 (chgErr r le (opCheckE s plE) bs ws xs.length l.length)] := by
 obtain ⟨Al, cl, rfl, hlc, hlm, _⟩ := hl.ret
 by_cases h1 : l.length > 300
 ·have hE : chgErr r le (opCheckE s plE) bs ws xs.length l.length = 5 := by unfold chgErr; rw [if_pos h1]
  rw [hE]
  refine ok_enter Tryz.func22 rfl Tryz.ntmps22 rfl ?_
  (refine gV ?_; refine gw_boxd (v := .agg _) rfl rfl (fun _ => ?_); refine gw_boxd (v := .agg _) rfl rfl (fun _ => ?_); (iterate 3 refine gM ?_); refine gO ?_; refine gQ ?_; refine gV ?_; refine gM ?_; refine gL ?_; refine gC ?_; refine gO ?_)
  refine gc_if_dec rfl (fun _ => ?_) (fun h => by omega)
  (refine gV ?_; (iterate 3 refine gM ?_); refine gO ?_; refine gR ?_; refine gT ?_)
  refine gx_ret3 (u := .slice _ _ _) (v := .slice _ _ _) (x := .int _ _) rfl rfl rfl rfl (fun _ _ => ?_)
  rfl
 by_cases h2 : judgeAllE (opCheckE s plE) bs ws xs.length = 0
 ·have hE : chgErr r le (opCheckE s plE) bs ws xs.length l.length = tarE r le := by unfold chgErr; rw [if_neg h1, if_neg (by rw [h2]; decide)]
  rw [hE] at he ⊢
  have hC : ∀ (L : List Res) (w' : World), St w L w' → Ok Tryz.prog 34 [.agg #[.int .i64 r, .int .i64 le]].toArray w' fun x _ => x = .int .i64 (tarE r le) := fun L w' _ => rCheck57_ok w' r le
  have hJ := fun (L : List Res) (w' : World) (s' : St w L w') => rJudge_ok (StyV.later s' hs) (hb.later s') (hw.later s') (hx.later s') h2
  generalize tarE r le = e at he hC
  refine ok_enter Tryz.func22 rfl Tryz.ntmps22 rfl ?_
  (refine gV ?_; refine gw_boxd (v := .agg _) rfl rfl (fun _ => ?_); refine gw_boxd (v := .agg _) rfl rfl (fun _ => ?_); (iterate 3 refine gM ?_); refine gO ?_; refine gQ ?_; refine gV ?_; refine gM ?_; refine gL ?_; refine gC ?_; refine gO ?_)
  refine gc_if_dec rfl (fun h => by omega) (fun _ => ?_)
  (refine gK ?_; refine gX ?_; refine gV ?_; apply gw_d; exact w_load_boxN rfl rfl rfl (.there .here) rfl; (iterate 3 refine gM ?_))
  refine gw_callm rfl (hJ _) rfl (fun y => ?_)
  obtain ⟨O, cO⟩ := y
  (refine gM ?_; apply gw_d; exact det_extract rfl rfl rfl (by conv => (lhs; whnf)); apply gw_d; exact det_extract rfl rfl rfl (by conv => (lhs; whnf)); (iterate 2 refine gM ?_); refine gO ?_; refine gQ ?_; refine gV ?_; refine gM ?_; refine gC ?_; refine gO ?_)
  refine gc_if_dec rfl (fun h => absurd rfl h) (fun _ => ?_)
  (refine gK ?_; refine gX ?_; refine gQ ?_; refine gV ?_; apply gw_d; exact w_load_boxN rfl rfl rfl (.there .here) rfl; apply gw_d; exact w_call rfl rfl (hC _) rfl; refine gM ?_; refine gN ?_; refine gM ?_; refine gC ?_; refine gO ?_)
  refine gc_if_dec rfl (fun _ => ?_) (fun h => absurd he h)
  (refine gV ?_; (iterate 4 refine gM ?_); refine gO ?_; refine gR ?_; refine gT ?_)
  refine gx_ret3 (u := .slice _ _ _) (v := .slice _ _ _) (x := .int _ _) rfl rfl rfl rfl (fun _ _ => ?_)
  rfl
 ·have hE : chgErr r le (opCheckE s plE) bs ws xs.length l.length = judgeAllE (opCheckE s plE) bs ws xs.length := by unfold chgErr; rw [if_neg h1, if_pos h2]
  rw [hE]
  have hJ := fun (L : List Res) (w' : World) (s' : St w L w') => rJudge_bad (StyV.later s' hs) (hb.later s') (hw.later s') (hx.later s') h2
  generalize judgeAllE (opCheckE s plE) bs ws xs.length = e at h2 hJ
  refine ok_enter Tryz.func22 rfl Tryz.ntmps22 rfl ?_
  (refine gV ?_; refine gw_boxd (v := .agg _) rfl rfl (fun _ => ?_); refine gw_boxd (v := .agg _) rfl rfl (fun _ => ?_); (iterate 3 refine gM ?_); refine gO ?_; refine gQ ?_; refine gV ?_; refine gM ?_; refine gL ?_; refine gC ?_; refine gO ?_)
  refine gc_if_dec rfl (fun h => by omega) (fun _ => ?_)
  (refine gK ?_; refine gX ?_; refine gV ?_; apply gw_d; exact w_load_boxN rfl rfl rfl (.there .here) rfl; (iterate 3 refine gM ?_); apply gw_d; exact w_call rfl rfl (hJ _) rfl; refine gM ?_; apply gw_d; exact det_extract rfl rfl rfl (by conv => (lhs; whnf)); apply gw_d; exact det_extract rfl rfl rfl (by conv => (lhs; whnf)); (iterate 2 refine gM ?_); refine gO ?_; refine gQ ?_; refine gV ?_; refine gM ?_; refine gC ?_; refine gO ?_)
  refine gc_if_dec rfl (fun _ => ?_) (fun h => absurd h2 h)
  (refine gV ?_; (iterate 4 refine gM ?_); refine gO ?_; refine gR ?_; refine gT ?_)
  refine gx_ret3 (u := .slice _ _ _) (v := .slice _ _ _) (x := .int _ _) rfl rfl rfl rfl (fun _ _ => ?_)
  rfl

theorem rCharges_ok (hs : StyV w w.heap.size (.agg #[v0, v1, v2, v3, v4, v5, v6]) s) (hb : Sl rBun w w.heap.size vb bs) (hw : Sl rWrk w w.heap.size vw ws) (hx : Sl rScn w w.heap.size vx xs) (hl : Sl rRet w w.heap.size vl l) (he : chgErr r le (opCheckE s plE) bs ws xs.length l.length = 0) :
  OkM Tryz.prog 22 [.agg #[v0, v1, v2, v3, v4, v5, v6], vb, vw, vx, .agg #[.int .i64 r, .int .i64 le], vl].toArray w
   (fun x : (Option Addr × Nat) × Option Addr × Nat => .tuple #[.slice x.1.1 (chgL r le s.ops bs (paidL s.ops ws (ticks bs) xs) l).length x.1.2, .slice x.2.1 l.length x.2.2, .int .i64 0])
   (fun x => [Own x.1.1 (chgL r le s.ops bs (paidL s.ops ws (ticks bs) xs) l).length x.1.2 57 5 ((chgL r le s.ops bs (paidL s.ops ws (ticks bs) xs) l).flatMap encC), Own x.2.1 l.length x.2.2 3 1 ((outsR (okR s.ops.length bs (paidL s.ops ws (ticks bs) xs)) [] l).map (Value.int .i64))]) := by
 obtain ⟨h300, h2, ht⟩ := chgErr_zero he
 obtain ⟨hOk, hx300⟩ := judge_zero h2
 have hPl := hOk.bundles
 have h6 := sty_ops hs
 have hC : ∀ (L : List Res) (w' : World), St w L w' → Ok Tryz.prog 34 [.agg #[.int .i64 r, .int .i64 le]].toArray w' fun x _ => x = .int .i64 0 := fun L w' _ => by
  have := rCheck57_ok w' r le
  rw [ht] at this
  exact this
 have hJ := fun (L : List Res) (w' : World) (s' : St w L w') => rJudge_ok (StyV.later s' hs) (hb.later s') (hw.later s') (hx.later s') h2
 have hol := outs_len s.ops ws (ticks bs) xs []
 have hoat := fun i (hi : i < xs.length) => outs_at (l := s.ops) (ws := ws) (tk := ticks bs) hi
 have hin := outs_in s.ops ws (ticks bs) xs []
 generalize outs s.ops ws (ticks bs) [] xs = os at hJ hol hoat hin
 have hT := fun (L L' : List Res) (w' : World) (A : Option Addr) (c : Nat) (x : Ret) (hp : Pick L (Own A xs.length c 3 1 (os.map (Value.int .i64))) L') (s' : St w L w') => rtrace58_ok (v0 := v0) (v1 := v1) (v2 := v2) (v3 := v3) (v4 := v4) (v5 := v5) x (h6.later s') (hb.later s') (hx.later s') (Sl.ownI s' hp hol.symm hin) hol hoat
 have hH := fun (L : List Res) (w' : World) (x : Ret) (b : Bun) (who : Int) (s' : St w L w') (hB : bunAt bs x.tick = some b) (hp : b.fr ≤ x.ply ∧ x.ply < b.upto) (ho : 0 ≤ x.op ∧ x.op < s.ops.length) => rcharge58_ok w' v0 v1 v2 v3 v4 v5 v6 vb r le who s.ops bs x b (h6.later s') (hb.later s') hB hp (hPl.h b (bunAt_mem hB).1) ho
 have hrep := fun (w' : World) (k : Nat) => show ∀ q ∈ (doneL (okR s.ops.length bs (paidL s.ops ws (ticks bs) xs)) (l.take k)).map (chgOf r le s.ops bs (paidL s.ops ws (ticks bs) xs)), rChg.rep w' (fun b => b < w'.heap.size) q (encC q) from fun q hq => by
  refine chg_rep (w := w') (S := fun b => b < w'.heap.size) (r := r) (le := le) (ops := s.ops) (ws := ws) hPl hx hl q ?_
  obtain ⟨x, hx1, rfl⟩ := List.mem_map.1 hq
  obtain ⟨hx2, hx3⟩ := done_mem.1 hx1
  exact List.mem_map.2 ⟨x, done_mem.2 ⟨List.mem_of_mem_take hx2, hx3⟩, rfl⟩
 obtain ⟨Ar, cr, rfl, hrc, hrm, hrcell⟩ := hl.ret
 generalize paidL s.ops ws (ticks bs) xs = ps at hT hrep ⊢
 rw [show chgL r le s.ops bs ps l = (doneL (okR s.ops.length bs ps) l).map (chgOf r le s.ops bs ps) from rfl, List.length_map]
 unfold OkM
 refine ok_enter Tryz.func22 rfl Tryz.ntmps22 rfl ?_
 (refine gV ?_; refine gw_boxd (v := .agg _) rfl rfl (fun _ => ?_); refine gw_boxd (v := .agg _) rfl rfl (fun _ => ?_); (iterate 3 refine gM ?_); refine gO ?_; refine gQ ?_; refine gV ?_; refine gM ?_; refine gL ?_; refine gC ?_; refine gO ?_)
 rename_i bS bT
 refine gc_if_dec rfl (fun h => by omega) (fun _ => ?_)
 (refine gK ?_; refine gX ?_; refine gV ?_; apply gw_d; exact w_load_boxN rfl rfl rfl (.there .here) rfl; (iterate 3 refine gM ?_))
 refine gw_callm rfl (hJ _) rfl (fun y => ?_)
 obtain ⟨O, cO⟩ := y
 (refine gM ?_; apply gw_d; exact det_extract rfl rfl rfl (by conv => (lhs; whnf)); apply gw_d; exact det_extract rfl rfl rfl (by conv => (lhs; whnf)); (iterate 2 refine gM ?_); refine gO ?_; refine gQ ?_; refine gV ?_; refine gM ?_; refine gC ?_; refine gO ?_)
 refine gc_if_dec rfl (fun h => absurd rfl h) (fun _ => ?_)
 (refine gK ?_; refine gX ?_; refine gQ ?_; refine gV ?_; apply gw_d; exact w_load_boxN rfl rfl rfl (.there .here) rfl; apply gw_d; exact w_call rfl rfl (hC _) rfl; refine gM ?_; refine gN ?_; refine gM ?_; refine gC ?_; refine gO ?_)
 refine gc_if_dec rfl (fun h => absurd rfl h) (fun _ => ?_)
 (refine gK ?_; refine gX ?_; refine gV ?_; refine gM ?_; refine gN ?_; refine gM ?_; refine gO ?_; refine gQ ?_; refine gV ?_; refine gM ?_; refine gO ?_; refine gB ?_)
 refine gc_own0 3 1 ?_
 refine gc_own0 57 5 ?_
 refine gc_loop (σ := Nat × (Option Addr × Nat) × Option Addr × Nat) [42, 43, 44, 45, 49, 50, 51, 52, 53, 54, 55, 56, 57, 48, 58, 59, 21, 22, 76, 77, 75, 78, 79, 80, 19, 82, 83, 84, 85, 86, 87, 81, 88, 89, 90, 60, 61, 62, 63, 64, 65, 66, 67, 68, 69, 70, 71, 18, 72, 73, 74, 46, 47, 20] (fun q => [(20, .int .i64 q.1), (18, .slice q.2.1.1 (doneL (okR s.ops.length bs ps) (l.take q.1)).length q.2.1.2), (19, .slice q.2.2.1 q.1 q.2.2.2)])
  (fun q => [Own q.2.1.1 (doneL (okR s.ops.length bs ps) (l.take q.1)).length q.2.1.2 57 5 (((doneL (okR s.ops.length bs ps) (l.take q.1)).map (chgOf r le s.ops bs ps)).flatMap encC), Own q.2.2.1 q.1 q.2.2.2 3 1 ((outsR (okR s.ops.length bs ps) [] (l.take q.1)).map (Value.int .i64)), Own O xs.length cO 3 1 (os.map (Value.int .i64)), Box bT 36 #[.int .i64 r, .int .i64 le], Box bS 29 #[v0, v1, v2, v3, v4, v5, v6]])
  (fun q => q.1 ≤ l.length) (fun q => l.length - q.1) (0, (none, 0), none, 0) (Nat.zero_le _) ⟨rfl, rfl, rfl, trivial⟩ (Sub.all _) ?_
 rintro ⟨k, ⟨A1, c1⟩, A2, c2⟩ base hk
 dsimp only at hk ⊢
 (refine gQ ?_; refine gV ?_; (iterate 2 refine gM ?_); refine gL ?_; refine gC ?_; refine gO ?_)
 refine gc_if_dec rfl (fun h => ?_) (fun h => ?_)
 ·have hlt : k < l.length := by omega
  obtain ⟨ad, rfl, hbk, hce, _⟩ := hrcell k hlt
  have hts : l.take (k + 1) = l.take k ++ [l[k]] := List.take_succ_eq_append_getElem hlt
  have hds := doneL_snoc (ok := okR s.ops.length bs ps) (l.take k) l[k]
  have hos := outsR_snoc (ok := okR s.ops.length bs ps) l[k] (l.take k) []
  have hdl := done_len (ok := okR s.ops.length bs ps) (l.take k)
  rw [List.length_take, Nat.min_eq_left hk] at hdl
  rw [← hts] at hds hos
  change outsR _ [] _ = _ ++ [outR _ (doneL _ _) _] at hos
  have hrepk := fun w' => hrep w' k
  generalize l[k] = x at hce hds hos
  generalize doneL (okR s.ops.length bs ps) (l.take k) = D at hdl hds hos hrepk
  generalize outsR (okR s.ops.length bs ps) [] (l.take k) = U at hos
  have hCd := fun (L L' : List Res) (w' : World) (hp : Pick L (Own A1 D.length c1 57 5 ((D.map (chgOf r le s.ops bs ps)).flatMap encC)) L') (s' : St w L w') => rcharged_ok w' (.slice A1 D.length c1) (D.map (chgOf r le s.ops bs ps)) x (Sl.own (R := rChg) (enc := encC) s' hp (by rw [List.length_map]) (hrepk w'))
  rw [isC_any] at hCd
  (refine gK ?_; refine gX ?_; refine gQ ?_; refine gB ?_; refine gQ ?_)
  refine gc_draw 14 (by kernel_rfl) (by kernel_rfl) ?_
  (apply gd_d; exact w_load_boxN rfl rfl rfl (.there (.there (.there (.there .here)))) rfl; (iterate 5 refine dM ?_); apply gd_d; exact w_index (m := k) rfl rfl rfl rfl rfl hlt; apply gd_d; exact w_load_elem rfl rfl rfl (by assumption) (by assumption) (by rfl); apply gd_d; exact w_call rfl rfl (fun w' s' => hT _ _ w' O cO x (.there (.there .here)) s') rfl; refine dM ?_; apply gd_d; exact det_extract rfl rfl rfl (by conv => (lhs; whnf)); apply gd_d; exact det_extract rfl rfl rfl (by conv => (lhs; whnf)); (iterate 2 refine dM ?_); refine gd_nil ?_; refine gO ?_; refine gB ?_; refine gV ?_; refine gM ?_; refine gC ?_; refine gM ?_; refine gO ?_)
  by_cases hE : trE s.ops.length bs ps x = 0
  ·have hok : okR s.ops.length bs ps x = true := decide_eq_true hE
   obtain ⟨b, y, hTr⟩ := trE_zero hE
   refine gc_if_dec rfl (fun h => absurd hE h) (fun _ => ?_)
   by_cases hD2 : x ∈ D
   ·have hhas : hasB D x = true := hasB_iff.2 hD2
    have hn : nextD (okR s.ops.length bs ps) D x = D := by unfold nextD; rw [if_neg (fun hc => hc.2 hD2)]
    have ho : outR (okR s.ops.length bs ps) D x = 2 := by unfold outR; rw [if_neg (by rw [hok]; decide), if_pos hD2]
    rw [hn] at hds
    rw [ho] at hos
    rw [hhas] at hCd
    (refine gV ?_; (iterate 3 refine gM ?_); apply gw_d; exact w_index (m := k) rfl rfl rfl rfl rfl hlt; apply gw_d; exact w_load_elem rfl rfl rfl (by assumption) (by assumption) (by rfl); apply gw_d; exact w_call rfl rfl (fun w' s' => hCd _ _ w' .here s') rfl; refine gM ?_; refine gO ?_)
    refine gc_if_true rfl ?_
    (refine gG ?_; refine gM ?_)
    refine gw_bslice1 (v := .int .i64 2) rfl rfl rfl rfl rfl (fun b1 => ?_)
    refine gw_append (news := [.int .i64 2]) rfl rfl rfl (.there (.there .here)) rfl (fun w' s' _ => ⟨⟨b1, 0, none⟩, rfl, fun j u hu => by rw [add_zero]; refine (Box.cell s'.head j).trans ?_; change (#[Value.int .i64 2] : Array Value)[j]? = some u; rw [List.getElem?_toArray]; exact hu⟩) (fun u hu => by rw [List.mem_singleton] at hu; subst hu; rfl) (by unfold maxLen; omega) (by omega) (by decide) rfl (fun A3 c3 => ?_)
    (refine gM ?_; refine gw_nil ?_; refine gH ?_; refine gH ?_; refine gX ?_; refine gG ?_; refine gM ?_; refine gA ?_; refine gM ?_; refine gw_nil ?_)
    refine gx_round (k + 1, (A1, c1), A3, c3) hlt (by dsimp only; omega) kK ⟨rfl, by dsimp only; rw [hds]; rfl, rfl, trivial⟩ ?_
    dsimp only
    rw [hds, hos, List.map_append]
    simp only [List.map_cons, List.map_nil]
    exact .cons (.there (.there .here)) (.cons .here (.cons (.there .here) (.cons (.there .here) (.cons (.there .here) .nil))))
   ·have hhas : hasB D x = false := by
     cases hb : hasB D x with
     | false => rfl
     | true => exact absurd (hasB_iff.1 hb) hD2
    have hn : nextD (okR s.ops.length bs ps) D x = D ++ [x] := by unfold nextD; rw [if_pos ⟨hok, hD2⟩]
    have ho : outR (okR s.ops.length bs ps) D x = 1 := by unfold outR; rw [if_neg (by rw [hok]; decide), if_neg hD2]
    rw [hn] at hds
    rw [ho] at hos
    rw [hhas] at hCd
    have hHx := fun (L : List Res) (w' : World) (s' : St w L w') => hH L w' x b (trW s.ops.length bs ps x) s' hTr.bun hTr.ply hTr.op
    (refine gV ?_; (iterate 3 refine gM ?_); apply gw_d; exact w_index (m := k) rfl rfl rfl rfl rfl hlt; apply gw_d; exact w_load_elem rfl rfl rfl (by assumption) (by assumption) (by rfl); apply gw_d; exact w_call rfl rfl (fun w' s' => hCd _ _ w' .here s') rfl; refine gM ?_; refine gO ?_)
    refine gc_if_false rfl ?_
    (refine gQ ?_)
    generalize hLr : [Own A2 k c2 3 1 (U.map (Value.int .i64)), Own O xs.length cO 3 1 (os.map (Value.int .i64)), Box bT 36 #[.int .i64 r, .int .i64 le], Box bS 29 #[v0, v1, v2, v3, v4, v5, v6]] = Lr
    obtain ⟨Lt, hpT⟩ : ∃ Lt, Pick Lr (Box bT 36 #[.int .i64 r, .int .i64 le]) Lt := by rw [← hLr]; exact ⟨_, .there (.there .here)⟩
    obtain ⟨Ls, hpS⟩ : ∃ Ls, Pick Lr (Box bS 29 #[v0, v1, v2, v3, v4, v5, v6]) Ls := by rw [← hLr]; exact ⟨_, .there (.there (.there .here))⟩
    refine gc_blockJ (P := Tryz.prog) (Nat × Option Addr × Nat) 12 (fun i => ([[], [], [], [], [], [], [], [5, 6], [5, 6, 7], [1, 2, 3, 4, 5, 6, 7, 8], [1, 2, 3, 4, 5, 6, 7, 8, 9], [0, 1, 2, 3, 4, 5, 6, 7, 8, 9, 10]] : List (List Nat)).getD i []) (fun i γ => match i with
     | 0 => .slice A1 D.length c1
     | 1 => .agg #[v0, v1, v2, v3, v4, v5, v6]
     | 2 => vb
     | 3 => .agg #[.int .i64 r, .int .i64 le]
     | 4 => .int .i64 (trW s.ops.length bs ps x)
     | 5 => .slice (some ad) l.length cr
     | 6 => .int .i64 k
     | 7 => .pointer (some (ad.add (k * 3)))
     | 8 => .agg #[.int .i64 x.tick, .int .i64 x.ply, .int .i64 x.op]
     | 9 => .agg #[.int .i64 (trW s.ops.length bs ps x), .int .i64 x.tick, .int .i64 x.ply, .int .i64 x.op, .int .i64 (shareOf r le s.ops bs x)]
     | 10 => .slice (some ⟨(γ 10).1, 0, none⟩) 1 1
     | 11 => .slice (γ 11).2.1 (D.length + 1) (γ 11).2.2
     | _ => undef) (fun ls β w' => St w ((if ls 11 = true then Own (β 11).2.1 (D.length + 1) (β 11).2.2 57 5 ((D.map (chgOf r le s.ops bs ps)).flatMap encC ++ encC (chgOf r le s.ops bs ps x)) else Own A1 D.length c1 57 5 ((D.map (chgOf r le s.ops bs ps)).flatMap encC)) :: ((if ls 10 = true then [Box (β 10).1 57 #[.int .i64 (trW s.ops.length bs ps x), .int .i64 x.tick, .int .i64 x.ply, .int .i64 x.op, .int .i64 (shareOf r le s.ops bs x)]] else []) ++ Lr)) w') rfl (by kernel_rfl) (fun w' s => s) ?_ ?_
    ·intro i o2 ls β w' hi hik hls hpl hJ'
     have hS0 : St w Lr w' := by
      have := hJ'.drop
      exact this.sublist (List.sublist_append_right _ _)
     obtain rfl | rfl | rfl | rfl | rfl | rfl | rfl | rfl | rfl | rfl | rfl | rfl : i = 0 ∨ i = 1 ∨ i = 2 ∨ i = 3 ∨ i = 4 ∨ i = 5 ∨ i = 6 ∨ i = 7 ∨ i = 8 ∨ i = 9 ∨ i = 10 ∨ i = 11 := by omega
     ·cases hi
      exact detG (det_m (v := .slice A1 D.length c1) rfl rfl rfl) rfl hS0 (fun w2 hx => ⟨default, rfl, St.ext hJ' hx⟩)
     ·cases hi
      exact detG (w_load_boxN rfl rfl rfl hpS rfl) rfl hS0 (fun w2 hx => ⟨default, rfl, St.ext hJ' hx⟩)
     ·cases hi
      exact detG (det_m (v := vb) rfl rfl rfl) rfl hS0 (fun w2 hx => ⟨default, rfl, St.ext hJ' hx⟩)
     ·cases hi
      exact detG (w_load_boxN rfl rfl rfl hpT rfl) rfl hS0 (fun w2 hx => ⟨default, rfl, St.ext hJ' hx⟩)
     ·cases hi
      exact detG (det_m (v := .int .i64 (trW s.ops.length bs ps x)) rfl rfl rfl) rfl hS0 (fun w2 hx => ⟨default, rfl, St.ext hJ' hx⟩)
     ·cases hi
      exact detG (det_m (v := .slice (some ad) l.length cr) rfl rfl rfl) rfl hS0 (fun w2 hx => ⟨default, rfl, St.ext hJ' hx⟩)
     ·cases hi
      exact detG (det_m (v := .int .i64 (k : Int)) rfl rfl rfl) rfl hS0 (fun w2 hx => ⟨default, rfl, St.ext hJ' hx⟩)
     ·cases hi
      exact detG (w_index (m := k) rfl rfl rfl rfl rfl hlt) rfl hS0 (fun w2 hx => ⟨default, rfl, St.ext hJ' hx⟩)
     ·cases hi
      exact detG (w_load_elem (cs := [.int .i64 x.tick, .int .i64 x.ply, .int .i64 x.op]) rfl rfl rfl hbk hce rfl) rfl hS0 (fun w2 hx => ⟨default, rfl, St.ext hJ' hx⟩)
     ·cases hi
      exact detG (w_call rfl rfl (hHx _) rfl) rfl hS0 (fun w2 hx => ⟨default, rfl, St.ext hJ' hx⟩)
     ·cases hi
      rw [hls] at hJ'
      refine ⟨rfl, (stepG_bslice1 (v := .agg #[.int .i64 (trW s.ops.length bs ps x), .int .i64 x.tick, .int .i64 x.ply, .int .i64 x.op, .int .i64 (shareOf r le s.ops bs x)]) rfl rfl rfl rfl hJ').mono fun u w2 hu => ?_⟩
      obtain ⟨b, hu, s2⟩ := hu
      exact ⟨(b, none, 0), hu, St.sub (.cons (.there .here) (.cons .here (Sub.all _))) s2⟩
     ·cases hi
      have h12 : ls 10 = true := hpl 10 (by decide)
      rw [hls, h12] at hJ'
      refine ⟨rfl, (stepG_append (sz := 5) (z := .agg #[.int .i64 0, .int .i64 0, .int .i64 0, .int .i64 0, .int .i64 0]) (n := D.length) (m := 1) (xs := (D.map (chgOf r le s.ops bs ps)).flatMap encC) (news := encC (chgOf r le s.ops bs ps x)) rfl rfl .here rfl (fun w3 s3 _ => ?_) (fun u hu => ?_) (by unfold maxLen; omega) (by omega) (by decide) rfl hJ').mono fun u w2 hu => ?_⟩
      ·refine ⟨⟨(β 10).1, 0, none⟩, rfl, fun i u hu => ?_⟩
       rw [add_zero]
       refine (Box.cell s3.drop.head i).trans ?_
       change (#[.int .i64 (trW s.ops.length bs ps x), .int .i64 x.tick, .int .i64 x.ply, .int .i64 x.op, .int .i64 (shareOf r le s.ops bs x)] : Array Value)[i]? = some u
       rw [List.getElem?_toArray]
       exact hu
      ·unfold encC at hu
       simp only [List.mem_cons, List.not_mem_nil, or_false] at hu
       rcases hu with rfl | rfl | rfl | rfl | rfl <;> rfl
      ·obtain ⟨A', c', hu, s2⟩ := hu
       refine ⟨(0, A', c'), hu, ?_⟩
       show St w (Own A' (D.length + 1) c' 57 5 ((D.map (chgOf r le s.ops bs ps)).flatMap encC ++ encC (chgOf r le s.ops bs ps x)) :: ((if ls 10 = true then [Box (β 10).1 57 #[.int .i64 (trW s.ops.length bs ps x), .int .i64 x.tick, .int .i64 x.ply, .int .i64 x.op, .int .i64 (shareOf r le s.ops bs x)]] else []) ++ Lr)) w2
       rw [h12]
       exact s2
    intro ls β w' hall2 hJ'
    rw [hall2 10 (by decide), hall2 11 (by decide)] at hJ'
    subst hLr
    have hJ2 : St w (Own (β 11).2.1 (D.length + 1) (β 11).2.2 57 5 ((D.map (chgOf r le s.ops bs ps)).flatMap encC ++ encC (chgOf r le s.ops bs ps x)) :: Box (β 10).1 57 #[.int .i64 (trW s.ops.length bs ps x), .int .i64 x.tick, .int .i64 x.ply, .int .i64 x.op, .int .i64 (shareOf r le s.ops bs x)] :: [Own A2 k c2 3 1 (U.map (Value.int .i64)), Own O xs.length cO 3 1 (os.map (Value.int .i64)), Box bT 36 #[.int .i64 r, .int .i64 le], Box bS 29 #[v0, v1, v2, v3, v4, v5, v6]]) w' := hJ'
    refine GW.h (P := Tryz.prog) ?_ w' hJ2
    (refine gM ?_; refine gO ?_; refine gG ?_; refine gM ?_)
    refine gw_bslice1 (v := .int .i64 1) rfl rfl rfl rfl rfl (fun b1 => ?_)
    refine gw_append (news := [.int .i64 1]) rfl rfl rfl (.there (.there (.there .here))) rfl (fun w' s' _ => ⟨⟨b1, 0, none⟩, rfl, fun j u hu => by rw [add_zero]; refine (Box.cell s'.head j).trans ?_; change (#[Value.int .i64 1] : Array Value)[j]? = some u; rw [List.getElem?_toArray]; exact hu⟩) (fun u hu => by rw [List.mem_singleton] at hu; subst hu; rfl) (by unfold maxLen; omega) (by omega) (by decide) rfl (fun A4 c4 => ?_)
    (refine gM ?_; refine gw_nil ?_; refine gH ?_; refine gH ?_; refine gX ?_; refine gG ?_; refine gM ?_; refine gA ?_; refine gM ?_; refine gw_nil ?_)
    refine gx_round (k + 1, ((β 11).2.1, (β 11).2.2), A4, c4) hlt (by dsimp only; omega) kK ⟨rfl, by dsimp only; rw [hds, List.length_append]; rfl, rfl, trivial⟩ ?_
    dsimp only
    rw [hds, hos, List.length_append, List.map_append, List.map_append, List.flatMap_append]
    have e5 : (([x].map (chgOf r le s.ops bs ps)).flatMap encC) = encC (chgOf r le s.ops bs ps x) := by simp
    rw [e5]
    simp only [List.map_cons, List.map_nil]
    exact .cons (.there (.there .here)) (.cons .here (.cons (.there (.there .here)) (.cons (.there (.there .here)) (.cons (.there (.there .here)) .nil))))
  ·have hok : okR s.ops.length bs ps x = false := decide_eq_false hE
   have hn : nextD (okR s.ops.length bs ps) D x = D := by unfold nextD; rw [if_neg (fun hc => by rw [hok] at hc; cases hc.1)]
   have ho : outR (okR s.ops.length bs ps) D x = 3 := by unfold outR; rw [if_pos hok]
   rw [hn] at hds
   rw [ho] at hos
   refine gc_if_dec rfl (fun _ => ?_) (fun h => absurd hE h)
   (refine gG ?_; refine gM ?_)
   refine gw_bslice1 (v := .int .i64 3) rfl rfl rfl rfl rfl (fun b1 => ?_)
   refine gw_append (news := [.int .i64 3]) rfl rfl rfl (.there (.there .here)) rfl (fun w' s' _ => ⟨⟨b1, 0, none⟩, rfl, fun j u hu => by rw [add_zero]; refine (Box.cell s'.head j).trans ?_; change (#[Value.int .i64 3] : Array Value)[j]? = some u; rw [List.getElem?_toArray]; exact hu⟩) (fun u hu => by rw [List.mem_singleton] at hu; subst hu; rfl) (by unfold maxLen; omega) (by omega) (by decide) rfl (fun A3 c3 => ?_)
   (refine gM ?_; refine gw_nil ?_; refine gH ?_; refine gH ?_; refine gX ?_; refine gG ?_; refine gM ?_; refine gA ?_; refine gM ?_; refine gw_nil ?_)
   refine gx_round (k + 1, (A1, c1), A3, c3) hlt (by dsimp only; omega) kK ⟨rfl, by dsimp only; rw [hds]; rfl, rfl, trivial⟩ ?_
   dsimp only
   rw [hds, hos, List.map_append]
   simp only [List.map_cons, List.map_nil]
   exact .cons (.there (.there .here)) (.cons .here (.cons (.there .here) (.cons (.there .here) (.cons (.there .here) .nil))))
 ·obtain rfl : k = l.length := by omega
  rw [List.take_length]
  (refine gI ?_; (iterate 2 refine gZ ?_); refine gJ ?_; refine gX ?_; refine gV ?_; (iterate 5 refine gM ?_); refine gO ?_; refine gR ?_)
  exact gx_ret3 (u := .slice _ _ _) (v := .slice _ _ _) (x := .int _ _) rfl rfl rfl rfl (fun w' s' => ⟨((A1, c1), A2, c2), rfl, (s'.sub (.cons .here (.cons .here .nil))).sep⟩)
end
theorem lawReturnsCharges_ok (w : World) (hL : Lay w) (v : Value) (c : Shp) (vl : Value) (l : List Ret) (hc : ShopV w v c) (hl : Sl rRet w w.heap.size vl l) : Ok Tryz.prog 6 [v, vl].toArray w fun r _ => r = .bool true := by
 have hc' := hc
 have hl' := hl
 obtain ⟨v0, v1, v2, v3, v4, v5, v6, vb, vw, vx, rfl, hs, hb, hw, hx⟩ := hc
 obtain ⟨Al, cl, rfl, hlc, hlm, hlcell⟩ := hl.ret
 have hA : ∀ (L : List Res) (w' : World), St w L w' → Ok Tryz.prog 18 [].toArray w' fun r _ => r = .bool true := fun L w' s => alive_ok w' (hL.later s)
 have hF : ∀ (L : List Res) (w' : World), St w L w' → OkM Tryz.prog 17 [.agg #[v0, v1, v2, v3, v4, v5, v6, vb, vw, vx, .int .i64 c.r, .int .i64 c.le]].toArray w' (fun b : Bool => .bool b) (fun _ => []) := fun L w' s' => light58_ok w' _ c (hc'.later s')
 refine ok_enter Tryz.func6 rfl Tryz.ntmps6 rfl ?_
 (refine gV ?_; refine gw_boxd (v := .agg _) rfl rfl (fun _ => ?_); refine gM ?_; refine gO ?_; refine gQ ?_; refine gV ?_; apply gw_d; exact w_load_boxN rfl rfl rfl .here rfl)
 refine gw_callm rfl (hF _) rfl (fun b => ?_)
 focus (apply gw_d; exact det_not_ rfl rfl rfl; refine gM ?_; refine gw_guard rfl rfl (fun _ => ?_) (fun _ => ?_); (iterate 8 refine gU ?_); refine gPp ?_; refine gO ?_; refine gc_if_true rfl ?_; refine gV ?_; apply gw_d; exact w_call rfl rfl (hA _) rfl; refine gM ?_; refine gO ?_; refine gR ?_; refine gT ?_; rotate_left; refine gM ?_; refine gL ?_; refine gC ?_; refine gM ?_; refine gD (fun _ => ?_) (fun _ => ?_); refine gM ?_; refine gL ?_; refine gC ?_; refine gPp ?_; refine gPq ?_; refine gO ?_; refine gc_if_dec rfl (fun _ => ?_) (fun _ => ?_); refine gV ?_; apply gw_d; exact w_call rfl rfl (hA _) rfl; refine gM ?_; refine gO ?_; refine gR ?_; refine gT ?_; rotate_left; refine gK ?_; refine gX ?_; refine gV ?_; apply gw_d; exact w_load_boxN rfl rfl rfl .here rfl; refine gM ?_; rotate_left; (iterate 3 refine gU ?_); (iterate 2 refine gPq ?_); refine gO ?_; refine gc_if_false rfl ?_; refine gK ?_; refine gX ?_; refine gV ?_; apply gw_d; exact w_load_boxN rfl rfl rfl .here rfl; refine gM ?_; rotate_left)
 all_goals first | (refine gb1 (fun _ _ => ?_); rfl) | skip
 all_goals (
  by_cases he : chgErr c.r c.le (opCheckE c.sty plE) c.bs c.ws c.xs.length l.length = 0
  ·obtain ⟨h300, hj, ht⟩ := chgErr_zero he
   obtain ⟨hOk, _⟩ := judge_zero hj
   have hC1 := fun (L : List Res) (w' : World) (s' : St w L w') => charges_ok (r := c.r) (le := c.le) (hL.later s') (StyV.later s' hs) (hb.later s') (hw.later s') (hx.later s') (hl'.later s') he
   have hC2 := fun (L : List Res) (w' : World) (s' : St w L w') => rCharges_ok (r := c.r) (le := c.le) (StyV.later s' hs) (hb.later s') (hw.later s') (hx.later s') (hl'.later s') he
   have hrep : ∀ (w' : World), ∀ q ∈ chgL c.r c.le c.sty.ops c.bs (paidL c.sty.ops c.ws (ticks c.bs) c.xs) l, rChg.rep w' (fun b => b < w'.heap.size) q (encC q) := fun w' => chg_rep hOk.bundles hx hl'
   have hoi := outsR_in (ok := okR c.sty.ops.length c.bs (paidL c.sty.ops c.ws (ticks c.bs) c.xs)) (xs := l) (D := [])
   have hol := outsR_len (ok := okR c.sty.ops.length c.bs (paidL c.sty.ops c.ws (ticks c.bs) c.xs)) l []
   generalize outsR (okR c.sty.ops.length c.bs (paidL c.sty.ops c.ws (ticks c.bs) c.xs)) [] l = os at hC1 hC2 hoi hol
   generalize chgL c.r c.le c.sty.ops c.bs (paidL c.sty.ops c.ws (ticks c.bs) c.xs) l = ch at hC1 hC2 hrep
   (skip)
   refine gw_callm rfl (hC1 _) rfl (fun x => ?_)
   obtain ⟨⟨A, ca⟩, bo⟩ := x
   (refine gM ?_; apply gw_d; exact det_extract rfl rfl rfl (by conv => (lhs; whnf)); apply gw_d; exact det_extract rfl rfl rfl (by conv => (lhs; whnf)); apply gw_d; exact det_extract rfl rfl rfl (by conv => (lhs; whnf)); (iterate 3 refine gM ?_); refine gN ?_; refine gF ?_; apply gw_d; exact w_load_part rfl rfl rfl (.there (.there .here)) rfl rfl; refine gF ?_; refine gW (.there (.there .here)) ?_; refine gF ?_; refine gW (.there (.there .here)) ?_; refine gF ?_; refine gW (.there (.there .here)) ?_; refine gF ?_; apply gw_d; exact w_load_part rfl rfl rfl (.there (.there .here)) rfl rfl; refine gM ?_)
   refine gw_callm rfl (hC2 _) rfl (fun x => ?_)
   obtain ⟨⟨A2, ca2⟩, B2, cb2⟩ := x
   have hS1 : ∀ (L : List Res) (w' : World), St w (Own A2 ch.length ca2 57 5 (ch.flatMap encC) :: Own B2 l.length cb2 3 1 (os.map (Value.int .i64)) :: Own A ch.length ca 57 5 (ch.flatMap encC) :: Box bo 3 (os.map (Value.int .i64)).toArray :: L) w' → Ok Tryz.prog 23 [.slice A ch.length ca, .slice A2 ch.length ca2].toArray w' fun r _ => r = .bool true := fun L w' s' => same_same s' (.there (.there .here)) .here rfl rfl rfl (hrep w')
   have hS2 : ∀ (L : List Res) (w' : World), St w (Own A2 ch.length ca2 57 5 (ch.flatMap encC) :: Own B2 l.length cb2 3 1 (os.map (Value.int .i64)) :: Own A ch.length ca 57 5 (ch.flatMap encC) :: Box bo 3 (os.map (Value.int .i64)).toArray :: L) w' → Ok Tryz.prog 24 [.slice (some ⟨bo, 0, none⟩) l.length l.length, .slice B2 l.length cb2].toArray w' fun r _ => r = .bool true := fun L w' s' => by
    have := sameInts_ok w' _ _ os os (Sl.boxI' s'.drop.drop.drop.head hol.symm (by omega) hoi) (Sl.ownI s' (.there .here) hol.symm hoi)
    simpa using this
   (refine gM ?_; apply gw_d; exact det_extract rfl rfl rfl (by conv => (lhs; whnf)); apply gw_d; exact det_extract rfl rfl rfl (by conv => (lhs; whnf)); apply gw_d; exact det_extract rfl rfl rfl (by conv => (lhs; whnf)); (iterate 3 refine gM ?_); refine gN ?_; (iterate 2 refine gM ?_); apply gw_d; exact w_call rfl rfl (hS1 _) rfl; (iterate 3 refine gM ?_); apply gw_d; exact w_call rfl rfl (hS2 _) rfl; refine gPp ?_; (iterate 3 refine gM ?_); refine gC ?_; refine gPp ?_; refine gM ?_; apply gw_d; exact w_call rfl rfl (hA _) rfl; refine gPp ?_; refine gM ?_; refine gO ?_; refine gR ?_)
   refine gb1 (fun _ _ => ?_)
   rfl
  ·have hC1 := fun (L : List Res) (w' : World) (s' : St w L w') => charges_bad (r := c.r) (le := c.le) (hL.later s') (StyV.later s' hs) (hb.later s') (hw.later s') (hx.later s') (hl'.later s') he
   have hC2 := fun (L : List Res) (w' : World) (s' : St w L w') => rCharges_bad (r := c.r) (le := c.le) (StyV.later s' hs) (hb.later s') (hw.later s') (hx.later s') (hl'.later s') he
   generalize chgErr c.r c.le (opCheckE c.sty plE) c.bs c.ws c.xs.length l.length = er at he hC1 hC2
   (apply gw_d; exact w_call rfl rfl (hC1 _) rfl; refine gM ?_; apply gw_d; exact det_extract rfl rfl rfl (by conv => (lhs; whnf)); apply gw_d; exact det_extract rfl rfl rfl (by conv => (lhs; whnf)); apply gw_d; exact det_extract rfl rfl rfl (by conv => (lhs; whnf)); (iterate 3 refine gM ?_); refine gN ?_; refine gF ?_; apply gw_d; exact w_load_part rfl rfl rfl .here rfl rfl; refine gF ?_; refine gW .here ?_; refine gF ?_; refine gW .here ?_; refine gF ?_; refine gW .here ?_; refine gF ?_; apply gw_d; exact w_load_part rfl rfl rfl .here rfl rfl; refine gM ?_; apply gw_d; exact w_call rfl rfl (hC2 _) rfl; refine gM ?_; apply gw_d; exact det_extract rfl rfl rfl (by conv => (lhs; whnf)); apply gw_d; exact det_extract rfl rfl rfl (by conv => (lhs; whnf)); apply gw_d; exact det_extract rfl rfl rfl (by conv => (lhs; whnf)); (iterate 3 refine gM ?_); refine gN ?_; (iterate 2 refine gM ?_))
   focus (apply gw_d; exact w_call rfl rfl (fun w _ => same_nil w) rfl; (iterate 3 refine gM ?_); apply gw_d; exact w_call rfl rfl (fun w _ => sameI_nil w) rfl; refine gPp ?_; (iterate 3 refine gM ?_); refine gC ?_; refine gPp ?_; refine gM ?_; refine gD (fun _ => ?_) (fun _ => ?_); apply gw_d; exact w_call rfl rfl (hA _) rfl; refine gPp ?_; refine gM ?_; refine gO ?_; refine gR ?_; rotate_left; refine gU ?_; refine gPq ?_; refine gM ?_; refine gO ?_; refine gR ?_; rotate_left)
   all_goals first | (exfalso; rename_i hne; exact hne rfl) | skip
   all_goals (refine gb1 (fun _ _ => ?_); rfl))
open Go.ChangeShapes Go.WideShapes Go.ChangeAt Go.RowKit
section
variable {H : Type} {enc : TypeId × Value → H} {w : World} {base : Nat} {spare : Nat → Bool} {held : Bool}
theorem tariff_trod {n : Nat} {cs : List Value} {x : DataW H × List MemPlace} (hl : cs.length = 2) (h : DataW.trod enc Tryz.prog w base spare held n 36 cs = some x) : ∃ r l, cs = [.int .i64 r, .int .i64 l] ∧ inI64 r ∧ inI64 l := by
 match cs, hl with
 | [c0, c1], _ =>
  obtain ⟨_, _, h0⟩ := field_trod (i := 0) (ft := 3) h (by kernel_rfl) rfl
  obtain ⟨_, _, h1⟩ := field_trod (i := 1) (ft := 3) h (by kernel_rfl) rfl
  obtain ⟨i0, rfl, hi0⟩ := int_trod (by kernel_rfl) h0
  obtain ⟨i1, rfl, hi1⟩ := int_trod (by kernel_rfl) h1
  exact ⟨i0, i1, rfl, hi0, hi1⟩
end
theorem gTab : Tryz.prog.globalNamed "garment/wage.bounds" = some 0 := by kernel_rfl
theorem gTabType : (Tryz.prog.globals[0]?).map (·.type) = some 76 := by kernel_rfl
theorem cellsTab : Tryz.prog.cellsOf 76 = 2 := by kernel_rfl
theorem cellsInt : Tryz.prog.cellsOf 3 = 1 := by kernel_rfl
/-- What the row's list gives. -/
theorem lay_of {W : World} (h : laidMetH Tryz.prog [("garment/wage.bounds", .agg [.lit (.int .i64 100000), .lit (.int .i64 1073741824)])] W) : Lay W := by
 have ht : Lib.TabIs Tryz.prog W "garment/wage.bounds" .i64 [100000, 1073741824] := Lib.tabIs_of_head (rest := []) gTab gTabType (by kernel_rfl) (by kernel_rfl) cellsInt cellsTab h
 have c0 : W.cell? ⟨0, 0, none⟩ = some (.int .i64 100000) := ht.cell gTab 0 (by decide)
 have c1 : W.cell? ⟨0, 1, none⟩ = some (.int .i64 1073741824) := ht.cell gTab 1 (by decide)
 exact ⟨cell_lt c0, c0, c1⟩
open Go.ChangeShapes Go.WideShapes Go.ChangeAt Go.RowKit
section
variable {H : Type} {enc : TypeId × Value → H} {w : World} {base : Nat} {spare : Nat → Bool} {held : Bool}
theorem ints23 {n : Nat} {c : Value} {x : DataW H × List MemPlace} (h : DataW.trod enc Tryz.prog w base spare held n 23 [c] = some x) : ∃ l, Sl rInt w w.heap.size c l :=
 ints_trod (e := 3) (by kernel_rfl) (by kernel_rfl) (by kernel_rfl) h
theorem op_trod {n : Nat} {cs : List Value} {x : DataW H × List MemPlace} (hl : cs.length = 5) (h : DataW.trod enc Tryz.prog w base spare held n 55 cs = some x) : ∃ o, rOp.rep w (fun b => b < w.heap.size) o cs := by
 match cs, hl with
 | [c0, c1, c2, c3, c4], _ =>
  obtain ⟨_, _, h0⟩ := field_trod (i := 0) (ft := 9) h (by kernel_rfl) rfl
  obtain ⟨_, _, h1⟩ := field_trod (i := 1) (ft := 3) h (by kernel_rfl) rfl
  obtain ⟨_, _, h2⟩ := field_trod (i := 2) (ft := 3) h (by kernel_rfl) rfl
  obtain ⟨_, _, h3⟩ := field_trod (i := 3) (ft := 23) h (by kernel_rfl) rfl
  obtain ⟨_, _, h4⟩ := field_trod (i := 4) (ft := 23) h (by kernel_rfl) rfl
  obtain ⟨s, rfl, hs⟩ := str_trod (by kernel_rfl) h0
  obtain ⟨i1, rfl, hi1⟩ := int_trod (by kernel_rfl) h1
  obtain ⟨i2, rfl, hi2⟩ := int_trod (by kernel_rfl) h2
  obtain ⟨la, ha⟩ := ints23 h3
  obtain ⟨lu, hu⟩ := ints23 h4
  obtain ⟨Aa, ca, rfl, _⟩ := len_small ha
  obtain ⟨Au, cu, rfl, _⟩ := len_small hu
  exact ⟨⟨s, i1, i2, la, lu⟩, Aa, ca, Au, cu, rfl, ⟨hs, hi1, hi2⟩, ha, hu⟩
theorem ops_trod {n : Nat} {c : Value} {x : DataW H × List MemPlace} (h : DataW.trod enc Tryz.prog w base spare held n 27 [c] = some x) : ∃ l, Sl rOp w w.heap.size c l :=
 sl_of_trod (R := rOp) (e := 55) (by kernel_rfl) (by kernel_rfl) (by decide) (fun _ _ _ hl hy => op_trod hl hy) h
end
open Go.ChangeShapes Go.WideShapes Go.ChangeAt Go.RowKit
section
variable {H : Type} {enc : TypeId × Value → H} {P : Program} {w : World} {base : Nat} {spare : Nat → Bool} {held : Bool}
/-- The type of a field of k cells, at its place. -/
def fieldK (P : Program) (e : TypeId) (i o k : Nat) : Option TypeId := match P.underlying e with
 | some (.struct fs) => match fs[i]? with
  | some f => bif Nat.beq f.offset o && Nat.beq (P.cellsOf f.type) k then some f.type else none
  | none => none
 | _ => none
theorem fieldK_trod {e ft : TypeId} {i o k n : Nat} {cs ds : List Value} {x : DataW H × List MemPlace} (h : DataW.trod enc P w base spare held n e cs = some x) (hf : fieldK P e i o k = some ft) (hc : (cs.drop o).take k = ds) :
  ∃ m y, DataW.trod enc P w base spare held m ft ds = some y := by
 unfold fieldK at hf
 split at hf
 ·rename_i fs hu
  split at hf
  ·rename_i f hfi
   cases hb : (Nat.beq f.offset o && Nat.beq (P.cellsOf f.type) k) with
   | false => rw [hb] at hf; cases hf
   | true =>
    rw [hb] at hf
    simp only [cond_true, Option.some.injEq] at hf
    subst hf
    rw [Bool.and_eq_true] at hb
    have h1 : f.offset = o := Nat.eq_of_beq_eq_true hb.1
    have h2 : P.cellsOf f.type = k := Nat.eq_of_beq_eq_true hb.2
    obtain ⟨xs, m, _, _, _, hlen, hg⟩ := DataW.trod_struct hu h
    have h3 := hg i f hfi
    have hi : i < fs.size := (Array.getElem?_eq_some_iff.1 hfi).1
    rw [h1, h2, List.getElem?_eq_getElem (by omega), hc] at h3
    exact ⟨m, _, h3⟩
  ·cases hf
 ·cases hf
end
section
variable {H : Type} {enc : TypeId × Value → H} {w : World} {base : Nat} {spare : Nat → Bool} {held : Bool}
theorem strs_trod {n : Nat} {c : Value} {x : DataW H × List MemPlace} (h : DataW.trod enc Tryz.prog w base spare held n 22 [c] = some x) : ∃ l, Sl rStr w w.heap.size c l :=
 sl_of_trod (R := rStr) (e := 9) (by kernel_rfl) (by kernel_rfl) (by decide) (fun _ cs _ hl hy => by
  match cs, hl with
  | [c0], _ =>
   obtain ⟨s, rfl, hs⟩ := str_trod (by kernel_rfl) hy
   exact ⟨s, rfl, hs⟩) h
theorem spots_trod {n : Nat} {c : Value} {x : DataW H × List MemPlace} (h : DataW.trod enc Tryz.prog w base spare held n 107 [c] = some x) : ∃ l, Sl rSpot w w.heap.size c l :=
 sl_of_trod (R := rSpot) (e := 106) (by kernel_rfl) (by kernel_rfl) (by decide) (fun _ cs _ hl hy => by
  match cs, hl with
  | [c0, c1], _ =>
   obtain ⟨_, _, h0⟩ := field_trod (i := 0) (ft := 3) hy (by kernel_rfl) rfl
   obtain ⟨_, _, h1⟩ := field_trod (i := 1) (ft := 3) hy (by kernel_rfl) rfl
   obtain ⟨i0, rfl, hi0⟩ := int_trod (by kernel_rfl) h0
   obtain ⟨i1, rfl, hi1⟩ := int_trod (by kernel_rfl) h1
   exact ⟨(i0, i1), rfl, hi0, hi1⟩) h
theorem notches_trod {n : Nat} {c : Value} {x : DataW H × List MemPlace} (h : DataW.trod enc Tryz.prog w base spare held n 111 [c] = some x) : ∃ l, Sl rSpot w w.heap.size c l :=
 sl_of_trod (R := rSpot) (e := 183) (by kernel_rfl) (by kernel_rfl) (by decide) (fun _ cs _ hl hy => by
  match cs, hl with
  | [c0, c1], _ =>
   obtain ⟨_, _, h0⟩ := field_trod (i := 0) (ft := 3) hy (by kernel_rfl) rfl
   obtain ⟨_, _, h1⟩ := field_trod (i := 1) (ft := 3) hy (by kernel_rfl) rfl
   obtain ⟨i0, rfl, hi0⟩ := int_trod (by kernel_rfl) h0
   obtain ⟨i1, rfl, hi1⟩ := int_trod (by kernel_rfl) h1
   exact ⟨(i0, i1), rfl, hi0, hi1⟩) h
theorem edges_trod {n : Nat} {c : Value} {x : DataW H × List MemPlace} (h : DataW.trod enc Tryz.prog w base spare held n 110 [c] = some x) : ∃ l, Sl rEdge w w.heap.size c l :=
 sl_of_trod (R := rEdge) (e := 109) (by kernel_rfl) (by kernel_rfl) (by decide) (fun _ cs _ hl hy => by
  match cs, hl with
  | [c0, c1], _ =>
   obtain ⟨_, _, h0⟩ := field_trod (i := 0) (ft := 9) hy (by kernel_rfl) rfl
   obtain ⟨_, _, h1⟩ := field_trod (i := 1) (ft := 107) hy (by kernel_rfl) rfl
   obtain ⟨s, rfl, hs⟩ := str_trod (by kernel_rfl) h0
   obtain ⟨l, hl⟩ := spots_trod h1
   exact ⟨(s, l), c1, rfl, hs, hl⟩) h
theorem piece_trod {n : Nat} {cs : List Value} {x : DataW H × List MemPlace} (hl : cs.length = 7) (h : DataW.trod enc Tryz.prog w base spare held n 113 cs = some x) : ∃ o, rPiece.rep w (fun b => b < w.heap.size) o cs := by
 match cs, hl with
 | [c0, c1, c2, c3, c4, c5, c6], _ =>
  obtain ⟨_, _, h0⟩ := field_trod (i := 0) (ft := 9) h (by kernel_rfl) rfl
  obtain ⟨_, _, h1⟩ := field_trod (i := 1) (ft := 110) h (by kernel_rfl) rfl
  obtain ⟨_, _, h2⟩ := field_trod (i := 2) (ft := 3) h (by kernel_rfl) rfl
  obtain ⟨_, _, h3⟩ := field_trod (i := 3) (ft := 111) h (by kernel_rfl) rfl
  obtain ⟨_, _, h4⟩ := field_trod (i := 4) (ft := 107) h (by kernel_rfl) rfl
  obtain ⟨_, _, h5⟩ := field_trod (i := 5) (ft := 23) h (by kernel_rfl) rfl
  obtain ⟨_, _, h6⟩ := field_trod (i := 6) (ft := 4) h (by kernel_rfl) rfl
  obtain ⟨s, rfl, hs⟩ := str_trod (by kernel_rfl) h0
  obtain ⟨le, he⟩ := edges_trod h1
  obtain ⟨i2, rfl, hi2⟩ := int_trod (by kernel_rfl) h2
  obtain ⟨ln, hn⟩ := notches_trod h3
  obtain ⟨lc, hc⟩ := spots_trod h4
  obtain ⟨lw, hw⟩ := ints23 h5
  obtain ⟨b6, rfl⟩ := bool_trod (by kernel_rfl) h6
  obtain ⟨Ae, ce, rfl, _⟩ := len_small he
  obtain ⟨An, cn, rfl, _⟩ := len_small hn
  obtain ⟨Ac, cc, rfl, _⟩ := len_small hc
  obtain ⟨Aw, cw, rfl, _⟩ := len_small hw
  exact ⟨⟨s, le, i2, ln, lc, lw, b6⟩, Ae, ce, An, cn, Ac, cc, Aw, cw, rfl, ⟨hs, hi2⟩, he, hn, hc, hw⟩
theorem use_trod {n : Nat} {cs : List Value} {x : DataW H × List MemPlace} (hl : cs.length = 3) (h : DataW.trod enc Tryz.prog w base spare held n 115 cs = some x) : ∃ o, rUse.rep w (fun b => b < w.heap.size) o cs := by
 match cs, hl with
 | [c0, c1, c2], _ =>
  obtain ⟨_, _, h0⟩ := field_trod (i := 0) (ft := 3) h (by kernel_rfl) rfl
  obtain ⟨_, _, h1⟩ := field_trod (i := 1) (ft := 3) h (by kernel_rfl) rfl
  obtain ⟨_, _, h2⟩ := field_trod (i := 2) (ft := 4) h (by kernel_rfl) rfl
  obtain ⟨i0, rfl, hi0⟩ := int_trod (by kernel_rfl) h0
  obtain ⟨i1, rfl, hi1⟩ := int_trod (by kernel_rfl) h1
  obtain ⟨b2, rfl⟩ := bool_trod (by kernel_rfl) h2
  exact ⟨(i0, i1, b2), rfl, hi0, hi1⟩
theorem seam_trod {n : Nat} {cs : List Value} {x : DataW H × List MemPlace} (hl : cs.length = 6) (h : DataW.trod enc Tryz.prog w base spare held n 163 cs = some x) : ∃ o, rSeam.rep w (fun b => b < w.heap.size) o cs := by
 match cs, hl with
 | [c0, c1, c2, c3, c4, c5], _ =>
  obtain ⟨_, _, h0⟩ := field_trod (i := 0) (ft := 3) h (by kernel_rfl) rfl
  obtain ⟨_, _, h1⟩ := field_trod (i := 1) (ft := 3) h (by kernel_rfl) rfl
  obtain ⟨_, _, h2⟩ := field_trod (i := 2) (ft := 3) h (by kernel_rfl) rfl
  obtain ⟨_, _, h3⟩ := field_trod (i := 3) (ft := 3) h (by kernel_rfl) rfl
  obtain ⟨_, _, h4⟩ := field_trod (i := 4) (ft := 4) h (by kernel_rfl) rfl
  obtain ⟨_, _, h5⟩ := field_trod (i := 5) (ft := 3) h (by kernel_rfl) rfl
  obtain ⟨i0, rfl, hi0⟩ := int_trod (by kernel_rfl) h0
  obtain ⟨i1, rfl, hi1⟩ := int_trod (by kernel_rfl) h1
  obtain ⟨i2, rfl, hi2⟩ := int_trod (by kernel_rfl) h2
  obtain ⟨i3, rfl, hi3⟩ := int_trod (by kernel_rfl) h3
  obtain ⟨b4, rfl⟩ := bool_trod (by kernel_rfl) h4
  obtain ⟨i5, rfl, hi5⟩ := int_trod (by kernel_rfl) h5
  exact ⟨(i0, i1, i2, i3, b4, i5), rfl⟩
theorem sty_trod {n : Nat} {cs : List Value} {x : DataW H × List MemPlace} (hl : cs.length = 7) (h : DataW.trod enc Tryz.prog w base spare held n 29 cs = some x) : ∃ s, StyV w w.heap.size (.agg cs.toArray) s := by
 match cs, hl with
 | [c0, c1, c2, c3, c4, c5, c6], _ =>
  obtain ⟨_, _, h0⟩ := field_trod (i := 0) (ft := 9) h (by kernel_rfl) rfl
  obtain ⟨_, _, h1⟩ := field_trod (i := 1) (ft := 22) h (by kernel_rfl) rfl
  obtain ⟨_, _, h2⟩ := field_trod (i := 2) (ft := 23) h (by kernel_rfl) rfl
  obtain ⟨_, _, h3⟩ := field_trod (i := 3) (ft := 24) h (by kernel_rfl) rfl
  obtain ⟨_, _, h4⟩ := field_trod (i := 4) (ft := 25) h (by kernel_rfl) rfl
  obtain ⟨_, _, h5⟩ := field_trod (i := 5) (ft := 26) h (by kernel_rfl) rfl
  obtain ⟨_, _, h6⟩ := field_trod (i := 6) (ft := 27) h (by kernel_rfl) rfl
  obtain ⟨s, rfl, hs⟩ := str_trod (by kernel_rfl) h0
  obtain ⟨l1, k1⟩ := strs_trod h1
  obtain ⟨l2, k2⟩ := ints23 h2
  obtain ⟨l3, k3⟩ := sl_of_trod (R := rPiece) (e := 113) (by kernel_rfl) (by kernel_rfl) (by decide) (fun _ _ _ hl hy => piece_trod hl hy) h3
  obtain ⟨l4, k4⟩ := sl_of_trod (R := rUse) (e := 115) (by kernel_rfl) (by kernel_rfl) (by decide) (fun _ _ _ hl hy => use_trod hl hy) h4
  obtain ⟨l5, k5⟩ := sl_of_trod (R := rSeam) (e := 163) (by kernel_rfl) (by kernel_rfl) (by decide) (fun _ _ _ hl hy => seam_trod hl hy) h5
  obtain ⟨l6, k6⟩ := ops_trod h6
  obtain ⟨A1, d1, rfl, _⟩ := len_small k1
  obtain ⟨A2, d2, rfl, _⟩ := len_small k2
  obtain ⟨A3, d3, rfl, _⟩ := len_small k3
  obtain ⟨A4, d4, rfl, _⟩ := len_small k4
  obtain ⟨A5, d5, rfl, _⟩ := len_small k5
  obtain ⟨A6, d6, rfl, _⟩ := len_small k6
  exact ⟨⟨s, l1, l2, l3, l4, l5, l6⟩, A1, d1, A2, d2, A3, d3, A4, d4, A5, d5, A6, d6, rfl, hs, k1, k2, k3, k4, k5, k6⟩
end
open Go.ChangeShapes Go.WideShapes Go.ChangeAt Go.RowKit
section
variable {H : Type} {enc : TypeId × Value → H} {w : World} {base : Nat} {spare : Nat → Bool} {held : Bool}
theorem bun_trod {n : Nat} {cs : List Value} {x : DataW H × List MemPlace} (hl : cs.length = 6) (h : DataW.trod enc Tryz.prog w base spare held n 44 cs = some x) : ∃ o, rBun.rep w (fun b => b < w.heap.size) o cs := by
 match cs, hl with
 | [c0, c1, c2, c3, c4, c5], _ =>
  obtain ⟨_, _, h0⟩ := field_trod (i := 0) (ft := 3) h (by kernel_rfl) rfl
  obtain ⟨_, _, h1⟩ := field_trod (i := 1) (ft := 3) h (by kernel_rfl) rfl
  obtain ⟨_, _, h2⟩ := field_trod (i := 2) (ft := 3) h (by kernel_rfl) rfl
  obtain ⟨_, _, h3⟩ := field_trod (i := 3) (ft := 3) h (by kernel_rfl) rfl
  obtain ⟨_, _, h4⟩ := field_trod (i := 4) (ft := 3) h (by kernel_rfl) rfl
  obtain ⟨_, _, h5⟩ := field_trod (i := 5) (ft := 3) h (by kernel_rfl) rfl
  obtain ⟨i0, rfl, hi0⟩ := int_trod (by kernel_rfl) h0
  obtain ⟨i1, rfl, hi1⟩ := int_trod (by kernel_rfl) h1
  obtain ⟨i2, rfl, hi2⟩ := int_trod (by kernel_rfl) h2
  obtain ⟨i3, rfl, hi3⟩ := int_trod (by kernel_rfl) h3
  obtain ⟨i4, rfl, hi4⟩ := int_trod (by kernel_rfl) h4
  obtain ⟨i5, rfl, hi5⟩ := int_trod (by kernel_rfl) h5
  exact ⟨⟨i0, i1, i2, i3, i4, i5⟩, rfl, hi0, hi4, hi5⟩
theorem wrk_trod {n : Nat} {cs : List Value} {x : DataW H × List MemPlace} (hl : cs.length = 2) (h : DataW.trod enc Tryz.prog w base spare held n 85 cs = some x) : ∃ o, rWrk.rep w (fun b => b < w.heap.size) o cs := by
 match cs, hl with
 | [c0, c1], _ =>
  obtain ⟨_, _, h0⟩ := field_trod (i := 0) (ft := 9) h (by kernel_rfl) rfl
  obtain ⟨_, _, h1⟩ := field_trod (i := 1) (ft := 23) h (by kernel_rfl) rfl
  obtain ⟨s, rfl, hs⟩ := str_trod (by kernel_rfl) h0
  obtain ⟨l1, k1⟩ := ints23 h1
  obtain ⟨A1, d1, rfl, _⟩ := len_small k1
  exact ⟨⟨s, l1⟩, A1, d1, rfl, hs, k1⟩
theorem scn_trod {n : Nat} {cs : List Value} {x : DataW H × List MemPlace} (hl : cs.length = 4) (h : DataW.trod enc Tryz.prog w base spare held n 51 cs = some x) : ∃ o, rScn.rep w (fun b => b < w.heap.size) o cs := by
 match cs, hl with
 | [c0, c1, c2, c3], _ =>
  obtain ⟨_, _, h0⟩ := field_trod (i := 0) (ft := 3) h (by kernel_rfl) rfl
  obtain ⟨_, _, h1⟩ := field_trod (i := 1) (ft := 3) h (by kernel_rfl) rfl
  obtain ⟨_, _, h2⟩ := field_trod (i := 2) (ft := 3) h (by kernel_rfl) rfl
  obtain ⟨_, _, h3⟩ := field_trod (i := 3) (ft := 3) h (by kernel_rfl) rfl
  obtain ⟨i0, rfl, hi0⟩ := int_trod (by kernel_rfl) h0
  obtain ⟨i1, rfl, hi1⟩ := int_trod (by kernel_rfl) h1
  obtain ⟨i2, rfl, hi2⟩ := int_trod (by kernel_rfl) h2
  obtain ⟨i3, rfl, hi3⟩ := int_trod (by kernel_rfl) h3
  exact ⟨⟨i0, i1, i2, i3⟩, rfl, hi0, hi1, hi2, hi3⟩
end
open Go.ChangeShapes Go.WideShapes Go.ChangeAt Go.RowKit
section
variable {H : Type} {enc : TypeId × Value → H} {w : World} {base : Nat} {spare : Nat → Bool} {held : Bool}
theorem ret_trod {n : Nat} {cs : List Value} {x : DataW H × List MemPlace} (hl : cs.length = 3) (h : DataW.trod enc Tryz.prog w base spare held n 46 cs = some x) : ∃ o, rRet.rep w (fun b => b < w.heap.size) o cs := by
 match cs, hl with
 | [c0, c1, c2], _ =>
  obtain ⟨_, _, h0⟩ := field_trod (i := 0) (ft := 3) h (by kernel_rfl) rfl
  obtain ⟨_, _, h1⟩ := field_trod (i := 1) (ft := 3) h (by kernel_rfl) rfl
  obtain ⟨_, _, h2⟩ := field_trod (i := 2) (ft := 3) h (by kernel_rfl) rfl
  obtain ⟨i0, rfl, hi0⟩ := int_trod (by kernel_rfl) h0
  obtain ⟨i1, rfl, hi1⟩ := int_trod (by kernel_rfl) h1
  obtain ⟨i2, rfl, hi2⟩ := int_trod (by kernel_rfl) h2
  exact ⟨⟨i0, i1, i2⟩, rfl, hi0, hi1, hi2⟩
theorem rets_Trod {v : Value} {d : DataW H} {p : List MemPlace} {A : Option Addr} {n c : Nat} (hv : v = .slice A n c) (h : DataW.Trod enc Tryz.prog w base spare held 42 v d p) : ∃ l, Sl rRet w w.heap.size v l := by
 subst hv
 obtain ⟨fuel, hf⟩ := h
 exact sl_of_trod (R := rRet) (e := 46) (by kernel_rfl) (by kernel_rfl) (by decide) (fun _ _ _ hl hy => ret_trod hl hy) hf
theorem shop_trod {n : Nat} {cs : List Value} {x : DataW H × List MemPlace} (hl : cs.length = 12) (h : DataW.trod enc Tryz.prog w base spare held n 65 cs = some x) : ∃ c, ShopV w (.agg cs.toArray) c := by
 match cs, hl with
 | [c0, c1, c2, c3, c4, c5, c6, c7, c8, c9, c10, c11], _ =>
  obtain ⟨_, _, h0⟩ := fieldK_trod (i := 0) (o := 0) (k := 7) (ft := 29) h (by kernel_rfl) rfl
  obtain ⟨_, _, h1⟩ := fieldK_trod (i := 1) (o := 7) (k := 1) (ft := 30) h (by kernel_rfl) rfl
  obtain ⟨_, _, h2⟩ := fieldK_trod (i := 2) (o := 8) (k := 1) (ft := 31) h (by kernel_rfl) rfl
  obtain ⟨_, _, h3⟩ := fieldK_trod (i := 3) (o := 9) (k := 1) (ft := 32) h (by kernel_rfl) rfl
  obtain ⟨_, _, h4⟩ := fieldK_trod (i := 4) (o := 10) (k := 2) (ft := 36) h (by kernel_rfl) rfl
  obtain ⟨s, hs⟩ := sty_trod rfl h0
  obtain ⟨l1, k1⟩ := sl_of_trod (R := rBun) (e := 44) (by kernel_rfl) (by kernel_rfl) (by decide) (fun _ _ _ hl hy => bun_trod hl hy) h1
  obtain ⟨l2, k2⟩ := sl_of_trod (R := rWrk) (e := 85) (by kernel_rfl) (by kernel_rfl) (by decide) (fun _ _ _ hl hy => wrk_trod hl hy) h2
  obtain ⟨l3, k3⟩ := sl_of_trod (R := rScn) (e := 51) (by kernel_rfl) (by kernel_rfl) (by decide) (fun _ _ _ hl hy => scn_trod hl hy) h3
  obtain ⟨r, le, ht, _, _⟩ := tariff_trod rfl h4
  injection ht with e1 e2
  injection e2 with e2
  subst e1 e2
  exact ⟨⟨s, l1, l2, l3, r, le⟩, c0, c1, c2, c3, c4, c5, c6, c7, c8, c9, rfl, hs, k1, k2, k3⟩
theorem shop_Trod {v : Value} {d : DataW H} {p : List MemPlace} {cs : Array Value} (hv : v = .agg cs) (hn : cs.size = 12) (h : DataW.Trod enc Tryz.prog w base spare held 65 v d p) : ∃ c, ShopV w v c := by
 subst hv
 obtain ⟨fuel, hf⟩ := h
 exact shop_trod (cs := cs.toList) (by simpa using hn) hf
end
end Go.Proofs.YtckhibfbdnoigaaGreatDoor
