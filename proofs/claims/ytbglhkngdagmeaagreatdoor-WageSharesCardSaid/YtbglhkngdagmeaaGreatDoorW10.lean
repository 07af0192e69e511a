/- The examples of the chapter 57: a case of two operations. -/
import Derived.Test.YtbglhkngdagmeaaGreatDoorW9
import Derived.Test.YtbglhkngdagmeaaGreatDoorW3
import Derived.Test.YtbglhkngdagmeaaGreatDoorC23
namespace Go.Proofs.YtbglhkngdagmeaaGreatDoor
open Go.RowKit
set_option maxRecDepth 100000
set_option maxHeartbeats 8000000

def sHem : ByteArray := ⟨#[104, 101, 109]⟩
def sPress : ByteArray := ⟨#[112, 114, 101, 115, 115]⟩
def sBack : ByteArray := ⟨#[98, 97, 99, 107]⟩
def sVest : ByteArray := ⟨#[118, 101, 115, 116]⟩
def sAnn : ByteArray := ⟨#[97, 110, 110]⟩
def sS : ByteArray := ⟨#[83]⟩
def sA : ByteArray := ⟨#[97]⟩
def sB : ByteArray := ⟨#[98]⟩
def twoV (x : Nat → Nat) : Value := .agg #[.string sVest, .slice (some ⟨x 6, 0, none⟩) 1 1, .slice (some ⟨x 7, 0, none⟩) 1 1, .slice (some ⟨x 8, 0, none⟩) 1 1, .slice (some ⟨x 9, 0, none⟩) 1 1, .slice none 0 0, .slice (some ⟨x 12, 0, none⟩) 2 2, .slice (some ⟨x 13, 0, none⟩) 1 1, .slice (some ⟨x 15, 0, none⟩) 1 1, .slice (some ⟨x 16, 0, none⟩) 3 3]
def twoStyV (x : Nat → Nat) : Value := .agg #[.string sVest, .slice (some ⟨x 6, 0, none⟩) 1 1, .slice (some ⟨x 7, 0, none⟩) 1 1, .slice (some ⟨x 8, 0, none⟩) 1 1, .slice (some ⟨x 9, 0, none⟩) 1 1, .slice none 0 0, .slice (some ⟨x 12, 0, none⟩) 2 2]
def twoR (x : Nat → Nat) : List Res := [Box (x 16) 61 #[.int .i64 7, .int .i64 0, .int .i64 0, .int .i64 5, .int .i64 7, .int .i64 0, .int .i64 0, .int .i64 6, .int .i64 7, .int .i64 1, .int .i64 0, .int .i64 9], Box (x 15) 87 #[.string sAnn, .slice (some ⟨x 14, 0, none⟩) 2 2], Box (x 14) 3 #[.int .i64 0, .int .i64 1], Box (x 13) 59 #[.int .i64 7, .int .i64 0, .int .i64 0, .int .i64 0, .int .i64 0, .int .i64 10], Box (x 12) 89 #[.string sHem, .int .i64 0, .int .i64 120, .slice none 0 0, .slice (some ⟨x 10, 0, none⟩) 1 1, .string sPress, .int .i64 1, .int .i64 80, .slice (some ⟨x 11, 0, none⟩) 1 1, .slice none 0 0], Box (x 11) 3 #[.int .i64 0], Box (x 10) 3 #[.int .i64 0], Box (x 9) 122 #[.int .i64 0, .int .i64 1, .bool false], Box (x 8) 120 #[.string sBack, .slice (some ⟨x 3, 0, none⟩) 2 2, .int .i64 1, .slice none 0 0, .slice (some ⟨x 4, 0, none⟩) 2 2, .slice (some ⟨x 5, 0, none⟩) 2 2, .bool false], Box (x 7) 3 #[.int .i64 0], Box (x 6) 9 #[.string sS], Box (x 5) 3 #[.int .i64 0, .int .i64 0], Box (x 4) 113 #[.int .i64 0, .int .i64 0, .int .i64 0, .int .i64 0], Box (x 3) 116 #[.string sA, .slice (some ⟨x 1, 0, none⟩) 2 2, .string sB, .slice (some ⟨x 2, 0, none⟩) 3 3], Box (x 2) 113 #[.int .i64 10, .int .i64 0, .int .i64 0, .int .i64 10, .int .i64 0, .int .i64 0], Box (x 1) 113 #[.int .i64 0, .int .i64 0, .int .i64 10, .int .i64 0]]
theorem two_ok (w : World) : OkM Tryz.prog 39 [].toArray w twoV twoR := by
  unfold OkM
  refine ok_enter Tryz.func39 rfl Tryz.ntmps39 rfl ?_
  focus (refine gc_seq ?_; refine gc_region ?_; refine w_alloc rfl (fun _ => ?_); refine gw_nil ?_; refine gx_next ?_; refine gc_seq ?_; refine gc_region ?_; apply gw_d; exact w_buildP [] (cells := #[.int .i64 0, .int .i64 0]) (by kernel_rfl) rfl rfl rfl; apply gw_d; exact w_buildP [(0, .int .i64 10)] (cells := #[.int .i64 10, .int .i64 0]) (by kernel_rfl) rfl rfl rfl)
  refine gw_bslice (cells := #[.int .i64 0, .int .i64 0, .int .i64 10, .int .i64 0]) rfl ?_ ?_ ?_ (fun b1 => ?_)
  · rfl
  · rfl
  · kernel_rfl
  focus (apply gw_d; exact w_buildP [(0, .string sA), (1, .slice (some ⟨b1, 0, none⟩) 2 2)] (cells := #[.string sA, .slice (some ⟨b1, 0, none⟩) 2 2]) (by kernel_rfl) rfl rfl rfl; apply gw_d; exact w_buildP [(0, .int .i64 10)] (cells := #[.int .i64 10, .int .i64 0]) (by kernel_rfl) rfl rfl rfl; apply gw_d; exact w_buildP [(1, .int .i64 10)] (cells := #[.int .i64 0, .int .i64 10]) (by kernel_rfl) rfl rfl rfl; apply gw_d; exact w_buildP [] (cells := #[.int .i64 0, .int .i64 0]) (by kernel_rfl) rfl rfl rfl)
  refine gw_bslice (cells := #[.int .i64 10, .int .i64 0, .int .i64 0, .int .i64 10, .int .i64 0, .int .i64 0]) rfl ?_ ?_ ?_ (fun b2 => ?_)
  · rfl
  · rfl
  · kernel_rfl
  focus (apply gw_d; exact w_buildP [(0, .string sB), (1, .slice (some ⟨b2, 0, none⟩) 3 3)] (cells := #[.string sB, .slice (some ⟨b2, 0, none⟩) 3 3]) (by kernel_rfl) rfl rfl rfl)
  refine gw_bslice (cells := #[.string sA, .slice (some ⟨b1, 0, none⟩) 2 2, .string sB, .slice (some ⟨b2, 0, none⟩) 3 3]) rfl ?_ ?_ ?_ (fun b3 => ?_)
  · rfl
  · rfl
  · kernel_rfl
  focus (apply gw_d; exact w_buildP [] (cells := #[.int .i64 0, .int .i64 0]) (by kernel_rfl) rfl rfl rfl; apply gw_d; exact w_buildP [] (cells := #[.int .i64 0, .int .i64 0]) (by kernel_rfl) rfl rfl rfl)
  refine gw_bslice (cells := #[.int .i64 0, .int .i64 0, .int .i64 0, .int .i64 0]) rfl ?_ ?_ ?_ (fun b4 => ?_)
  · rfl
  · rfl
  · kernel_rfl
  focus (skip)
  refine gw_bslice (cells := #[.int .i64 0, .int .i64 0]) rfl ?_ ?_ ?_ (fun b5 => ?_)
  · rfl
  · rfl
  · kernel_rfl
  focus (apply gw_d; exact w_buildP [(0, .string sBack), (1, .slice (some ⟨b3, 0, none⟩) 2 2), (2, .int .i64 1), (4, .slice (some ⟨b4, 0, none⟩) 2 2), (5, .slice (some ⟨b5, 0, none⟩) 2 2)] (cells := #[.string sBack, .slice (some ⟨b3, 0, none⟩) 2 2, .int .i64 1, .slice none 0 0, .slice (some ⟨b4, 0, none⟩) 2 2, .slice (some ⟨b5, 0, none⟩) 2 2, .bool false]) (by kernel_rfl) rfl rfl rfl; refine w_alloc rfl (fun _ => ?_); refine w_store_all rfl rfl rfl rfl rfl .here rfl ?_; refine gw_nil ?_; refine gx_next ?_; refine gc_seq ?_; refine gc_region ?_)
  rename_i bc bp
  refine gw_bslice1 (v := .string sS) rfl rfl rfl rfl rfl (fun b6 => ?_)
  refine gw_bslice1 (v := .int .i64 0) rfl rfl rfl rfl rfl (fun b7 => ?_)
  focus (apply gw_d; exact w_load_boxN rfl rfl rfl (.there (.there .here)) rfl)
  refine gw_bslice1 (v := .agg #[.string sBack, .slice (some ⟨b3, 0, none⟩) 2 2, .int .i64 1, .slice none 0 0, .slice (some ⟨b4, 0, none⟩) 2 2, .slice (some ⟨b5, 0, none⟩) 2 2, .bool false]) rfl rfl rfl rfl rfl (fun b8 => ?_)
  focus (apply gw_d; exact w_buildP [(1, .int .i64 1)] (cells := #[.int .i64 0, .int .i64 1, .bool false]) (by kernel_rfl) rfl rfl rfl)
  refine gw_bslice1 (v := .agg #[.int .i64 0, .int .i64 1, .bool false]) rfl rfl rfl rfl rfl (fun b9 => ?_)
  refine gw_bslice1 (v := .int .i64 0) rfl rfl rfl rfl rfl (fun b10 => ?_)
  focus (apply gw_d; exact w_buildP [(0, .string sHem), (2, .int .i64 120), (4, .slice (some ⟨b10, 0, none⟩) 1 1)] (cells := #[.string sHem, .int .i64 0, .int .i64 120, .slice none 0 0, .slice (some ⟨b10, 0, none⟩) 1 1]) (by kernel_rfl) rfl rfl rfl)
  refine gw_bslice1 (v := .int .i64 0) rfl rfl rfl rfl rfl (fun b11 => ?_)
  focus (apply gw_d; exact w_buildP [(0, .string sPress), (1, .int .i64 1), (2, .int .i64 80), (3, .slice (some ⟨b11, 0, none⟩) 1 1)] (cells := #[.string sPress, .int .i64 1, .int .i64 80, .slice (some ⟨b11, 0, none⟩) 1 1, .slice none 0 0]) (by kernel_rfl) rfl rfl rfl)
  refine gw_bslice (cells := #[.string sHem, .int .i64 0, .int .i64 120, .slice none 0 0, .slice (some ⟨b10, 0, none⟩) 1 1, .string sPress, .int .i64 1, .int .i64 80, .slice (some ⟨b11, 0, none⟩) 1 1, .slice none 0 0]) rfl ?_ ?_ ?_ (fun b12 => ?_)
  · rfl
  · rfl
  · kernel_rfl
  focus (apply gw_d; exact w_buildP [(0, .string sVest), (1, .slice (some ⟨b6, 0, none⟩) 1 1), (2, .slice (some ⟨b7, 0, none⟩) 1 1), (3, .slice (some ⟨b8, 0, none⟩) 1 1), (4, .slice (some ⟨b9, 0, none⟩) 1 1), (6, .slice (some ⟨b12, 0, none⟩) 2 2)] (cells := #[.string sVest, .slice (some ⟨b6, 0, none⟩) 1 1, .slice (some ⟨b7, 0, none⟩) 1 1, .slice (some ⟨b8, 0, none⟩) 1 1, .slice (some ⟨b9, 0, none⟩) 1 1, .slice none 0 0, .slice (some ⟨b12, 0, none⟩) 2 2]) (by kernel_rfl) rfl rfl rfl; refine w_alloc rfl (fun _ => ?_); refine w_store_all rfl rfl rfl rfl rfl .here rfl ?_; refine gw_nil ?_; refine gx_next ?_; refine gc_seq ?_; refine gc_region ?_; apply gw_d; exact w_load_boxN rfl rfl rfl .here rfl)
  rename_i bs
  focus (apply gw_d; exact w_buildP [(0, .int .i64 7), (5, .int .i64 10)] (cells := #[.int .i64 7, .int .i64 0, .int .i64 0, .int .i64 0, .int .i64 0, .int .i64 10]) (by kernel_rfl) rfl rfl rfl)
  refine gw_bslice1 (v := .agg #[.int .i64 7, .int .i64 0, .int .i64 0, .int .i64 0, .int .i64 0, .int .i64 10]) rfl rfl rfl rfl rfl (fun b13 => ?_)
  refine gw_bslice (cells := #[.int .i64 0, .int .i64 1]) rfl ?_ ?_ ?_ (fun b14 => ?_)
  · rfl
  · rfl
  · kernel_rfl
  focus (apply gw_d; exact w_buildP [(0, .string sAnn), (1, .slice (some ⟨b14, 0, none⟩) 2 2)] (cells := #[.string sAnn, .slice (some ⟨b14, 0, none⟩) 2 2]) (by kernel_rfl) rfl rfl rfl)
  refine gw_bslice1 (v := .agg #[.string sAnn, .slice (some ⟨b14, 0, none⟩) 2 2]) rfl rfl rfl rfl rfl (fun b15 => ?_)
  focus (apply gw_d; exact w_buildP [(0, .int .i64 7), (3, .int .i64 5)] (cells := #[.int .i64 7, .int .i64 0, .int .i64 0, .int .i64 5]) (by kernel_rfl) rfl rfl rfl; apply gw_d; exact w_buildP [(0, .int .i64 7), (3, .int .i64 6)] (cells := #[.int .i64 7, .int .i64 0, .int .i64 0, .int .i64 6]) (by kernel_rfl) rfl rfl rfl; apply gw_d; exact w_buildP [(0, .int .i64 7), (1, .int .i64 1), (3, .int .i64 9)] (cells := #[.int .i64 7, .int .i64 1, .int .i64 0, .int .i64 9]) (by kernel_rfl) rfl rfl rfl)
  refine gw_bslice (cells := #[.int .i64 7, .int .i64 0, .int .i64 0, .int .i64 5, .int .i64 7, .int .i64 0, .int .i64 0, .int .i64 6, .int .i64 7, .int .i64 1, .int .i64 0, .int .i64 9]) rfl ?_ ?_ ?_ (fun b16 => ?_)
  · rfl
  · rfl
  · kernel_rfl
  focus (apply gw_d; exact w_buildP [(0, .agg #[.string sVest, .slice (some ⟨b6, 0, none⟩) 1 1, .slice (some ⟨b7, 0, none⟩) 1 1, .slice (some ⟨b8, 0, none⟩) 1 1, .slice (some ⟨b9, 0, none⟩) 1 1, .slice none 0 0, .slice (some ⟨b12, 0, none⟩) 2 2]), (1, .slice (some ⟨b13, 0, none⟩) 1 1), (2, .slice (some ⟨b15, 0, none⟩) 1 1), (3, .slice (some ⟨b16, 0, none⟩) 3 3)] (cells := #[.string sVest, .slice (some ⟨b6, 0, none⟩) 1 1, .slice (some ⟨b7, 0, none⟩) 1 1, .slice (some ⟨b8, 0, none⟩) 1 1, .slice (some ⟨b9, 0, none⟩) 1 1, .slice none 0 0, .slice (some ⟨b12, 0, none⟩) 2 2, .slice (some ⟨b13, 0, none⟩) 1 1, .slice (some ⟨b15, 0, none⟩) 1 1, .slice (some ⟨b16, 0, none⟩) 3 3]) (by kernel_rfl) rfl rfl rfl)
  refine w_store_all rfl rfl rfl rfl rfl (.there (.there (.there (.there (.there (.there (.there (.there (.there (.there (.there (.there (.there (.there (.there (.there (.there (.there .here)))))))))))))))))) rfl ?_
  focus (refine gw_nil ?_; refine gx_next ?_; refine gc_ret ?_)
  refine gx_retc rfl rfl .here rfl fun w s => ⟨fun i => bif Nat.beq i 1 then b1 else bif Nat.beq i 2 then b2 else bif Nat.beq i 3 then b3 else bif Nat.beq i 4 then b4 else bif Nat.beq i 5 then b5 else bif Nat.beq i 6 then b6 else bif Nat.beq i 7 then b7 else bif Nat.beq i 8 then b8 else bif Nat.beq i 9 then b9 else bif Nat.beq i 10 then b10 else bif Nat.beq i 11 then b11 else bif Nat.beq i 12 then b12 else bif Nat.beq i 13 then b13 else bif Nat.beq i 14 then b14 else bif Nat.beq i 15 then b15 else bif Nat.beq i 16 then b16 else 0, rfl, ?_⟩
  exact (St.sub (K := twoR (fun i => bif Nat.beq i 1 then b1 else bif Nat.beq i 2 then b2 else bif Nat.beq i 3 then b3 else bif Nat.beq i 4 then b4 else bif Nat.beq i 5 then b5 else bif Nat.beq i 6 then b6 else bif Nat.beq i 7 then b7 else bif Nat.beq i 8 then b8 else bif Nat.beq i 9 then b9 else bif Nat.beq i 10 then b10 else bif Nat.beq i 11 then b11 else bif Nat.beq i 12 then b12 else bif Nat.beq i 13 then b13 else bif Nat.beq i 14 then b14 else bif Nat.beq i 15 then b15 else bif Nat.beq i 16 then b16 else 0)) (.cons (.there .here) (.cons (.there .here) (.cons (.there .here) (.cons (.there .here) (.cons (.there (.there .here)) (.cons (.there (.there .here)) (.cons (.there (.there .here)) (.cons (.there (.there .here)) (.cons (.there (.there .here)) (.cons (.there (.there .here)) (.cons (.there (.there .here)) (.cons (.there (.there (.there .here))) (.cons (.there (.there (.there .here))) (.cons (.there (.there (.there .here))) (.cons (.there (.there (.there .here))) (.cons (.there (.there (.there .here))) .nil)))))))))))))))) s).sep

section
variable {w0 w : World} {L : List Res} {x : Nat → Nat}
def twoOps : List Opn := [⟨sHem, 0, 120, [], [0]⟩, ⟨sPress, 1, 80, [0], []⟩]
def twoSty : Sty := ⟨sVest, [sS], [0], [⟨sBack, [(sA, [(0, 0), (10, 0)]), (sB, [(10, 0), (0, 10), (0, 0)])], 1, [], [(0, 0), (0, 0)], [0, 0], false⟩], [(0, 1, false)], [], twoOps⟩
def twoBuns : List Bun := [⟨7, 0, 0, 0, 0, 10⟩]
def twoWrks : List Wrk := [⟨sAnn, [0, 1]⟩]
def twoScns : List Scn := [⟨7, 0, 0, 5⟩, ⟨7, 0, 0, 6⟩, ⟨7, 1, 0, 9⟩]
theorem two_ops (s : St w0 (twoR x ++ L) w) : Sl rOp w w.heap.size (.slice (some ⟨x 12, 0, none⟩) 2 2) twoOps := by
  have h12 : w.heap[x 12]? = some (.cells #[.string sHem, .int .i64 0, .int .i64 120, .slice none 0 0, .slice (some ⟨x 10, 0, none⟩) 1 1, .string sPress, .int .i64 1, .int .i64 80, .slice (some ⟨x 11, 0, none⟩) 1 1, .slice none 0 0] 89 (0, 0)) := s.drop.drop.drop.drop.head
  have h11 : w.heap[x 11]? = some (.cells #[.int .i64 0] 3 (0, 0)) := s.drop.drop.drop.drop.drop.head
  have h10 : w.heap[x 10]? = some (.cells #[.int .i64 0] 3 (0, 0)) := s.drop.drop.drop.drop.drop.drop.head
  have a10 : Sl rInt w w.heap.size (.slice (some ⟨x 10, 0, none⟩) 1 1) [0] := Sl.ofCells h10 rfl (by decide) (by decide) ⟨⟨rfl, inI rfl⟩, trivial⟩
  have a11 : Sl rInt w w.heap.size (.slice (some ⟨x 11, 0, none⟩) 1 1) [0] := Sl.ofCells h11 rfl (by decide) (by decide) ⟨⟨rfl, inI rfl⟩, trivial⟩
  exact Sl.ofCells h12 rfl (by decide) (by decide) ⟨⟨_, _, _, _, rfl, ⟨by decide, inI rfl, inI rfl⟩, Sl.nil _ _, a10⟩, ⟨_, _, _, _, rfl, ⟨by decide, inI rfl, inI rfl⟩, a11, Sl.nil _ _⟩, trivial⟩
theorem two_sty (s : St w0 (twoR x ++ L) w) : StyV w w.heap.size (twoStyV x) twoSty := by
  have h9 : w.heap[x 9]? = some (.cells #[.int .i64 0, .int .i64 1, .bool false] 122 (0, 0)) := s.drop.drop.drop.drop.drop.drop.drop.head
  have h8 : w.heap[x 8]? = some (.cells #[.string sBack, .slice (some ⟨x 3, 0, none⟩) 2 2, .int .i64 1, .slice none 0 0, .slice (some ⟨x 4, 0, none⟩) 2 2, .slice (some ⟨x 5, 0, none⟩) 2 2, .bool false] 120 (0, 0)) := s.drop.drop.drop.drop.drop.drop.drop.drop.head
  have h7 : w.heap[x 7]? = some (.cells #[.int .i64 0] 3 (0, 0)) := s.drop.drop.drop.drop.drop.drop.drop.drop.drop.head
  have h6 : w.heap[x 6]? = some (.cells #[.string sS] 9 (0, 0)) := s.drop.drop.drop.drop.drop.drop.drop.drop.drop.drop.head
  have h5 : w.heap[x 5]? = some (.cells #[.int .i64 0, .int .i64 0] 3 (0, 0)) := s.drop.drop.drop.drop.drop.drop.drop.drop.drop.drop.drop.head
  have h4 : w.heap[x 4]? = some (.cells #[.int .i64 0, .int .i64 0, .int .i64 0, .int .i64 0] 113 (0, 0)) := s.drop.drop.drop.drop.drop.drop.drop.drop.drop.drop.drop.drop.head
  have h3 : w.heap[x 3]? = some (.cells #[.string sA, .slice (some ⟨x 1, 0, none⟩) 2 2, .string sB, .slice (some ⟨x 2, 0, none⟩) 3 3] 116 (0, 0)) := s.drop.drop.drop.drop.drop.drop.drop.drop.drop.drop.drop.drop.drop.head
  have h2 : w.heap[x 2]? = some (.cells #[.int .i64 10, .int .i64 0, .int .i64 0, .int .i64 10, .int .i64 0, .int .i64 0] 113 (0, 0)) := s.drop.drop.drop.drop.drop.drop.drop.drop.drop.drop.drop.drop.drop.drop.head
  have h1 : w.heap[x 1]? = some (.cells #[.int .i64 0, .int .i64 0, .int .i64 10, .int .i64 0] 113 (0, 0)) := s.drop.drop.drop.drop.drop.drop.drop.drop.drop.drop.drop.drop.drop.drop.drop.head
  have a1 : Sl rSpot w w.heap.size (.slice (some ⟨x 1, 0, none⟩) 2 2) [(0, 0), (10, 0)] := Sl.ofCells h1 rfl (by decide) (by decide) ⟨⟨rfl, inI rfl, inI rfl⟩, ⟨rfl, inI rfl, inI rfl⟩, trivial⟩
  have a2 : Sl rSpot w w.heap.size (.slice (some ⟨x 2, 0, none⟩) 3 3) [(10, 0), (0, 10), (0, 0)] := Sl.ofCells h2 rfl (by decide) (by decide) ⟨⟨rfl, inI rfl, inI rfl⟩, ⟨rfl, inI rfl, inI rfl⟩, ⟨rfl, inI rfl, inI rfl⟩, trivial⟩
  have a3 : Sl rEdge w w.heap.size (.slice (some ⟨x 3, 0, none⟩) 2 2) [(sA, [(0, 0), (10, 0)]), (sB, [(10, 0), (0, 10), (0, 0)])] := Sl.ofCells h3 rfl (by decide) (by decide) ⟨⟨_, rfl, by decide, a1⟩, ⟨_, rfl, by decide, a2⟩, trivial⟩
  have a4 : Sl rSpot w w.heap.size (.slice (some ⟨x 4, 0, none⟩) 2 2) [(0, 0), (0, 0)] := Sl.ofCells h4 rfl (by decide) (by decide) ⟨⟨rfl, inI rfl, inI rfl⟩, ⟨rfl, inI rfl, inI rfl⟩, trivial⟩
  have a5 : Sl rInt w w.heap.size (.slice (some ⟨x 5, 0, none⟩) 2 2) [0, 0] := Sl.ofCells h5 rfl (by decide) (by decide) ⟨⟨rfl, inI rfl⟩, ⟨rfl, inI rfl⟩, trivial⟩
  exact ⟨_, _, _, _, _, _, _, _, _, _, _, _, rfl, (show sVest.size ≤ maxLen by decide), Sl.ofCells h6 rfl (Nat.le_refl 1) (by decide) ⟨⟨rfl, by decide⟩, trivial⟩, Sl.ofCells h7 rfl (Nat.le_refl 1) (by decide) ⟨⟨rfl, inI rfl⟩, trivial⟩, Sl.ofCells h8 rfl (Nat.le_refl 1) (by decide) ⟨⟨_, _, _, _, _, _, _, _, rfl, ⟨(show sBack.size ≤ maxLen by decide), inI rfl⟩, a3, Sl.nil _ _, a4, a5⟩, trivial⟩,
    Sl.ofCells h9 rfl (Nat.le_refl 1) (by decide) ⟨⟨rfl, inI rfl, inI rfl⟩, trivial⟩, Sl.nil _ _, two_ops s⟩
theorem two_buns (s : St w0 (twoR x ++ L) w) : Sl rBun w w.heap.size (.slice (some ⟨x 13, 0, none⟩) 1 1) twoBuns := by
  have h13 : w.heap[x 13]? = some (.cells #[.int .i64 7, .int .i64 0, .int .i64 0, .int .i64 0, .int .i64 0, .int .i64 10] 59 (0, 0)) := s.drop.drop.drop.head
  exact Sl.ofCells h13 rfl (by decide) (by decide) ⟨⟨rfl, inI rfl, inI rfl, inI rfl⟩, trivial⟩
theorem two_wrks (s : St w0 (twoR x ++ L) w) : Sl rWrk w w.heap.size (.slice (some ⟨x 15, 0, none⟩) 1 1) twoWrks := by
  have h15 : w.heap[x 15]? = some (.cells #[.string sAnn, .slice (some ⟨x 14, 0, none⟩) 2 2] 87 (0, 0)) := s.drop.head
  have h14 : w.heap[x 14]? = some (.cells #[.int .i64 0, .int .i64 1] 3 (0, 0)) := s.drop.drop.head
  have a14 : Sl rInt w w.heap.size (.slice (some ⟨x 14, 0, none⟩) 2 2) [0, 1] := Sl.ofCells h14 rfl (by decide) (by decide) ⟨⟨rfl, inI rfl⟩, ⟨rfl, inI rfl⟩, trivial⟩
  exact Sl.ofCells h15 rfl (by decide) (by decide) ⟨⟨_, _, rfl, by decide, a14⟩, trivial⟩
theorem two_scns (s : St w0 (twoR x ++ L) w) : Sl rScn w w.heap.size (.slice (some ⟨x 16, 0, none⟩) 3 3) twoScns := by
  have h16 : w.heap[x 16]? = some (.cells #[.int .i64 7, .int .i64 0, .int .i64 0, .int .i64 5, .int .i64 7, .int .i64 0, .int .i64 0, .int .i64 6, .int .i64 7, .int .i64 1, .int .i64 0, .int .i64 9] 61 (0, 0)) := s.head
  exact Sl.ofCells h16 rfl (by decide) (by decide) ⟨⟨rfl, inI rfl, inI rfl, inI rfl, inI rfl⟩, ⟨rfl, inI rfl, inI rfl, inI rfl, inI rfl⟩, ⟨rfl, inI rfl, inI rfl, inI rfl, inI rfl⟩, trivial⟩
end
end Go.Proofs.YtbglhkngdagmeaaGreatDoor
