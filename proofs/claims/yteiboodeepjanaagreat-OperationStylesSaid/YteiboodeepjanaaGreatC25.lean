/- The examples of the chapter: the shirt. -/
import Derived.Test.YteiboodeepjanaaGreatC24
namespace Go.Proofs.YteiboodeepjanaaGreat
open Go.RowKit
set_option maxRecDepth 100000
set_option maxHeartbeats 2000000

def sShirt : ByteArray := ⟨#[115, 104, 105, 114, 116]⟩
def sFront : ByteArray := ⟨#[102, 114, 111, 110, 116]⟩
def sLow : ByteArray := ⟨#[108, 111, 119]⟩
def sHigh : ByteArray := ⟨#[104, 105, 103, 104]⟩
def sM : ByteArray := ⟨#[77]⟩
def ptr (b n : Nat) : Value := .slice (some ⟨b, 0, none⟩) n n
def shirtV (x : Nat → Nat) : Value := .agg #[.string sShirt, .slice (some ⟨x 0, 0, none⟩) 1 1, .slice (some ⟨x 1, 0, none⟩) 1 1, .slice (some ⟨x 6, 0, none⟩) 1 1, .slice (some ⟨x 8, 0, none⟩) 1 1, .slice none 0 0, .slice (some ⟨x 11, 0, none⟩) 1 1]
def pieceV (x : Nat → Nat) : Array Value := #[.string sFront, .slice (some ⟨x 22, 0, none⟩) 2 2, .int .i64 1, .slice none 0 0, .slice (some ⟨x 3, 0, none⟩) 2 2, .slice (some ⟨x 4, 0, none⟩) 2 2, .bool false]
def opV (u : Value) : Array Value := #[.string sHem, .int .i64 0, .int .i64 100, .slice none 0 0, u]
def i6 (a b c d e f : Int) : Array Value := #[.int .i64 a, .int .i64 b, .int .i64 c, .int .i64 d, .int .i64 e, .int .i64 f]
def shirtR (x : Nat → Nat) : List Res := [Box (x 11) 46 (opV (.slice (some ⟨x 9, 0, none⟩) 1 1)), Box (x 0) 9 #[.string sM], Box (x 1) 3 #[.int .i64 0], Box (x 3) 69 #[.int .i64 0, .int .i64 0, .int .i64 0, .int .i64 0], Box (x 4) 3 #[.int .i64 0, .int .i64 0],
  Box (x 6) 60 (pieceV x), Box (x 8) 63 #[.int .i64 0, .int .i64 1, .bool false], Box (x 9) 3 #[.int .i64 0],
  Box (x 22) 71 #[.string sLow, .slice (some ⟨x 20, 0, none⟩) 3 3, .string sHigh, .slice (some ⟨x 21, 0, none⟩) 3 3], Box (x 21) 69 (i6 9 9 0 9 0 0), Box (x 20) 69 (i6 0 0 9 0 9 9)]
theorem shirt_ok (w : World) : OkM Tryz.prog 31 [].toArray w shirtV shirtR := by
  unfold OkM
  refine ok_enter Tryz.func31 rfl Tryz.ntmps31 rfl ?_
  focus (refine gc_seq ?_; refine gc_region ?_; refine w_alloc rfl (fun _ => ?_); refine gw_nil ?_; refine gx_next ?_; refine gc_seq ?_; refine gc_region ?_; apply gw_d; exact w_build (cells := #[.int .i64 0, .int .i64 0]) rfl rfl (by rfl); apply gw_d; exact w_build (cells := #[.int .i64 9, .int .i64 0]) rfl rfl (by rfl); apply gw_d; exact w_build (cells := #[.int .i64 9, .int .i64 9]) rfl rfl (by rfl))
  rename_i b0
  refine gw_bslice (cells := i6 0 0 9 0 9 9) rfl ?_ ?_ ?_ (fun b20 => ?_)
  · rfl
  · rfl
  · kernel_rfl
  focus (apply gw_d; exact w_build (cells := #[.string sLow, .slice (some ⟨b20, 0, none⟩) 3 3]) rfl rfl (by rfl); apply gw_d; exact w_build (cells := #[.int .i64 9, .int .i64 9]) rfl rfl (by rfl); apply gw_d; exact w_build (cells := #[.int .i64 0, .int .i64 9]) rfl rfl (by rfl); apply gw_d; exact w_build (cells := #[.int .i64 0, .int .i64 0]) rfl rfl (by rfl))
  refine gw_bslice (cells := i6 9 9 0 9 0 0) rfl ?_ ?_ ?_ (fun b21 => ?_)
  · rfl
  · rfl
  · kernel_rfl
  focus (apply gw_d; exact w_build (cells := #[.string sHigh, .slice (some ⟨b21, 0, none⟩) 3 3]) rfl rfl (by rfl))
  refine gw_bslice (cells := #[.string sLow, .slice (some ⟨b20, 0, none⟩) 3 3, .string sHigh, .slice (some ⟨b21, 0, none⟩) 3 3]) rfl ?_ ?_ ?_ (fun b22 => ?_)
  · rfl
  · rfl
  · kernel_rfl
  focus (apply gw_d; exact det_m rfl rfl (by conv => (lhs; whnf)); refine gw_nil ?_; refine gx_next ?_; refine gc_seq ?_)
  refine gc_block_draw Nat 13 (fun i => ([[], [], [], [], [], [2, 3, 4], [2, 3, 4, 5], [], [7], [], [9], [9, 10], [0, 1, 2, 3, 4, 5, 6, 7, 8, 9, 10, 11]] : List (List Nat)).getD i []) rfl (by kernel_rfl) ?_
  refine gb_bslice1 (fun _ => .string sM) id id (fun _ => rfl) (fun _ => rfl) (fun _ => rfl) (fun _ => rfl) rfl rfl (fun _ _ => rfl) (fun _ => rfl) ?_
  refine gb_bslice1 (fun _ => .int .i64 0) id id (fun _ => rfl) (fun _ => rfl) (fun _ => rfl) (fun _ => rfl) rfl rfl (fun _ _ => rfl) (fun _ => rfl) ?_
  focus (apply gb_d; (intro γ; exact det_m rfl rfl (by conv => (lhs; whnf))); (intros; rfl); (intros; rfl))
  refine gb_makeN (n := 2) (cells := #[.int .i64 0, .int .i64 0, .int .i64 0, .int .i64 0]) id id (fun _ => rfl) (fun _ => rfl) (fun _ => rfl) (fun _ => rfl) rfl rfl (by decide) (by decide) (by kernel_rfl) ?_
  refine gb_makeN (n := 2) (cells := #[.int .i64 0, .int .i64 0]) id id (fun _ => rfl) (fun _ => rfl) (fun _ => rfl) (fun _ => rfl) rfl rfl (by decide) (by decide) (by kernel_rfl) ?_
  refine gb_d (V := fun γ => .agg #[.string sFront, .slice (some ⟨b22, 0, none⟩) 2 2, .int .i64 1, .slice none 0 0, .slice (some ⟨γ 3, 0, none⟩) 2 2, .slice (some ⟨γ 4, 0, none⟩) 2 2, .bool false]) (fun γ => w_build rfl rfl (by rfl)) (fun _ _ => rfl) (fun _ => rfl) ?_
  refine gb_bslice1 (fun γ => .agg #[.string sFront, .slice (some ⟨b22, 0, none⟩) 2 2, .int .i64 1, .slice none 0 0, .slice (some ⟨γ 3, 0, none⟩) 2 2, .slice (some ⟨γ 4, 0, none⟩) 2 2, .bool false]) id id (fun _ => rfl) (fun _ => rfl) (fun _ => rfl) (fun _ => rfl) rfl rfl (fun _ _ => rfl) (fun _ => rfl) ?_
  refine gb_d (V := fun _ => .agg #[.int .i64 0, .int .i64 1, .bool false]) (fun γ => w_build rfl rfl (by rfl)) (fun _ _ => rfl) (fun _ => rfl) ?_
  refine gb_bslice1 (fun _ => .agg #[.int .i64 0, .int .i64 1, .bool false]) id id (fun _ => rfl) (fun _ => rfl) (fun _ => rfl) (fun _ => rfl) rfl rfl (fun _ _ => rfl) (fun _ => rfl) ?_
  refine gb_bslice1 (fun _ => .int .i64 0) id id (fun _ => rfl) (fun _ => rfl) (fun _ => rfl) (fun _ => rfl) rfl rfl (fun _ _ => rfl) (fun _ => rfl) ?_
  refine gb_d (V := fun γ => .agg (opV (.slice (some ⟨γ 9, 0, none⟩) 1 1))) (fun γ => w_build rfl rfl (by rfl)) (fun _ _ => rfl) (fun _ => rfl) ?_
  refine gb_bslice1 (fun γ => .agg (opV (.slice (some ⟨γ 9, 0, none⟩) 1 1))) id id (fun _ => rfl) (fun _ => rfl) (fun _ => rfl) (fun _ => rfl) rfl rfl (fun _ _ => rfl) (fun _ => rfl) ?_
  refine gb_d (V := fun γ => .agg #[.string sShirt, .slice (some ⟨γ 0, 0, none⟩) 1 1, .slice (some ⟨γ 1, 0, none⟩) 1 1, .slice (some ⟨γ 6, 0, none⟩) 1 1, .slice (some ⟨γ 8, 0, none⟩) 1 1, .slice none 0 0, .slice (some ⟨γ 11, 0, none⟩) 1 1]) (fun γ => w_build rfl rfl (by rfl)) (fun _ _ => rfl) (fun _ => rfl) ?_
  refine GB.nil (fun β => ?_)
  refine w_store_all rfl rfl rfl rfl rfl (.there (.there (.there (.there (.there (.there (.there (.there (.there (.there (.there .here))))))))))) rfl ?_
  focus (refine gw_nil ?_; refine gx_next ?_; refine gc_ret ?_)
  refine gx_retc rfl rfl .here rfl fun w s => ⟨fun i => bif Nat.beq i 20 then b20 else bif Nat.beq i 21 then b21 else bif Nat.beq i 22 then b22 else β i, rfl, ?_⟩
  exact (St.sub (K := shirtR (fun i => bif Nat.beq i 20 then b20 else bif Nat.beq i 21 then b21 else bif Nat.beq i 22 then b22 else β i)) (.cons (.there (.there (.there (.there (.there (.there (.there .here))))))) (.cons .here (.cons .here (.cons .here (.cons .here (.cons .here (.cons .here (.cons .here (.cons .here (.cons .here (.cons .here .nil))))))))))) s.drop).sep
end Go.Proofs.YteiboodeepjanaaGreat
