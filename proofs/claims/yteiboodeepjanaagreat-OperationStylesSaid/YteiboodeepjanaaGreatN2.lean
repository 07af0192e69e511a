/- Contracts: lengths in bits; square roots of the program. -/
import Derived.Test.YteiboodeepjanaaGreatFwM
import Derived.Test.YteiboodeepjanaaGreatN1
import Derived.Test.YteiboodeepjanaaGreatTab
namespace Go.Proofs.YteiboodeepjanaaGreat
open Go.RowKit
set_option maxRecDepth 100000
set_option maxHeartbeats 4000000

def len8tab : ByteArray := ⟨#[0, 1, 2, 2, 3, 3, 3, 3, 4, 4, 4, 4, 4, 4, 4, 4, 5, 5, 5, 5, 5, 5, 5, 5, 5, 5, 5, 5, 5, 5, 5, 5, 6, 6, 6, 6, 6, 6, 6, 6, 6, 6, 6, 6, 6, 6, 6, 6, 6, 6, 6, 6, 6, 6, 6, 6, 6, 6, 6, 6, 6, 6, 6, 6, 7, 7, 7, 7, 7, 7, 7, 7, 7, 7, 7, 7, 7, 7, 7, 7, 7, 7, 7, 7, 7, 7, 7, 7, 7, 7, 7, 7, 7, 7, 7, 7, 7, 7, 7, 7, 7, 7, 7, 7, 7, 7, 7, 7, 7, 7, 7, 7, 7, 7, 7, 7, 7, 7, 7, 7, 7, 7, 7, 7, 7, 7, 7, 7, 8, 8, 8, 8, 8, 8, 8, 8, 8, 8, 8, 8, 8, 8, 8, 8, 8, 8, 8, 8, 8, 8, 8, 8, 8, 8, 8, 8, 8, 8, 8, 8, 8, 8, 8, 8, 8, 8, 8, 8, 8, 8, 8, 8, 8, 8, 8, 8, 8, 8, 8, 8, 8, 8, 8, 8, 8, 8, 8, 8, 8, 8, 8, 8, 8, 8, 8, 8, 8, 8, 8, 8, 8, 8, 8, 8, 8, 8, 8, 8, 8, 8, 8, 8, 8, 8, 8, 8, 8, 8, 8, 8, 8, 8, 8, 8, 8, 8, 8, 8, 8, 8, 8, 8, 8, 8, 8, 8, 8, 8, 8, 8, 8, 8, 8, 8, 8, 8, 8, 8, 8, 8, 8, 8, 8, 8, 8, 8]⟩
def l8 (z : Nat) : Nat := (bAt len8tab z).toNat
def l16 (z : Nat) : Nat := if 256 ≤ z then l8 (z / 256) + 8 else l8 z
def l32 (z : Nat) : Nat := if 65536 ≤ z then l16 (z / 65536) + 16 else l16 z
def l64 (z : Nat) : Nat := if 4294967296 ≤ z then l32 (z / 4294967296) + 32 else l32 z
theorem l8_all : ((List.range 256).all fun z => decide (z < 2 ^ l8 z) && decide (l8 z ≤ 8)) = true := by kernel_rfl
theorem l8_lt {z : Nat} (h : z < 256) : z < 2 ^ l8 z ∧ l8 z ≤ 8 := by
  have := List.all_eq_true.1 l8_all z (List.mem_range.2 h)
  simpa using this
theorem up_lt {z k a b : Nat} (hb : b = 2 ^ a) (h : z / b < 2 ^ k) : z < 2 ^ (k + a) := by
  have hp : 0 < b := by rw [hb]; exact Nat.two_pow_pos a
  rw [Nat.pow_add, ← hb]
  exact (Nat.div_lt_iff_lt_mul hp).1 h
theorem l16_lt {z : Nat} (h : z < 65536) : z < 2 ^ l16 z ∧ l16 z ≤ 16 := by
  unfold l16
  split
  · have := l8_lt (z := z / 256) (by omega)
    exact ⟨up_lt (by decide) this.1, by omega⟩
  · have := l8_lt (z := z) (by omega)
    exact ⟨this.1, by omega⟩
theorem l32_lt {z : Nat} (h : z < 4294967296) : z < 2 ^ l32 z ∧ l32 z ≤ 32 := by
  unfold l32
  split
  · have := l16_lt (z := z / 65536) (by omega)
    exact ⟨up_lt (by decide) this.1, by omega⟩
  · have := l16_lt (z := z) (by omega)
    exact ⟨this.1, by omega⟩
theorem l64_lt {z : Nat} (h : z < 18446744073709551616) : z < 2 ^ l64 z ∧ l64 z ≤ 64 := by
  unfold l64
  split
  · have := l32_lt (z := z / 4294967296) (by omega)
    exact ⟨up_lt (by decide) this.1, by omega⟩
  · have := l32_lt (z := z) (by omega)
    exact ⟨this.1, by omega⟩
theorem l8_val {z : Nat} : (l8 z : Int) = bAt len8tab z := by
  unfold l8
  have := (bAt_range len8tab z).1
  omega
theorem fdiv_nat (z b : Nat) : ((z : Int).fdiv (b : Int)) = ((z / b : Nat) : Int) := by
  rw [Int.fdiv_eq_ediv_of_nonneg _ (by omega)]
  rfl
theorem wrap_u8 {z : Nat} (h : z < 256) : IntKind.u8.wrap (z : Int) = z := by
  have : IntKind.u8.wrap (z : Int) = (z : Int) % 256 := rfl
  rw [this]
  omega
theorem wrap_i8 {z : Nat} : IntKind.i64.wrap (bAt len8tab z) = (l8 z : Int) := by
  have h := bAt_range len8tab z
  rw [← l8_val, IntKind.wrap_i64]
  have := l8_val (z := z)
  omega
theorem l8_le (z : Nat) : l8 z ≤ 255 := by
  have h := bAt_range len8tab z
  have := l8_val (z := z)
  omega
theorem tab_size : len8tab.size = 256 := by kernel_rfl
theorem len64_ok (w : World) (x : Nat) (hx : x < 18446744073709551616) : Ok Tryz.prog 151 [.int .u64 (x : Int)].toArray w fun r _ => r = .int .i64 (l64 x : Int) := by
  have b1 := l8_le x
  have b2 := l8_le (x / 256)
  have b3 := l8_le (x / 65536)
  have b4 := l8_le (x / 65536 / 256)
  have b5 := l8_le (x / 4294967296)
  have b6 := l8_le (x / 4294967296 / 256)
  have b7 := l8_le (x / 4294967296 / 65536)
  have b8 := l8_le (x / 4294967296 / 65536 / 256)
  refine ok_enter Tryz.func151 rfl Tryz.ntmps151 rfl ?_
  focus (refine gc_seq ?_; refine gc_region ?_; apply gw_d; exact det_m rfl rfl (by conv => (lhs; whnf)); refine gw_nil ?_; refine gx_next ?_; refine gc_seq ?_; refine gc_seq ?_; refine gc_region ?_; apply gw_d; exact det_m rfl rfl (by conv => (lhs; whnf)); apply gw_d; exact det_cmp rfl rfl rfl rfl rfl; refine gw_nil ?_; refine gx_next ?_; refine gc_if_dec rfl (fun _ => ?_) (fun _ => ?_); refine gc_seq ?_; refine gc_region ?_; apply gw_d; exact det_m rfl rfl (by conv => (lhs; whnf)); apply gw_d; exact det_shr rfl rfl rfl rfl (by decide) (fdiv_nat _ 4294967296); apply gw_d; exact det_m rfl rfl (by conv => (lhs; whnf)); refine gw_nil ?_; refine gx_next ?_; refine gc_region ?_; apply gw_d; exact det_m rfl rfl (by conv => (lhs; whnf)); refine gw_nil ?_; refine gx_next ?_; refine gc_seq ?_; refine gc_seq ?_; refine gc_region ?_; apply gw_d; exact det_m rfl rfl (by conv => (lhs; whnf)); apply gw_d; exact det_cmp rfl rfl rfl rfl rfl; refine gw_nil ?_; refine gx_next ?_; refine gc_if_dec rfl (fun _ => ?_) (fun _ => ?_); refine gc_seq ?_; refine gc_region ?_; apply gw_d; exact det_m rfl rfl (by conv => (lhs; whnf)); apply gw_d; exact det_shr rfl rfl rfl rfl (by decide) (fdiv_nat _ 65536); apply gw_d; exact det_m rfl rfl (by conv => (lhs; whnf)); refine gw_nil ?_; refine gx_next ?_; refine gc_region ?_; apply gw_d; exact det_m rfl rfl (by conv => (lhs; whnf)); apply gw_d; exact det_ar rfl rfl rfl rfl rfl (by omega); apply gw_d; exact det_m rfl rfl (by conv => (lhs; whnf)); refine gw_nil ?_; refine gx_next ?_; refine gc_seq ?_; refine gc_seq ?_; refine gc_region ?_; apply gw_d; exact det_m rfl rfl (by conv => (lhs; whnf)); apply gw_d; exact det_cmp rfl rfl rfl rfl rfl; refine gw_nil ?_; refine gx_next ?_; refine gc_if_dec rfl (fun _ => ?_) (fun _ => ?_); refine gc_seq ?_; refine gc_region ?_; apply gw_d; exact det_m rfl rfl (by conv => (lhs; whnf)); apply gw_d; exact det_shr rfl rfl rfl rfl (by decide) (fdiv_nat _ 256); apply gw_d; exact det_m rfl rfl (by conv => (lhs; whnf)); refine gw_nil ?_; refine gx_next ?_; refine gc_region ?_; apply gw_d; exact det_m rfl rfl (by conv => (lhs; whnf)); apply gw_d; exact det_ar rfl rfl rfl rfl rfl (by omega); apply gw_d; exact det_m rfl rfl (by conv => (lhs; whnf)); refine gw_nil ?_; refine gx_next ?_; refine gc_seq ?_; refine gc_region ?_; apply gw_d; exact det_m rfl rfl (by conv => (lhs; whnf)); apply gw_d; exact det_m rfl rfl (by conv => (lhs; whnf)); apply gw_d; exact det_conv rfl rfl rfl (wrap_u8 (by omega)); apply gw_d; exact w_sidx (s := len8tab) rfl rfl rfl rfl rfl (by rw [tab_size]; omega); apply gw_d; exact det_conv rfl rfl rfl wrap_i8; apply gw_d; exact det_ar rfl rfl rfl rfl rfl (by omega); apply gw_d; exact det_m rfl rfl (by conv => (lhs; whnf)); refine gw_nil ?_; refine gx_next ?_; refine gc_ret ?_; rotate_left; refine gc_skip ?_; refine gx_next ?_; refine gc_seq ?_; refine gc_region ?_; apply gw_d; exact det_m rfl rfl (by conv => (lhs; whnf)); apply gw_d; exact det_m rfl rfl (by conv => (lhs; whnf)); apply gw_d; exact det_conv rfl rfl rfl (wrap_u8 (by omega)); apply gw_d; exact w_sidx (s := len8tab) rfl rfl rfl rfl rfl (by rw [tab_size]; omega); apply gw_d; exact det_conv rfl rfl rfl wrap_i8; apply gw_d; exact det_ar rfl rfl rfl rfl rfl (by omega); apply gw_d; exact det_m rfl rfl (by conv => (lhs; whnf)); refine gw_nil ?_; refine gx_next ?_; refine gc_ret ?_; rotate_left; refine gc_skip ?_; refine gx_next ?_; refine gc_seq ?_; refine gc_seq ?_; refine gc_region ?_; apply gw_d; exact det_m rfl rfl (by conv => (lhs; whnf)); apply gw_d; exact det_cmp rfl rfl rfl rfl rfl; refine gw_nil ?_; refine gx_next ?_; refine gc_if_dec rfl (fun _ => ?_) (fun _ => ?_); refine gc_seq ?_; refine gc_region ?_; apply gw_d; exact det_m rfl rfl (by conv => (lhs; whnf)); apply gw_d; exact det_shr rfl rfl rfl rfl (by decide) (fdiv_nat _ 256); apply gw_d; exact det_m rfl rfl (by conv => (lhs; whnf)); refine gw_nil ?_; refine gx_next ?_; refine gc_region ?_; apply gw_d; exact det_m rfl rfl (by conv => (lhs; whnf)); apply gw_d; exact det_ar rfl rfl rfl rfl rfl (by omega); apply gw_d; exact det_m rfl rfl (by conv => (lhs; whnf)); refine gw_nil ?_; refine gx_next ?_; refine gc_seq ?_; refine gc_region ?_; apply gw_d; exact det_m rfl rfl (by conv => (lhs; whnf)); apply gw_d; exact det_m rfl rfl (by conv => (lhs; whnf)); apply gw_d; exact det_conv rfl rfl rfl (wrap_u8 (by omega)); apply gw_d; exact w_sidx (s := len8tab) rfl rfl rfl rfl rfl (by rw [tab_size]; omega); apply gw_d; exact det_conv rfl rfl rfl wrap_i8; apply gw_d; exact det_ar rfl rfl rfl rfl rfl (by omega); apply gw_d; exact det_m rfl rfl (by conv => (lhs; whnf)); refine gw_nil ?_; refine gx_next ?_; refine gc_ret ?_; rotate_left; refine gc_skip ?_; refine gx_next ?_; refine gc_seq ?_; refine gc_region ?_; apply gw_d; exact det_m rfl rfl (by conv => (lhs; whnf)); apply gw_d; exact det_m rfl rfl (by conv => (lhs; whnf)); apply gw_d; exact det_conv rfl rfl rfl (wrap_u8 (by omega)); apply gw_d; exact w_sidx (s := len8tab) rfl rfl rfl rfl rfl (by rw [tab_size]; omega); apply gw_d; exact det_conv rfl rfl rfl wrap_i8; apply gw_d; exact det_ar rfl rfl rfl rfl rfl (by omega); apply gw_d; exact det_m rfl rfl (by conv => (lhs; whnf)); refine gw_nil ?_; refine gx_next ?_; refine gc_ret ?_; rotate_left; refine gc_skip ?_; refine gx_next ?_; refine gc_seq ?_; refine gc_seq ?_; refine gc_region ?_; apply gw_d; exact det_m rfl rfl (by conv => (lhs; whnf)); apply gw_d; exact det_cmp rfl rfl rfl rfl rfl; refine gw_nil ?_; refine gx_next ?_; refine gc_if_dec rfl (fun _ => ?_) (fun _ => ?_); refine gc_seq ?_; refine gc_region ?_; apply gw_d; exact det_m rfl rfl (by conv => (lhs; whnf)); apply gw_d; exact det_shr rfl rfl rfl rfl (by decide) (fdiv_nat _ 65536); apply gw_d; exact det_m rfl rfl (by conv => (lhs; whnf)); refine gw_nil ?_; refine gx_next ?_; refine gc_region ?_; apply gw_d; exact det_m rfl rfl (by conv => (lhs; whnf)); apply gw_d; exact det_ar rfl rfl rfl rfl rfl (by omega); apply gw_d; exact det_m rfl rfl (by conv => (lhs; whnf)); refine gw_nil ?_; refine gx_next ?_; refine gc_seq ?_; refine gc_seq ?_; refine gc_region ?_; apply gw_d; exact det_m rfl rfl (by conv => (lhs; whnf)); apply gw_d; exact det_cmp rfl rfl rfl rfl rfl; refine gw_nil ?_; refine gx_next ?_; refine gc_if_dec rfl (fun _ => ?_) (fun _ => ?_); refine gc_seq ?_; refine gc_region ?_; apply gw_d; exact det_m rfl rfl (by conv => (lhs; whnf)); apply gw_d; exact det_shr rfl rfl rfl rfl (by decide) (fdiv_nat _ 256); apply gw_d; exact det_m rfl rfl (by conv => (lhs; whnf)); refine gw_nil ?_; refine gx_next ?_; refine gc_region ?_; apply gw_d; exact det_m rfl rfl (by conv => (lhs; whnf)); apply gw_d; exact det_ar rfl rfl rfl rfl rfl (by omega); apply gw_d; exact det_m rfl rfl (by conv => (lhs; whnf)); refine gw_nil ?_; refine gx_next ?_; refine gc_seq ?_; refine gc_region ?_; apply gw_d; exact det_m rfl rfl (by conv => (lhs; whnf)); apply gw_d; exact det_m rfl rfl (by conv => (lhs; whnf)); apply gw_d; exact det_conv rfl rfl rfl (wrap_u8 (by omega)); apply gw_d; exact w_sidx (s := len8tab) rfl rfl rfl rfl rfl (by rw [tab_size]; omega); apply gw_d; exact det_conv rfl rfl rfl wrap_i8; apply gw_d; exact det_ar rfl rfl rfl rfl rfl (by omega); apply gw_d; exact det_m rfl rfl (by conv => (lhs; whnf)); refine gw_nil ?_; refine gx_next ?_; refine gc_ret ?_; rotate_left; refine gc_skip ?_; refine gx_next ?_; refine gc_seq ?_; refine gc_region ?_; apply gw_d; exact det_m rfl rfl (by conv => (lhs; whnf)); apply gw_d; exact det_m rfl rfl (by conv => (lhs; whnf)); apply gw_d; exact det_conv rfl rfl rfl (wrap_u8 (by omega)); apply gw_d; exact w_sidx (s := len8tab) rfl rfl rfl rfl rfl (by rw [tab_size]; omega); apply gw_d; exact det_conv rfl rfl rfl wrap_i8; apply gw_d; exact det_ar rfl rfl rfl rfl rfl (by omega); apply gw_d; exact det_m rfl rfl (by conv => (lhs; whnf)); refine gw_nil ?_; refine gx_next ?_; refine gc_ret ?_; rotate_left; refine gc_skip ?_; refine gx_next ?_; refine gc_seq ?_; refine gc_seq ?_; refine gc_region ?_; apply gw_d; exact det_m rfl rfl (by conv => (lhs; whnf)); apply gw_d; exact det_cmp rfl rfl rfl rfl rfl; refine gw_nil ?_; refine gx_next ?_; refine gc_if_dec rfl (fun _ => ?_) (fun _ => ?_); refine gc_seq ?_; refine gc_region ?_; apply gw_d; exact det_m rfl rfl (by conv => (lhs; whnf)); apply gw_d; exact det_shr rfl rfl rfl rfl (by decide) (fdiv_nat _ 256); apply gw_d; exact det_m rfl rfl (by conv => (lhs; whnf)); refine gw_nil ?_; refine gx_next ?_; refine gc_region ?_; apply gw_d; exact det_m rfl rfl (by conv => (lhs; whnf)); apply gw_d; exact det_ar rfl rfl rfl rfl rfl (by omega); apply gw_d; exact det_m rfl rfl (by conv => (lhs; whnf)); refine gw_nil ?_; refine gx_next ?_; refine gc_seq ?_; refine gc_region ?_; apply gw_d; exact det_m rfl rfl (by conv => (lhs; whnf)); apply gw_d; exact det_m rfl rfl (by conv => (lhs; whnf)); apply gw_d; exact det_conv rfl rfl rfl (wrap_u8 (by omega)); apply gw_d; exact w_sidx (s := len8tab) rfl rfl rfl rfl rfl (by rw [tab_size]; omega); apply gw_d; exact det_conv rfl rfl rfl wrap_i8; apply gw_d; exact det_ar rfl rfl rfl rfl rfl (by omega); apply gw_d; exact det_m rfl rfl (by conv => (lhs; whnf)); refine gw_nil ?_; refine gx_next ?_; refine gc_ret ?_; rotate_left; refine gc_skip ?_; refine gx_next ?_; refine gc_seq ?_; refine gc_region ?_; apply gw_d; exact det_m rfl rfl (by conv => (lhs; whnf)); apply gw_d; exact det_m rfl rfl (by conv => (lhs; whnf)); apply gw_d; exact det_conv rfl rfl rfl (wrap_u8 (by omega)); apply gw_d; exact w_sidx (s := len8tab) rfl rfl rfl rfl rfl (by rw [tab_size]; omega); apply gw_d; exact det_conv rfl rfl rfl wrap_i8; apply gw_d; exact det_ar rfl rfl rfl rfl rfl (by omega); apply gw_d; exact det_m rfl rfl (by conv => (lhs; whnf)); refine gw_nil ?_; refine gx_next ?_; refine gc_ret ?_; rotate_left)
  (set_option pp.maxSteps 60 in set_option pp.deepTerms false in trace_state)
  all_goals (refine gx_ret1 (v := .int _ _) rfl rfl (fun _ _ => ?_); congr 1; unfold l64 l32 l16; split <;> split <;> split <;> omega)
theorem len_ok (w : World) (x : Nat) (hx : x < 18446744073709551616) : Ok Tryz.prog 150 [.int .u64 (x : Int)].toArray w fun r _ => r = .int .i64 (l64 x : Int) := by
  refine ok_enter Tryz.func150 rfl Tryz.ntmps150 rfl ?_
  focus (refine gc_seq ?_; refine gc_region ?_; apply gw_d; exact det_m rfl rfl (by conv => (lhs; whnf)); refine gw_nil ?_; refine gx_next ?_; refine gc_seq ?_)
  refine gc_if_false rfl ?_
  focus (refine gc_skip ?_; refine gx_next ?_; refine gc_seq ?_; refine gc_region ?_; apply gw_d; exact det_m rfl rfl (by conv => (lhs; whnf)); apply gw_d; exact w_call rfl rfl (fun w _ => len64_ok w x hx) rfl; apply gw_d; exact det_m rfl rfl (by conv => (lhs; whnf)); refine gw_nil ?_; refine gx_next ?_; refine gc_ret ?_)
  refine gx_ret1 (v := .int _ _) rfl rfl (fun _ _ => ?_)
  rfl
end Go.Proofs.YteiboodeepjanaaGreat
