/- Numbers of 64 bits without a sign; the product of two of them in two words. -/
import Derived.Test.YteiboodeepjanaaGreatN2
namespace Go.Proofs.YteiboodeepjanaaGreat
open Go.RowKit
set_option maxRecDepth 100000
set_option maxHeartbeats 4000000

theorem u64w (i : Int) : IntKind.u64.wrap i = i % 18446744073709551616 := rfl
section
variable {P : Program} {ops : Array Oper} {N : Nat} {w0 : World} {L : List Res} {e : Env} {o : Oper} {t : TypeId} {x y : Operand}
theorem det_mulU {i j : Nat} {yt : TypeId} (hop : o.op = .binOp .mul t x y yt) (hw : wantedE N ops e o = true) (hx : ev N e x = .int .u64 (i : Int)) (hy : ev N e y = .int .u64 (j : Int)) : Det P ops N w0 L o e (.int .u64 ((i * j % 18446744073709551616 : Nat) : Int)) :=
  det_eq (det_ar_wrap (r := IntKind.u64.wrap ((i : Int) * (j : Int))) hop hw hx hy rfl) (by rw [u64w, Int.natCast_emod, Int.natCast_mul]; rfl)
theorem det_addU {i j : Nat} {yt : TypeId} (hop : o.op = .binOp .add t x y yt) (hw : wantedE N ops e o = true) (hx : ev N e x = .int .u64 (i : Int)) (hy : ev N e y = .int .u64 (j : Int)) : Det P ops N w0 L o e (.int .u64 (((i + j) % 18446744073709551616 : Nat) : Int)) :=
  det_eq (det_ar_wrap (r := IntKind.u64.wrap ((i : Int) + (j : Int))) hop hw hx hy rfl) (by rw [u64w, Int.natCast_emod, Int.natCast_add]; rfl)
theorem det_subU {i j : Nat} {yt : TypeId} (hj : j ≤ 18446744073709551616) (hop : o.op = .binOp .sub t x y yt) (hw : wantedE N ops e o = true) (hx : ev N e x = .int .u64 (i : Int)) (hy : ev N e y = .int .u64 (j : Int)) : Det P ops N w0 L o e (.int .u64 (((i + (18446744073709551616 - j)) % 18446744073709551616 : Nat) : Int)) :=
  det_eq (det_ar_wrap (r := IntKind.u64.wrap ((i : Int) - (j : Int))) hop hw hx hy rfl) (by
    rw [u64w]
    congr 1
    omega)
theorem run_bits {b : BinOp} {k : IntKind} {i j : Int} {yt : TypeId} {v : Value} {w : World} (hb : b = .and ∨ b = .or) (hop : o.op = .binOp b t x y yt) (hx : ev N e x = .int k i) (hy : ev N e y = .int k j) (hr : (Op.intBits b k i j).run P w = .ok v w) : (execOp (ev N e) o).run P w = .ok (.value v) w := by
  unfold execOp
  rcases hb with rfl | rfl <;> simp [hop, hx, hy, eqGuard, binOp, hr]
theorem det_andM {i : Nat} {yt : TypeId} (hi : i < 18446744073709551616) (hop : o.op = .binOp .and t x y yt) (hw : wantedE N ops e o = true) (hx : ev N e x = .int .u64 (i : Int)) (hy : ev N e y = .int .u64 4294967295) : Det P ops N w0 L o e (.int .u64 ((i % 4294967296 : Nat) : Int)) :=
  det_pure hw fun w => run_bits (.inl rfl) hop hx hy (by
    have h1 : (BitVec.ofInt IntKind.u64.bits (i : Int) &&& BitVec.ofInt IntKind.u64.bits 4294967295).toNat = i % 4294967296 := by
      show (BitVec.ofInt 64 (i : Int) &&& BitVec.ofInt 64 4294967295).toNat = i % 4294967296
      rw [BitVec.toNat_and, BitVec.toNat_ofInt, BitVec.toNat_ofInt]
      have e1 : ((i : Int) % ((2 ^ 64 : Nat) : Int)).toNat = i := by
        have : ((2 ^ 64 : Nat) : Int) = 18446744073709551616 := rfl
        rw [this]
        omega
      have e2 : ((4294967295 : Int) % ((2 ^ 64 : Nat) : Int)).toNat = 2 ^ 32 - 1 := rfl
      rw [e1, e2, Nat.and_two_pow_sub_one_eq_mod]
    simp only [Op.intBits, h1]
    have h2 : IntKind.u64.wrap ((i % 4294967296 : Nat) : Int) = ((i % 4294967296 : Nat) : Int) := by
      rw [u64w]
      omega
    rw [h2]
    rfl)
def orW (i j : Nat) : Nat := (BitVec.ofInt 64 (i : Int) ||| BitVec.ofInt 64 (j : Int)).toNat
theorem orW_lt (i j : Nat) : orW i j < 18446744073709551616 := (BitVec.ofInt 64 (i : Int) ||| BitVec.ofInt 64 (j : Int)).isLt
theorem det_orU {i j : Nat} {yt : TypeId} (hop : o.op = .binOp .or t x y yt) (hw : wantedE N ops e o = true) (hx : ev N e x = .int .u64 (i : Int)) (hy : ev N e y = .int .u64 (j : Int)) : Det P ops N w0 L o e (.int .u64 ((orW i j : Nat) : Int)) :=
  det_pure hw fun w => run_bits (.inr rfl) hop hx hy (by
    have h1 : (BitVec.ofInt IntKind.u64.bits (i : Int) ||| BitVec.ofInt IntKind.u64.bits (j : Int)).toNat = orW i j := rfl
    simp only [Op.intBits, h1]
    have h2 : IntKind.u64.wrap ((orW i j : Nat) : Int) = ((orW i j : Nat) : Int) := by
      have := orW_lt i j
      rw [u64w]
      omega
    rw [h2]
    rfl)
end
theorem mul64_law {x y : Nat} : x * y = (x / 4294967296) * (y / 4294967296) * 18446744073709551616 + (x / 4294967296) * (y % 4294967296) * 4294967296 + (x % 4294967296) * (y / 4294967296) * 4294967296 + (x % 4294967296) * (y % 4294967296) := by
  have hx : x = x / 4294967296 * 4294967296 + x % 4294967296 := by omega
  have hy : y = y / 4294967296 * 4294967296 + y % 4294967296 := by omega
  generalize x / 4294967296 = a at *
  generalize x % 4294967296 = b at *
  generalize y / 4294967296 = c at *
  generalize y % 4294967296 = d at *
  subst hx hy
  simp only [Nat.add_mul, Nat.mul_add]
  have e1 : a * 4294967296 * (c * 4294967296) = a * c * 18446744073709551616 := by
    rw [Nat.mul_mul_mul_comm]
  have e2 : a * 4294967296 * d = a * d * 4294967296 := Nat.mul_right_comm _ _ _
  have e3 : b * (c * 4294967296) = b * c * 4294967296 := (Nat.mul_assoc _ _ _).symm
  omega
theorem mul64_ok (w : World) (x y : Nat) (hx : x ≤ 1099511627776) (hy : y ≤ 1099511627776) : Ok Tryz.prog 113 [.int .u64 (x : Int), .int .u64 (y : Int)].toArray w fun r _ => r = .tuple #[.int .u64 ((x * y / 18446744073709551616 : Nat) : Int), .int .u64 ((x * y % 18446744073709551616 : Nat) : Int)] := by
  have hlaw := mul64_law (x := x) (y := y)
  have a1 : x / 4294967296 ≤ 256 := by omega
  have a2 : y / 4294967296 ≤ 256 := by omega
  have a3 : x % 4294967296 ≤ 4294967295 := by omega
  have a4 : y % 4294967296 ≤ 4294967295 := by omega
  have m1 : (x / 4294967296) * (y / 4294967296) ≤ 256 * 256 := Nat.mul_le_mul a1 a2
  have m2 : (x / 4294967296) * (y % 4294967296) ≤ 256 * 4294967295 := Nat.mul_le_mul a1 a4
  have m3 : (x % 4294967296) * (y / 4294967296) ≤ 4294967295 * 256 := Nat.mul_le_mul a3 a2
  have m4 : (x % 4294967296) * (y % 4294967296) ≤ 4294967295 * 4294967295 := Nat.mul_le_mul a3 a4
  generalize hA : (x / 4294967296) * (y / 4294967296) = A at *
  generalize hB : (x / 4294967296) * (y % 4294967296) = B at *
  generalize hC : (x % 4294967296) * (y / 4294967296) = C at *
  generalize hD : (x % 4294967296) * (y % 4294967296) = D at *
  refine ok_enter Tryz.func113 rfl Tryz.ntmps113 rfl ?_
  focus (refine gc_seq ?_; refine gc_region ?_; apply gw_d; exact det_m rfl rfl (by conv => (lhs; whnf)); apply gw_d; exact det_m rfl rfl (by conv => (lhs; whnf)); refine gw_nil ?_; refine gx_next ?_; refine gc_seq ?_; refine gc_region ?_; apply gw_d; exact det_m rfl rfl (by conv => (lhs; whnf)); apply gw_d; exact det_andM (by omega) rfl rfl rfl rfl; apply gw_d; exact det_m rfl rfl (by conv => (lhs; whnf)); refine gw_nil ?_; refine gx_next ?_; refine gc_seq ?_; refine gc_region ?_; apply gw_d; exact det_m rfl rfl (by conv => (lhs; whnf)); apply gw_d; exact det_shr rfl rfl rfl rfl (by decide) (fdiv_nat _ 4294967296); apply gw_d; exact det_m rfl rfl (by conv => (lhs; whnf)); refine gw_nil ?_; refine gx_next ?_; refine gc_seq ?_; refine gc_region ?_; apply gw_d; exact det_m rfl rfl (by conv => (lhs; whnf)); apply gw_d; exact det_andM (by omega) rfl rfl rfl rfl; apply gw_d; exact det_m rfl rfl (by conv => (lhs; whnf)); refine gw_nil ?_; refine gx_next ?_; refine gc_seq ?_; refine gc_region ?_; apply gw_d; exact det_m rfl rfl (by conv => (lhs; whnf)); apply gw_d; exact det_shr rfl rfl rfl rfl (by decide) (fdiv_nat _ 4294967296); apply gw_d; exact det_m rfl rfl (by conv => (lhs; whnf)); refine gw_nil ?_; refine gx_next ?_; refine gc_seq ?_; refine gc_region ?_; apply gw_d; exact det_m rfl rfl (by conv => (lhs; whnf)); apply gw_d; exact det_m rfl rfl (by conv => (lhs; whnf)); apply gw_d; exact det_mulU rfl rfl rfl rfl; apply gw_d; exact det_m rfl rfl (by conv => (lhs; whnf)); refine gw_nil ?_; refine gx_next ?_; refine gc_seq ?_; refine gc_region ?_; apply gw_d; exact det_m rfl rfl (by conv => (lhs; whnf)); apply gw_d; exact det_m rfl rfl (by conv => (lhs; whnf)); apply gw_d; exact det_mulU rfl rfl rfl rfl; apply gw_d; exact det_m rfl rfl (by conv => (lhs; whnf)); apply gw_d; exact det_shr rfl rfl rfl rfl (by decide) (fdiv_nat _ 4294967296); apply gw_d; exact det_addU rfl rfl rfl rfl; apply gw_d; exact det_m rfl rfl (by conv => (lhs; whnf)); refine gw_nil ?_; refine gx_next ?_; refine gc_seq ?_; refine gc_region ?_; apply gw_d; exact det_m rfl rfl (by conv => (lhs; whnf)); apply gw_d; exact det_andM (by omega) rfl rfl rfl rfl; apply gw_d; exact det_m rfl rfl (by conv => (lhs; whnf)); refine gw_nil ?_; refine gx_next ?_; refine gc_seq ?_; refine gc_region ?_; apply gw_d; exact det_m rfl rfl (by conv => (lhs; whnf)); apply gw_d; exact det_shr rfl rfl rfl rfl (by decide) (fdiv_nat _ 4294967296); apply gw_d; exact det_m rfl rfl (by conv => (lhs; whnf)); refine gw_nil ?_; refine gx_next ?_; refine gc_seq ?_; refine gc_region ?_; apply gw_d; exact det_m rfl rfl (by conv => (lhs; whnf)); apply gw_d; exact det_m rfl rfl (by conv => (lhs; whnf)); apply gw_d; exact det_m rfl rfl (by conv => (lhs; whnf)); apply gw_d; exact det_mulU rfl rfl rfl rfl; apply gw_d; exact det_addU rfl rfl rfl rfl; apply gw_d; exact det_m rfl rfl (by conv => (lhs; whnf)); refine gw_nil ?_; refine gx_next ?_; refine gc_seq ?_; refine gc_region ?_; apply gw_d; exact det_m rfl rfl (by conv => (lhs; whnf)); apply gw_d; exact det_m rfl rfl (by conv => (lhs; whnf)); apply gw_d; exact det_mulU rfl rfl rfl rfl; apply gw_d; exact det_m rfl rfl (by conv => (lhs; whnf)); apply gw_d; exact det_addU rfl rfl rfl rfl; apply gw_d; exact det_m rfl rfl (by conv => (lhs; whnf)); apply gw_d; exact det_shr rfl rfl rfl rfl (by decide) (fdiv_nat _ 4294967296); apply gw_d; exact det_addU rfl rfl rfl rfl; apply gw_d; exact det_m rfl rfl (by conv => (lhs; whnf)); refine gw_nil ?_; refine gx_next ?_; refine gc_seq ?_; refine gc_region ?_; apply gw_d; exact det_m rfl rfl (by conv => (lhs; whnf)); apply gw_d; exact det_m rfl rfl (by conv => (lhs; whnf)); apply gw_d; exact det_mulU rfl rfl rfl rfl; apply gw_d; exact det_m rfl rfl (by conv => (lhs; whnf)); refine gw_nil ?_; refine gx_next ?_; refine gc_ret ?_)
  (set_option pp.maxSteps 60 in set_option pp.deepTerms false in trace_state)
  refine gx_ret2 (u := .int _ _) (v := .int _ _) rfl rfl rfl (fun _ _ => ?_)
  rw [hA, hB, hC, hD]
  have hlo : x * y % 18446744073709551616 = x * y % 18446744073709551616 := rfl
  have hhi : ((A % 18446744073709551616 + (B % 18446744073709551616 + D % 18446744073709551616 / 4294967296) % 18446744073709551616 / 4294967296) % 18446744073709551616 + ((B % 18446744073709551616 + D % 18446744073709551616 / 4294967296) % 18446744073709551616 % 4294967296 + C % 18446744073709551616) % 18446744073709551616 / 4294967296) % 18446744073709551616 = x * y / 18446744073709551616 := by
    rw [hlaw]
    omega
  rw [hhi]
end Go.Proofs.YteiboodeepjanaaGreat
