/- Contracts: square roots and lengths of polylines. -/
import Derived.Test.YteiboodeepjanaaGreatN2
import Derived.Test.YteiboodeepjanaaGreatC4
namespace Go.Proofs.YteiboodeepjanaaGreat
open Go.RowKit
set_option maxRecDepth 100000
set_option maxHeartbeats 4000000

section
variable {P : Program} {ops : Array Oper} {N : Nat} {w0 : World} {L : List Res} {e : Env} {o : Oper} {t : TypeId} {x y : Operand}
theorem det_shl {k k' : IntKind} {i j r : Int} {yt : TypeId} (hop : o.op = .binOp .shl t x y yt) (hw : wantedE N ops e o = true) (hx : ev N e x = .int k i) (hy : ev N e y = .int k' j) (hj : 0 ≤ j) (hr : k.wrap (i * 2 ^ (min j.toNat k.bits)) = r) : Det P ops N w0 L o e (.int k r) :=
  det_pure hw fun w => by
    have : ¬ j < 0 := by omega
    unfold execOp
    simp [hop, hx, hy, binOp, Op.shift, this, hr, eqGuard]
end
theorem two_pow_cast (k : Nat) : (2 : Int) ^ k = ((2 ^ k : Nat) : Int) := by
  rw [Int.natCast_pow]
  rfl
theorem isq_small {n : Nat} (h : n < 2) : isq n = n := by
  obtain rfl | rfl : n = 0 ∨ n = 1 := by omega
  · rfl
  · rfl
/-- The first x is above the root. -/
theorem first_x {n : Nat} (h : n < 18446744073709551616) : isq n ≤ 2 ^ ((l64 n + 1) / 2) ∧ (l64 n + 1) / 2 ≤ 32 := by
  obtain ⟨h1, h2⟩ := l64_lt h
  refine ⟨isq_le ?_, by omega⟩
  have h3 : 2 ^ l64 n ≤ 2 ^ ((l64 n + 1) / 2) * 2 ^ ((l64 n + 1) / 2) := by
    rw [← Nat.pow_add]
    exact Nat.pow_le_pow_right (by decide) (by omega)
  have h4 : 2 ^ ((l64 n + 1) / 2) * 2 ^ ((l64 n + 1) / 2) ≤ (2 ^ ((l64 n + 1) / 2) + 1) * (2 ^ ((l64 n + 1) / 2) + 1) := Nat.mul_le_mul (by omega) (by omega)
  omega
theorem root_ok (w : World) (n : Nat) (hn : n ≤ 9223372036854775807) : Ok Tryz.prog 132 [.int .i64 (n : Int)].toArray w fun r _ => r = .int .i64 (isq n : Int) := by
  obtain ⟨f1, f2⟩ := first_x (n := n) (by omega)
  have hl := (l64_lt (z := n) (by omega)).2
  have hp32 : 2 ^ ((l64 n + 1) / 2) ≤ 2 ^ 32 := Nat.pow_le_pow_right (by decide) f2
  have hp0 : 0 < 2 ^ ((l64 n + 1) / 2) := Nat.two_pow_pos _
  have hshl : IntKind.i64.wrap (1 * 2 ^ (min (((l64 n : Int) + 1) / 2).toNat IntKind.i64.bits)) = ((2 ^ ((l64 n + 1) / 2) : Nat) : Int) := by
    have e1 : (((l64 n : Int) + 1) / 2).toNat = (l64 n + 1) / 2 := by omega
    have e2 : IntKind.i64.bits = 64 := rfl
    rw [e1, e2, Nat.min_eq_left (by omega), Int.one_mul, two_pow_cast, IntKind.wrap_i64]
    have : (2 : Nat) ^ 32 = 4294967296 := rfl
    omega
  have hw64 : IntKind.u64.wrap (n : Int) = (n : Int) := by
    have : IntKind.u64.wrap (n : Int) = (n : Int) % 18446744073709551616 := rfl
    rw [this]
    omega
  refine ok_enter Tryz.func132 rfl Tryz.ntmps132 rfl ?_
  focus (refine gc_seq ?_; refine gc_region ?_; apply gw_d; exact det_m rfl rfl (by conv => (lhs; whnf)); refine gw_nil ?_; refine gx_next ?_; refine gc_seq ?_; refine gc_seq ?_; refine gc_region ?_; apply gw_d; exact det_m rfl rfl (by conv => (lhs; whnf)); apply gw_d; exact det_cmp rfl rfl rfl rfl rfl; refine gw_nil ?_; refine gx_next ?_)
  refine gc_if_dec rfl (fun h => ?_) (fun h => ?_)
  · focus (refine gc_seq ?_; refine gc_region ?_; apply gw_d; exact det_m rfl rfl (by conv => (lhs; whnf)); apply gw_d; exact det_m rfl rfl (by conv => (lhs; whnf)); refine gw_nil ?_; refine gx_next ?_; refine gc_ret ?_; refine gx_then_ret ?_)
    refine gx_ret1 (v := .int _ _) rfl rfl (fun _ _ => ?_)
    rw [isq_small (by omega)]
  focus (refine gc_skip ?_; refine gx_next ?_; refine gc_seq ?_; refine gc_region ?_; apply gw_d; exact det_m rfl rfl (by conv => (lhs; whnf)); apply gw_d; exact det_conv rfl rfl rfl hw64; apply gw_d; exact w_call rfl rfl (fun w _ => len_ok w n (by omega)) rfl; apply gw_d; exact det_ar rfl rfl rfl rfl rfl (by omega); apply gw_d; exact det_quo rfl rfl rfl rfl (by omega) (by omega) (by omega); apply gw_d; exact det_shl rfl rfl rfl rfl (by omega) hshl; apply gw_d; exact det_m rfl rfl (by conv => (lhs; whnf)); refine gw_nil ?_; refine gx_next ?_; refine gc_block ?_)
  refine gc_loopK (σ := Nat) [14, 15, 16, 17, 18, 19, 4, 20, 21, 22, 23, 2, 24, 3] (fun x => [(3, .int .i64 (x : Int))]) (fun x => isq n ≤ x ∧ 0 < x ∧ x ≤ 4294967296) (fun x => x) (2 ^ ((l64 n + 1) / 2)) ⟨f1, hp0, hp32⟩ ⟨rfl, trivial⟩ ?_
  rintro x base ⟨hx1, hx2, hx3⟩
  obtain ⟨s1, s2⟩ := nt_step hx2 hx1
  have hdiv : (n : Int) / (x : Int) = ((n / x : Nat) : Int) := rfl
  have hq : n / x ≤ x + 2 := by
    have h1 := (isq_spec n).2
    have h2 : (isq n + 1) * (isq n + 1) ≤ (x + 1) * (x + 1) := Nat.mul_le_mul (by omega) (by omega)
    have h3 : (x + 1) * (x + 1) = x * (x + 2) + 1 := by
      simp only [Nat.add_mul, Nat.mul_add]
      omega
    exact Nat.div_le_of_le_mul (by omega)
  have hi1 : 1 ≤ isq n := le_isq (by omega)
  have hqi : (n : Int) / (x : Int) ≤ x + 2 ∧ 0 ≤ (n : Int) / (x : Int) := by
    rw [hdiv]
    exact ⟨Int.ofNat_le.2 hq, Int.natCast_nonneg _⟩
  have hy : ((x : Int) + (n : Int) / (x : Int)) / 2 = (((x + n / x) / 2 : Nat) : Int) := by
    rw [hdiv]
    omega
  focus (refine gc_block ?_; refine gc_seq ?_; refine gc_region ?_; apply gw_d; exact det_m rfl rfl (by conv => (lhs; whnf)); apply gw_d; exact det_m rfl rfl (by conv => (lhs; whnf)); apply gw_d; exact det_m rfl rfl (by conv => (lhs; whnf)); apply gw_d; exact det_quo rfl rfl rfl rfl (by omega) (by omega) (by omega); apply gw_d; exact det_ar rfl rfl rfl rfl rfl (by omega); apply gw_d; exact det_quo rfl rfl rfl rfl (by omega) (by omega) (by omega); apply gw_d; exact det_m rfl rfl (by conv => (lhs; whnf)); refine gw_nil ?_; refine gx_next ?_; refine gc_seq ?_; refine gc_seq ?_; refine gc_region ?_; apply gw_d; exact det_m rfl rfl (by conv => (lhs; whnf)); apply gw_d; exact det_m rfl rfl (by conv => (lhs; whnf)); apply gw_d; exact det_cmp rfl rfl rfl rfl rfl; refine gw_nil ?_; refine gx_next ?_)
  refine gc_if_dec rfl (fun h2 => ?_) (fun h2 => ?_)
  · focus (refine gc_seq ?_; refine gc_region ?_; apply gw_d; exact det_m rfl rfl (by conv => (lhs; whnf)); apply gw_d; exact det_m rfl rfl (by conv => (lhs; whnf)); refine gw_nil ?_; refine gx_next ?_; refine gc_ret ?_; refine gx_then_ret ?_; refine gx_block_ret ?_; refine gx_then_ret ?_; refine gx_block_ret ?_)
    refine gx_ret1 (v := .int _ _) rfl rfl (fun _ _ => ?_)
    rw [hy] at h2
    have := s2 (by omega)
    rw [← this]
  · rw [hy] at h2 ⊢
    focus (refine gc_skip ?_; refine gx_next ?_; refine gc_region ?_; apply gw_d; exact det_m rfl rfl (by conv => (lhs; whnf)); apply gw_d; exact det_m rfl rfl (by conv => (lhs; whnf)); refine gw_nil ?_; refine gx_block ?_)
    exact gx_round ((x + n / x) / 2) ⟨s1, by omega, by omega⟩ (by omega) (by repeat (first | exact Keeps.refl | refine Keeps.upd rfl ?_ | refine Keeps.sets rfl ?_ | refine Keeps.havoc rfl ?_)) ⟨rfl, trivial⟩ (Sub.all _)
/-! ### Segments and polylines -/
def segN (p q : Int × Int) : Nat := (1000000 * ((q.1 - p.1) * (q.1 - p.1) + (q.2 - p.2) * (q.2 - p.2))).toNat
def segL (p q : Int × Int) : Int := (isq (segN p q) : Int)
theorem sq_range {d : Int} (h : -2097152 ≤ d ∧ d ≤ 2097152) : 0 ≤ d * d ∧ d * d ≤ 4398046511104 := by
  rcases Int.le_total 0 d with h1 | h1
  · have a := Int.mul_nonneg h1 h1
    have b : d * d ≤ 2097152 * 2097152 := Int.mul_le_mul h.2 h.2 h1 (by decide)
    omega
  · have e : d * d = (-d) * (-d) := by rw [Int.neg_mul_neg]
    have h2 : 0 ≤ -d := by omega
    have a := Int.mul_nonneg h2 h2
    have b : (-d) * (-d) ≤ 2097152 * 2097152 := Int.mul_le_mul (by omega) (by omega) h2 (by decide)
    omega
def nearP (p : Int × Int) : Prop := (-1048576 ≤ p.1 ∧ p.1 ≤ 1048576) ∧ (-1048576 ≤ p.2 ∧ p.2 ≤ 1048576)
theorem segment_ok (w : World) (p q : Int × Int) (hp : nearP p) (hq : nearP q) : Ok Tryz.prog 112 [.agg #[.int .i64 p.1, .int .i64 p.2], .agg #[.int .i64 q.1, .int .i64 q.2]].toArray w fun r _ => r = .int .i64 (segL p q) := by
  obtain ⟨p1, p2⟩ := hp
  obtain ⟨q1, q2⟩ := hq
  have s1 := sq_range (d := q.1 - p.1) (by omega)
  have s2 := sq_range (d := q.2 - p.2) (by omega)
  have hv : ((segN p q : Nat) : Int) = 1000000 * ((q.1 - p.1) * (q.1 - p.1) + (q.2 - p.2) * (q.2 - p.2)) := by
    unfold segN
    omega
  have hR : ∀ (L : List Res) (w' : World), St w L w' → Ok Tryz.prog 132 [.int .i64 (1000000 * ((q.1 - p.1) * (q.1 - p.1) + (q.2 - p.2) * (q.2 - p.2)))].toArray w' fun r _ => r = .int .i64 (segL p q) := fun L w' _ => by
    have := root_ok w' (segN p q) (by omega)
    rw [hv] at this
    exact this
  refine ok_enter Tryz.func112 rfl Tryz.ntmps112 rfl ?_
  focus (refine gc_seq ?_; refine gc_region ?_; refine gw_boxd (v := .agg _) rfl rfl (fun _ => ?_); refine gw_boxd (v := .agg _) rfl rfl (fun _ => ?_); apply gw_d; exact det_m rfl rfl (by conv => (lhs; whnf)); refine gw_nil ?_; refine gx_next ?_; refine gc_seq ?_)
  refine gc_draw2 11 (by kernel_rfl) (by kernel_rfl) ?_
  focus (apply gd_d; exact w_field rfl rfl rfl; apply gd_d; exact w_load_box rfl rfl rfl .here rfl; apply gd_d; exact w_field rfl rfl rfl; apply gd_d; exact w_load_box rfl rfl rfl (.there .here) rfl; apply gd_d; exact det_ar rfl rfl rfl rfl rfl (by omega); apply gd_d; exact w_field rfl rfl rfl; apply gd_d; exact w_load_box rfl rfl rfl .here rfl; apply gd_d; exact w_field rfl rfl rfl; apply gd_d; exact w_load_box rfl rfl rfl (.there .here) rfl; apply gd_d; exact det_ar rfl rfl rfl rfl rfl (by omega); apply gd_d; exact det_m rfl rfl (by conv => (lhs; whnf)); refine gd_nil ?_; apply gw_d; exact det_m rfl rfl (by conv => (lhs; whnf)); refine gw_nil ?_; refine gx_next ?_; refine gc_seq ?_; refine gc_region ?_; apply gw_d; exact det_m rfl rfl (by conv => (lhs; whnf)); apply gw_d; exact det_m rfl rfl (by conv => (lhs; whnf)); apply gw_d; exact det_ar rfl rfl rfl rfl rfl (by omega); apply gw_d; exact det_m rfl rfl (by conv => (lhs; whnf)); apply gw_d; exact det_m rfl rfl (by conv => (lhs; whnf)); apply gw_d; exact det_ar rfl rfl rfl rfl rfl (by omega); apply gw_d; exact det_ar rfl rfl rfl rfl rfl (by omega); apply gw_d; exact det_ar rfl rfl rfl rfl rfl (by omega); apply gw_d; exact w_call rfl rfl (hR _) rfl; apply gw_d; exact det_m rfl rfl (by conv => (lhs; whnf)); refine gw_nil ?_; refine gx_next ?_; refine gc_ret ?_)
  refine gx_ret1 (v := .int _ _) rfl rfl (fun _ _ => ?_)
  rfl
end Go.Proofs.YteiboodeepjanaaGreat
