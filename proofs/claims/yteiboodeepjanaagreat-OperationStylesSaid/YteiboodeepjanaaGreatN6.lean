/- The quotient of two words by one: it comes back. -/
import Derived.Test.YteiboodeepjanaaGreatN5
namespace Go.Proofs.YteiboodeepjanaaGreat
open Go.RowKit
set_option maxRecDepth 100000
set_option maxHeartbeats 8000000

section
variable {P : Program} {ops : Array Oper} {N : Nat} {w0 : World} {L : List Res} {e : Env} {o : Oper} {t : TypeId} {x y : Operand}
theorem pow_cast (k : Nat) : (2 : Int) ^ k = ((2 ^ k : Nat) : Int) := by
  rw [Int.natCast_pow]
  rfl
theorem det_quoU {i j : Nat} {yt : TypeId} (hi : i < 18446744073709551616) (hj : 0 < j) (hop : o.op = .binOp .quo t x y yt) (hw : wantedE N ops e o = true) (hx : ev N e x = .int .u64 (i : Int)) (hy : ev N e y = .int .u64 (j : Int)) : Det P ops N w0 L o e (.int .u64 ((i / j : Nat) : Int)) :=
  det_pure hw fun _ => by
    have h0 : ¬ (j : Int) = 0 := by omega
    have h1 : (i : Int).tdiv (j : Int) = ((i / j : Nat) : Int) := by rw [Int.tdiv_eq_ediv_of_nonneg (by omega)]; rfl
    have h2 : i / j ≤ i := Nat.div_le_self _ _
    have h : IntKind.u64.wrap ((i / j : Nat) : Int) = ((i / j : Nat) : Int) := by rw [u64w]; exact Int.emod_eq_of_lt (Int.natCast_nonneg _) (by have : ((i / j : Nat) : Int) ≤ (i : Int) := Int.ofNat_le.2 h2; omega)
    have h0' : ¬ j = 0 := by omega
    unfold execOp
    simp only [hop, hx, hy, eqGuard, binOp, Op.intDiv, h1]
    simp [h0']
    exact h
theorem rhat_lt {u d : Nat} (hu : u < 18446744073709551616) (hd : 0 < d) : (u + (18446744073709551616 - u / d * d % 18446744073709551616)) % 18446744073709551616 < d := by
  have h1 : u / d * d ≤ u := Nat.div_mul_le_self _ _
  have h2 : u < u / d * d + d := by
    have := Nat.lt_div_mul_add (a := u) hd
    omega
  omega
theorem det_remU {i j : Nat} {yt : TypeId} (hj : 0 < j) (hop : o.op = .binOp .rem t x y yt) (hw : wantedE N ops e o = true) (hx : ev N e x = .int .u64 (i : Int)) (hy : ev N e y = .int .u64 (j : Int)) : Det P ops N w0 L o e (.int .u64 ((i % j : Nat) : Int)) :=
  det_pure hw fun _ => by
    have h1 : (i : Int).tmod (j : Int) = ((i % j : Nat) : Int) := by rw [Int.tmod_eq_emod_of_nonneg (by omega)]; rfl
    have h0' : ¬ j = 0 := by omega
    unfold execOp
    simp only [hop, hx, hy, eqGuard, binOp, Op.intDiv, h1]
    simp [h0']
theorem det_shlU {i s : Nat} {yt : TypeId} (hop : o.op = .binOp .shl t x y yt) (hw : wantedE N ops e o = true) (hx : ev N e x = .int .u64 (i : Int)) (hy : ev N e y = .int .u64 (s : Int)) : Det P ops N w0 L o e (.int .u64 ((i * 2 ^ (min s 64) % 18446744073709551616 : Nat) : Int)) :=
  det_pure hw fun w => by
    have h0 : ¬ (s : Int) < 0 := by omega
    have h1 : IntKind.u64.wrap ((i : Int) * 2 ^ (min s 64)) = ((i * 2 ^ (min s 64) % 18446744073709551616 : Nat) : Int) := by
      rw [u64w, pow_cast, Int.natCast_emod, Int.natCast_mul]
      rfl
    have h2 : IntKind.u64.bits = 64 := rfl
    unfold execOp
    simp only [hop, hx, hy, binOp, Op.shift, eqGuard, if_neg h0, h2, Int.toNat_natCast, h1]
    rfl
theorem det_shrU {i s : Nat} {yt : TypeId} (hop : o.op = .binOp .shr t x y yt) (hw : wantedE N ops e o = true) (hx : ev N e x = .int .u64 (i : Int)) (hy : ev N e y = .int .u64 (s : Int)) : Det P ops N w0 L o e (.int .u64 ((i / 2 ^ (min s 64) : Nat) : Int)) :=
  det_pure hw fun w => by
    have h0 : ¬ (s : Int) < 0 := by omega
    have h1 : ((i : Int).fdiv (2 ^ (min s 64))) = ((i / 2 ^ (min s 64) : Nat) : Int) := by rw [pow_cast]; exact fdiv_nat _ _
    have h2 : IntKind.u64.bits = 64 := rfl
    unfold execOp
    simp only [hop, hx, hy, binOp, Op.shift, eqGuard, if_neg h0, h2, Int.toNat_natCast, h1]
    rfl
end
theorem l8_low_all : ((List.range 256).all fun z => Nat.beq z 0 || decide (2 ^ l8 z ≤ 2 * z)) = true := by kernel_rfl
theorem l8_low {z : Nat} (h : z < 256) (h0 : 0 < z) : 2 ^ l8 z ≤ 2 * z := by
  have := List.all_eq_true.1 l8_low_all z (List.mem_range.2 h)
  rw [Bool.or_eq_true] at this
  rcases this with h1 | h1
  · have := Nat.eq_of_beq_eq_true h1; omega
  · exact of_decide_eq_true h1
theorem up_low {z k a b : Nat} (hb : b = 2 ^ a) (h : 2 ^ k ≤ 2 * (z / b)) : 2 ^ (k + a) ≤ 2 * z := by
  rw [Nat.pow_add, ← hb]
  have h1 := Nat.mul_le_mul_right b h
  have h2 : z / b * b ≤ z := Nat.div_mul_le_self _ _
  have h3 : 2 * (z / b) * b = 2 * (z / b * b) := Nat.mul_assoc _ _ _
  omega
theorem l64_low {z : Nat} (h : z < 18446744073709551616) (h0 : 0 < z) : 2 ^ l64 z ≤ 2 * z := by
  have s16 : ∀ z, z < 65536 → 0 < z → 2 ^ l16 z ≤ 2 * z := fun z h h0 => by
    unfold l16
    split
    · exact up_low (by decide) (l8_low (by omega) (by omega))
    · exact l8_low (by omega) h0
  have s32 : ∀ z, z < 4294967296 → 0 < z → 2 ^ l32 z ≤ 2 * z := fun z h h0 => by
    unfold l32
    split
    · exact up_low (by decide) (s16 _ (by omega) (by omega))
    · exact s16 _ (by omega) h0
  unfold l64
  split
  · exact up_low (by decide) (s32 _ (by omega) (by omega))
  · exact s32 _ (by omega) h0
theorem lz64_ok (w : World) (x : Nat) (hx : x < 18446744073709551616) : Ok Tryz.prog 133 [.int .u64 (x : Int)].toArray w fun r _ => r = .int .i64 ((64 - l64 x : Nat) : Int) := by
  have hl := (l64_lt hx).2
  refine ok_enter Tryz.func133 rfl Tryz.ntmps133 rfl ?_
  (repeat (first | (apply gw_d; (first | exact det_not rfl | (apply of_move; exact rfl; first | exact det_m rfl rfl (by conv => (lhs; whnf))) | (apply of_field; exact rfl; first | exact w_field rfl rfl rfl) | (apply of_load; exact rfl; first | exact w_load_box rfl rfl rfl .here rfl | exact w_load_box rfl rfl rfl (.there .here) rfl | exact w_load_at rfl rfl rfl (by assumption) (by assumption) | exact w_load_fld rfl rfl rfl (by assumption) (by assumption) | exact w_load_box rfl rfl rfl (.there (.there .here)) rfl | exact w_load_box rfl rfl rfl (.there (.there (.there .here))) rfl | exact w_load_box rfl rfl rfl (.there (.there (.there (.there .here)))) rfl | exact w_load_boxN rfl rfl rfl .here rfl | exact w_load_boxN rfl rfl rfl (.there .here) rfl | exact w_load_boxN rfl rfl rfl (.there (.there .here)) rfl | exact w_load_boxN rfl rfl rfl (.there (.there (.there .here))) rfl | exact w_load_boxN rfl rfl rfl (.there (.there (.there (.there .here)))) rfl | exact w_load_elem rfl rfl rfl (by assumption) (by assumption) (by rfl) | exact w_load_part rfl rfl rfl .here rfl rfl | exact w_load_part rfl rfl rfl (.there .here) rfl rfl | exact w_load_part rfl rfl rfl (.there (.there .here)) rfl rfl | exact w_load_part rfl rfl rfl (.there (.there (.there .here))) rfl rfl | exact w_load_part rfl rfl rfl (.there (.there (.there (.there .here)))) rfl rfl) | (apply of_bin; exact rfl; first | exact det_cmp rfl rfl rfl rfl rfl | exact det_ar rfl rfl rfl rfl rfl (by omega) | exact w_eq2 rfl rfl rfl rfl | exact w_ne2 rfl rfl rfl rfl | exact det_rem rfl rfl rfl rfl (by omega) (by omega) | exact det_quo rfl rfl rfl rfl (by omega) (by omega) (by omega) | exact det_seq rfl rfl rfl rfl | exact det_sne rfl rfl rfl rfl | exact det_beq rfl rfl rfl rfl rfl | exact det_bne rfl rfl rfl rfl rfl) | exact w_call rfl rfl (fun w _ => len64_ok w x hx) rfl | (apply of_call; exact rfl; first | exact w_call rfl rfl (fun w _ => len64_ok w x hx) rfl | exact w_len rfl rfl rfl | exact w_len_str rfl rfl rfl | exact w_max rfl rfl rfl rfl | exact w_min rfl rfl rfl rfl) | (apply of_index; exact rfl; first | exact w_index rfl rfl rfl rfl (by first | with_reducible exact rfl | with_reducible exact castA _ | with_reducible exact castS (by omega) | with_reducible exact castM _ _ | with_reducible exact cast0 | with_reducible exact castC _ _ | with_reducible exact castN _ _ | with_reducible exact castR _ _ | with_reducible exact castB _ | with_reducible exact cast1 | exact rfl) (by first | omega | exact Nat.mod_lt _ (by omega))) | (apply of_un; exact rfl; first | exact det_not_dec rfl rfl rfl | exact det_not_ rfl rfl rfl) | (apply of_pick; exact rfl; first | exact det_pick_t (v := .bool _) rfl rfl rfl rfl | exact det_pick_f (v := .bool _) rfl rfl rfl rfl) | (apply of_extract; exact rfl; first | exact det_extract rfl rfl rfl (by conv => (lhs; whnf))) | (apply of_cut; exact rfl; first | exact w_cut_hi rfl rfl rfl rfl (by first | with_reducible exact rfl | with_reducible exact castA _ | with_reducible exact castS (by omega) | with_reducible exact castM _ _ | with_reducible exact cast0 | with_reducible exact castC _ _ | with_reducible exact castN _ _ | with_reducible exact castR _ _ | with_reducible exact castB _ | with_reducible exact cast1 | exact rfl) (by omega)) | (apply of_sidx; exact rfl; first | exact w_sidx rfl rfl rfl rfl (by first | with_reducible exact rfl | with_reducible exact castA _ | with_reducible exact castS (by omega) | with_reducible exact castM _ _ | with_reducible exact cast0 | with_reducible exact castC _ _ | with_reducible exact castN _ _ | with_reducible exact castR _ _ | with_reducible exact castB _ | with_reducible exact cast1 | exact rfl) (by first | omega | exact Nat.mod_lt _ (by omega))))) | (apply gd_d; (first | exact det_not rfl | (apply of_move; exact rfl; first | exact det_m rfl rfl (by conv => (lhs; whnf))) | (apply of_field; exact rfl; first | exact w_field rfl rfl rfl) | (apply of_load; exact rfl; first | exact w_load_box rfl rfl rfl .here rfl | exact w_load_box rfl rfl rfl (.there .here) rfl | exact w_load_at rfl rfl rfl (by assumption) (by assumption) | exact w_load_fld rfl rfl rfl (by assumption) (by assumption) | exact w_load_box rfl rfl rfl (.there (.there .here)) rfl | exact w_load_box rfl rfl rfl (.there (.there (.there .here))) rfl | exact w_load_box rfl rfl rfl (.there (.there (.there (.there .here)))) rfl | exact w_load_boxN rfl rfl rfl .here rfl | exact w_load_boxN rfl rfl rfl (.there .here) rfl | exact w_load_boxN rfl rfl rfl (.there (.there .here)) rfl | exact w_load_boxN rfl rfl rfl (.there (.there (.there .here))) rfl | exact w_load_boxN rfl rfl rfl (.there (.there (.there (.there .here)))) rfl | exact w_load_elem rfl rfl rfl (by assumption) (by assumption) (by rfl) | exact w_load_part rfl rfl rfl .here rfl rfl | exact w_load_part rfl rfl rfl (.there .here) rfl rfl | exact w_load_part rfl rfl rfl (.there (.there .here)) rfl rfl | exact w_load_part rfl rfl rfl (.there (.there (.there .here))) rfl rfl | exact w_load_part rfl rfl rfl (.there (.there (.there (.there .here)))) rfl rfl) | (apply of_bin; exact rfl; first | exact det_cmp rfl rfl rfl rfl rfl | exact det_ar rfl rfl rfl rfl rfl (by omega) | exact w_eq2 rfl rfl rfl rfl | exact w_ne2 rfl rfl rfl rfl | exact det_rem rfl rfl rfl rfl (by omega) (by omega) | exact det_quo rfl rfl rfl rfl (by omega) (by omega) (by omega) | exact det_seq rfl rfl rfl rfl | exact det_sne rfl rfl rfl rfl | exact det_beq rfl rfl rfl rfl rfl | exact det_bne rfl rfl rfl rfl rfl) | exact w_call rfl rfl (fun w _ => len64_ok w x hx) rfl | (apply of_call; exact rfl; first | exact w_call rfl rfl (fun w _ => len64_ok w x hx) rfl | exact w_len rfl rfl rfl | exact w_len_str rfl rfl rfl | exact w_max rfl rfl rfl rfl | exact w_min rfl rfl rfl rfl) | (apply of_index; exact rfl; first | exact w_index rfl rfl rfl rfl (by first | with_reducible exact rfl | with_reducible exact castA _ | with_reducible exact castS (by omega) | with_reducible exact castM _ _ | with_reducible exact cast0 | with_reducible exact castC _ _ | with_reducible exact castN _ _ | with_reducible exact castR _ _ | with_reducible exact castB _ | with_reducible exact cast1 | exact rfl) (by first | omega | exact Nat.mod_lt _ (by omega))) | (apply of_un; exact rfl; first | exact det_not_dec rfl rfl rfl | exact det_not_ rfl rfl rfl) | (apply of_pick; exact rfl; first | exact det_pick_t (v := .bool _) rfl rfl rfl rfl | exact det_pick_f (v := .bool _) rfl rfl rfl rfl) | (apply of_extract; exact rfl; first | exact det_extract rfl rfl rfl (by conv => (lhs; whnf))) | (apply of_cut; exact rfl; first | exact w_cut_hi rfl rfl rfl rfl (by first | with_reducible exact rfl | with_reducible exact castA _ | with_reducible exact castS (by omega) | with_reducible exact castM _ _ | with_reducible exact cast0 | with_reducible exact castC _ _ | with_reducible exact castN _ _ | with_reducible exact castR _ _ | with_reducible exact castB _ | with_reducible exact cast1 | exact rfl) (by omega)) | (apply of_sidx; exact rfl; first | exact w_sidx rfl rfl rfl rfl (by first | with_reducible exact rfl | with_reducible exact castA _ | with_reducible exact castS (by omega) | with_reducible exact castM _ _ | with_reducible exact cast0 | with_reducible exact castC _ _ | with_reducible exact castN _ _ | with_reducible exact castR _ _ | with_reducible exact castB _ | with_reducible exact cast1 | exact rfl) (by first | omega | exact Nat.mod_lt _ (by omega))))) | refine gw_nil ?_ | refine gx_next ?_ | refine gc_seq ?_ | refine gc_region ?_ | refine gc_block ?_ | refine gc_skip ?_ | refine gc_exit ?_ | refine gc_ret ?_ | refine gx_block ?_ | refine gx_block_exit ?_ | refine gx_block_ret ?_ | refine gx_then_ret ?_ | refine gx_then_exit ?_ | refine gx_block_other rfl ?_ | refine gd_nil ?_))
  refine gx_ret1 (v := .int _ _) rfl rfl (fun _ _ => ?_)
  congr 1
  omega
/-- The divisor, moved up. -/
theorem norm_y {y : Nat} (h : y < 18446744073709551616) (h0 : 0 < y) : y * 2 ^ (64 - l64 y) < 18446744073709551616 ∧ 9223372036854775808 ≤ y * 2 ^ (64 - l64 y) := by
  obtain ⟨h1, h2⟩ := l64_lt h
  have h3 := l64_low h h0
  have hp : 2 ^ l64 y * 2 ^ (64 - l64 y) = 18446744073709551616 := by
    rw [← Nat.pow_add, show l64 y + (64 - l64 y) = 64 by omega]
  have hpos : 0 < 2 ^ (64 - l64 y) := Nat.two_pow_pos _
  have a := Nat.mul_lt_mul_of_pos_right h1 hpos
  have b := Nat.mul_le_mul_right (2 ^ (64 - l64 y)) h3
  have c : 2 * y * 2 ^ (64 - l64 y) = 2 * (y * 2 ^ (64 - l64 y)) := Nat.mul_assoc _ _ _
  omega
end Go.Proofs.YteiboodeepjanaaGreat
