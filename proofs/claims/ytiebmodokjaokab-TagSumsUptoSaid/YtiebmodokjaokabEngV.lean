/- The engine: whole numbers without a sign, as bits. -/
import Derived.Test.YtiebmodokjaokabEngU
import Derived.Laws.Bits64
import Derived.Laws.BitsLemmas
import Derived.Laws.BitsAllLaws
set_option linter.unusedVariables false
set_option linter.unusedSimpArgs false
namespace Go.Sl
open Go
theorem uwrap {k : IntKind} (hk : k.signed = false) (n : Int) : k.wrap n = ((BitVec.ofInt k.bits n).toNat : Int) := by
  have h : (2 ^ k.bits : Int) = ((2 ^ k.bits : Nat) : Int) := by push_cast; rfl
  have hp : (0 : Int) < ((2 ^ k.bits : Nat) : Int) := by exact_mod_cast Nat.two_pow_pos k.bits
  unfold IntKind.wrap
  rw [hk, BitVec.toNat_ofInt, h]
  simp only [Bool.false_and, Bool.false_eq_true, if_false]
  rw [Int.toNat_of_nonneg (Int.emod_nonneg _ (by omega))]
theorem ofInt_nat {w : Nat} (x : BitVec w) : BitVec.ofInt w (x.toNat : Int) = x := by
  apply BitVec.eq_of_toNat_eq
  rw [BitVec.toNat_ofInt, ← Int.natCast_emod]
  simp [Nat.mod_eq_of_lt x.isLt]
theorem uwrap_nat {k : IntKind} (hk : k.signed = false) (x : BitVec k.bits) : k.wrap (x.toNat : Int) = (x.toNat : Int) := by rw [uwrap hk, ofInt_nat]
section
variable {P : Program} {ρ : Env} {T T' : Nat} {a b : Operand} {k : IntKind} {x y : BitVec k.bits}
theorem pvu_add (hk : k.signed = false) (hx : ev ρ a = .int k x.toNat) (hy : ev ρ b = .int k y.toNat) : PV P (.binOp .add T a b T') ρ (.int k (x + y).toNat) := by
  have h := pv_add (P := P) (T := T) (T' := T') hx hy
  have e : BitVec.ofInt k.bits ((x.toNat : Int) + y.toNat) = x + y := by rw [BitVec.ofInt_add, ofInt_nat, ofInt_nat]
  rwa [uwrap hk, e] at h
theorem pvu_sub (hk : k.signed = false) (hx : ev ρ a = .int k x.toNat) (hy : ev ρ b = .int k y.toNat) : PV P (.binOp .sub T a b T') ρ (.int k (x - y).toNat) := by
  have h := pv_sub (P := P) (T := T) (T' := T') hx hy
  have e : BitVec.ofInt k.bits ((x.toNat : Int) - y.toNat) = x - y := by rw [Int.sub_eq_add_neg, BitVec.ofInt_add, ofInt_nat, BitVec.ofInt_neg, ofInt_nat, BitVec.sub_eq_add_neg]
  rwa [uwrap hk, e] at h
theorem pvu_mul (hk : k.signed = false) (hx : ev ρ a = .int k x.toNat) (hy : ev ρ b = .int k y.toNat) : PV P (.binOp .mul T a b T') ρ (.int k (x * y).toNat) := by
  have h := pv_mul (P := P) (T := T) (T' := T') hx hy
  have e : BitVec.ofInt k.bits ((x.toNat : Int) * y.toNat) = x * y := by rw [BitVec.ofInt_mul, ofInt_nat, ofInt_nat]
  rwa [uwrap hk, e] at h
theorem pvu_and (hk : k.signed = false) (hx : ev ρ a = .int k x.toNat) (hy : ev ρ b = .int k y.toNat) : PV P (.binOp .and T a b T') ρ (.int k (x &&& y).toNat) := by
  have h := pv_and (P := P) (T := T) (T' := T') hx hy
  rwa [ofInt_nat, ofInt_nat, uwrap_nat hk] at h
theorem pvu_or (hk : k.signed = false) (hx : ev ρ a = .int k x.toNat) (hy : ev ρ b = .int k y.toNat) : PV P (.binOp .or T a b T') ρ (.int k (x ||| y).toNat) := by
  have h := pv_or (P := P) (T := T) (T' := T') hx hy
  rwa [ofInt_nat, ofInt_nat, uwrap_nat hk] at h
theorem pvu_xor (hk : k.signed = false) (hx : ev ρ a = .int k x.toNat) (hy : ev ρ b = .int k y.toNat) : PV P (.binOp .xor T a b T') ρ (.int k (x ^^^ y).toNat) := by
  have h := pv_xor (P := P) (T := T) (T' := T') hx hy
  rwa [ofInt_nat, ofInt_nat, uwrap_nat hk] at h
theorem pvu_andNot (hk : k.signed = false) (hx : ev ρ a = .int k x.toNat) (hy : ev ρ b = .int k y.toNat) : PV P (.binOp .andNot T a b T') ρ (.int k (x &&& ~~~ y).toNat) := by
  have h := pv_andNot (P := P) (T := T) (T' := T') hx hy
  rwa [ofInt_nat, ofInt_nat, uwrap_nat hk] at h
theorem pvu_shl {k' : IntKind} {m : Nat} (hk : k.signed = false) (hx : ev ρ a = .int k x.toNat) (hy : ev ρ b = .int k' (m : Int)) : PV P (.binOp .shl T a b T') ρ (.int k (x <<< m).toNat) := by
  have h := pv_shl (P := P) (T := T) (T' := T') hx hy (by omega)
  have e : BitVec.ofInt k.bits ((x.toNat : Int) * 2 ^ (min m k.bits)) = x <<< m := by
    apply BitVec.eq_of_toNat_eq
    rw [BitVec.toNat_shiftLeft, BitVec.toNat_ofInt, show ((x.toNat : Int) * 2 ^ (min m k.bits)) = ((x.toNat * 2 ^ (min m k.bits) : Nat) : Int) by push_cast; rfl, ← Int.natCast_emod, Int.toNat_natCast, Nat.shiftLeft_eq]
    rcases Nat.le_total m k.bits with hle | hle
    · rw [Nat.min_eq_left hle]
    · rw [Nat.min_eq_right hle]
      obtain ⟨d, rfl⟩ := Nat.exists_eq_add_of_le hle
      rw [Nat.pow_add, ← Nat.mul_assoc, Nat.mul_mod_left, Nat.mul_right_comm, Nat.mul_mod_left]
  rw [uwrap hk, Int.toNat_natCast, e] at h
  exact h
theorem pvu_shr {k' : IntKind} {m : Nat} (hk : k.signed = false) (hx : ev ρ a = .int k x.toNat) (hy : ev ρ b = .int k' (m : Int)) : PV P (.binOp .shr T a b T') ρ (.int k (x >>> m).toNat) := by
  have h := pv_shr (P := P) (T := T) (T' := T') hx hy (by omega)
  have e : (x.toNat : Int).fdiv (2 ^ (min m k.bits)) = ((x >>> m).toNat : Int) := by
    have hp : (0 : Int) ≤ 2 ^ (min m k.bits) := by
      rw [show ((2 : Int) ^ (min m k.bits)) = ((2 ^ (min m k.bits) : Nat) : Int) by push_cast; rfl]
      exact Int.natCast_nonneg _
    rw [Int.fdiv_eq_ediv_of_nonneg _ hp, BitVec.toNat_ushiftRight, Nat.shiftRight_eq_div_pow]
    rcases Nat.le_total m k.bits with hle | hle
    · rw [Nat.min_eq_left hle]; push_cast; rfl
    · rw [Nat.min_eq_right hle]
      have h1 : x.toNat / 2 ^ k.bits = 0 := Nat.div_eq_of_lt x.isLt
      have h2 : x.toNat / 2 ^ m = 0 := Nat.div_eq_of_lt (Nat.lt_of_lt_of_le x.isLt (Nat.pow_le_pow_right (by omega) hle))
      rw [h2]
      have h3 : ((x.toNat : Int) / 2 ^ k.bits) = ((x.toNat / 2 ^ k.bits : Nat) : Int) := by push_cast; rfl
      rw [h3, h1]
  rw [Int.toNat_natCast, e] at h
  exact h
theorem pvu_not (hk : k.signed = false) (hx : ev ρ a = .int k x.toNat) : PV P (.unOp .xor T a) ρ (.int k (~~~ x).toNat) := by
  have h := pv_xor1 (P := P) (T := T) hx
  have e : BitVec.ofInt k.bits (if k.signed then -1 else k.max) = BitVec.allOnes k.bits := by
    rw [hk]; simp only [Bool.false_eq_true, if_false, IntKind.max, hk]
    apply BitVec.eq_of_toNat_eq
    have hp := Nat.two_pow_pos k.bits
    rw [BitVec.toNat_ofInt, BitVec.toNat_allOnes, show (2 ^ k.bits - 1 : Int) = ((2 ^ k.bits - 1 : Nat) : Int) by push_cast [Nat.one_le_two_pow]; rfl, ← Int.natCast_emod, Int.toNat_natCast, Nat.mod_eq_of_lt (by omega)]
  rw [e, ofInt_nat, uwrap_nat hk, BitVec.allOnes_xor] at h
  exact h
theorem pvu_neg (hk : k.signed = false) (hx : ev ρ a = .int k x.toNat) : PV P (.unOp .neg T a) ρ (.int k (- x).toNat) := by
  have h := pv_neg (P := P) (T := T) hx
  have e : BitVec.ofInt k.bits (0 - (x.toNat : Int)) = - x := by rw [Int.zero_sub, BitVec.ofInt_neg, ofInt_nat]
  rwa [uwrap hk, e] at h
theorem pvu_eql (hx : ev ρ a = .int k x.toNat) (hy : ev ρ b = .int k y.toNat) : PV P (.binOp .eql T a b T') ρ (.bool (decide (x = y))) := by
  have h := pv_eql (P := P) (T := T) (T' := T') hx hy
  have e : decide ((x.toNat : Int) = y.toNat) = decide (x = y) := decide_eq_decide.2 ⟨fun h => BitVec.eq_of_toNat_eq (by omega), fun h => by rw [h]⟩
  rwa [e] at h
theorem pvu_neq (hx : ev ρ a = .int k x.toNat) (hy : ev ρ b = .int k y.toNat) : PV P (.binOp .neq T a b T') ρ (.bool (decide (x ≠ y))) := by
  have h := pv_neq (P := P) (T := T) (T' := T') hx hy
  have e : decide ((x.toNat : Int) ≠ y.toNat) = decide (x ≠ y) := decide_eq_decide.2 ⟨fun h e => h (by rw [e]), fun h e => h (BitVec.eq_of_toNat_eq (by omega))⟩
  rwa [e] at h
theorem pvu_lss (hx : ev ρ a = .int k x.toNat) (hy : ev ρ b = .int k y.toNat) : PV P (.binOp .lss T a b T') ρ (.bool (decide (x.toNat < y.toNat))) := by
  have h := pv_lss (P := P) (T := T) (T' := T') hx hy
  rwa [show decide ((x.toNat : Int) < y.toNat) = decide (x.toNat < y.toNat) from decide_eq_decide.2 (by omega)] at h
theorem pvu_leq (hx : ev ρ a = .int k x.toNat) (hy : ev ρ b = .int k y.toNat) : PV P (.binOp .leq T a b T') ρ (.bool (decide (x.toNat ≤ y.toNat))) := by
  have h := pv_leq (P := P) (T := T) (T' := T') hx hy
  rwa [show decide ((x.toNat : Int) ≤ y.toNat) = decide (x.toNat ≤ y.toNat) from decide_eq_decide.2 (by omega)] at h
theorem pvu_gtr (hx : ev ρ a = .int k x.toNat) (hy : ev ρ b = .int k y.toNat) : PV P (.binOp .gtr T a b T') ρ (.bool (decide (y.toNat < x.toNat))) := by
  have h := pv_gtr (P := P) (T := T) (T' := T') hx hy
  rwa [show decide ((y.toNat : Int) < x.toNat) = decide (y.toNat < x.toNat) from decide_eq_decide.2 (by omega)] at h
theorem pvu_geq (hx : ev ρ a = .int k x.toNat) (hy : ev ρ b = .int k y.toNat) : PV P (.binOp .geq T a b T') ρ (.bool (decide (y.toNat ≤ x.toNat))) := by
  have h := pv_geq (P := P) (T := T) (T' := T') hx hy
  rwa [show decide ((y.toNat : Int) ≤ x.toNat) = decide (y.toNat ≤ x.toNat) from decide_eq_decide.2 (by omega)] at h
theorem pvu_quo (hk : k.signed = false) (hx : ev ρ a = .int k x.toNat) (hy : ev ρ b = .int k y.toNat) (h0 : 0 < y.toNat) : PV P (.binOp .quo T a b T') ρ (.int k (x / y).toNat) := by
  have e : ((x.toNat : Int) / y.toNat) = ((x / y).toNat : Int) := by rw [BitVec.toNat_udiv]; push_cast; rfl
  have h := pv_quo_u (P := P) (T := T) (T' := T') hx hy hk ⟨by omega, by omega, by rw [e, uwrap_nat hk]⟩
  rwa [e] at h
theorem pvu_rem (hx : ev ρ a = .int k x.toNat) (hy : ev ρ b = .int k y.toNat) (h0 : 0 < y.toNat) : PV P (.binOp .rem T a b T') ρ (.int k (x % y).toNat) := by
  have h := pv_rem (P := P) (T := T) (T' := T') hx hy (by omega)
  have e : ((x.toNat : Int)).tmod y.toNat = ((x % y).toNat : Int) := by rw [BitVec.toNat_umod]; rfl
  rwa [e] at h
theorem pvu_conv {S D : Nat} {k' : IntKind} [hs : TyInt P S k] [hd : TyInt P D k'] (hk' : k'.signed = false) (hx : ev ρ a = .int k x.toNat) : PV P (.convert S D a) ρ (.int k' (x.setWidth k'.bits).toNat) := by
  have h := pv_conv (P := P) (S := S) (D := D) hx
  have e : BitVec.ofInt k'.bits (x.toNat : Int) = x.setWidth k'.bits := by
    apply BitVec.eq_of_toNat_eq
    rw [BitVec.toNat_ofInt, BitVec.toNat_setWidth, ← Int.natCast_emod, Int.toNat_natCast]
  rwa [uwrap hk', e] at h
theorem pvu_convI {S D : Nat} {k0 : IntKind} {n : Int} [hs : TyInt P S k0] [hd : TyInt P D k] (hk : k.signed = false) (hx : ev ρ a = .int k0 n) : PV P (.convert S D a) ρ (.int k (BitVec.ofInt k.bits n).toNat) := by
  have h := pv_conv (P := P) (S := S) (D := D) hx
  rwa [uwrap hk] at h
theorem pvu_convN {S D : Nat} [hs : TyInt P S k] [hd : TyInt P D .i64] (hx : ev ρ a = .int k x.toNat) (h : x.toNat < 9223372036854775808) : PV P (.convert S D a) ρ (.int .i64 x.toNat) := by
  refine pv_conv_in hx ?_
  rw [IntWalk.i64_in _ ⟨by omega, by omega⟩]
end

section
variable {P : Program} {ρ : Env} {T T' : Nat} {a b : Operand} {x y : BitVec 8}
theorem pv_add_u8 (hx : ev ρ a = .int .u8 x.toNat) (hy : ev ρ b = .int .u8 y.toNat) : PV P (.binOp .add T a b T') ρ (.int .u8 (x + y).toNat) := pvu_add (k := .u8) rfl hx hy
theorem pv_sub_u8 (hx : ev ρ a = .int .u8 x.toNat) (hy : ev ρ b = .int .u8 y.toNat) : PV P (.binOp .sub T a b T') ρ (.int .u8 (x - y).toNat) := pvu_sub (k := .u8) rfl hx hy
theorem pv_mul_u8 (hx : ev ρ a = .int .u8 x.toNat) (hy : ev ρ b = .int .u8 y.toNat) : PV P (.binOp .mul T a b T') ρ (.int .u8 (x * y).toNat) := pvu_mul (k := .u8) rfl hx hy
theorem pv_and_u8 (hx : ev ρ a = .int .u8 x.toNat) (hy : ev ρ b = .int .u8 y.toNat) : PV P (.binOp .and T a b T') ρ (.int .u8 (x &&& y).toNat) := pvu_and (k := .u8) rfl hx hy
theorem pv_or_u8 (hx : ev ρ a = .int .u8 x.toNat) (hy : ev ρ b = .int .u8 y.toNat) : PV P (.binOp .or T a b T') ρ (.int .u8 (x ||| y).toNat) := pvu_or (k := .u8) rfl hx hy
theorem pv_xor_u8 (hx : ev ρ a = .int .u8 x.toNat) (hy : ev ρ b = .int .u8 y.toNat) : PV P (.binOp .xor T a b T') ρ (.int .u8 (x ^^^ y).toNat) := pvu_xor (k := .u8) rfl hx hy
theorem pv_andNot_u8 (hx : ev ρ a = .int .u8 x.toNat) (hy : ev ρ b = .int .u8 y.toNat) : PV P (.binOp .andNot T a b T') ρ (.int .u8 (x &&& ~~~ y).toNat) := pvu_andNot (k := .u8) rfl hx hy
theorem pv_shl_u8 {k' : IntKind} {m : Nat} (hx : ev ρ a = .int .u8 x.toNat) (hy : ev ρ b = .int k' (m : Int)) : PV P (.binOp .shl T a b T') ρ (.int .u8 (x <<< m).toNat) := pvu_shl (k := .u8) rfl hx hy
theorem pv_shr_u8 {k' : IntKind} {m : Nat} (hx : ev ρ a = .int .u8 x.toNat) (hy : ev ρ b = .int k' (m : Int)) : PV P (.binOp .shr T a b T') ρ (.int .u8 (x >>> m).toNat) := pvu_shr (k := .u8) rfl hx hy
theorem pv_not_u8 (hx : ev ρ a = .int .u8 x.toNat) : PV P (.unOp .xor T a) ρ (.int .u8 (~~~ x).toNat) := pvu_not (k := .u8) rfl hx
theorem pv_neg_u8 (hx : ev ρ a = .int .u8 x.toNat) : PV P (.unOp .neg T a) ρ (.int .u8 (- x).toNat) := pvu_neg (k := .u8) rfl hx
theorem pv_eql_u8 (hx : ev ρ a = .int .u8 x.toNat) (hy : ev ρ b = .int .u8 y.toNat) : PV P (.binOp .eql T a b T') ρ (.bool (decide (x = y))) := pvu_eql (k := .u8) hx hy
theorem pv_neq_u8 (hx : ev ρ a = .int .u8 x.toNat) (hy : ev ρ b = .int .u8 y.toNat) : PV P (.binOp .neq T a b T') ρ (.bool (decide (x ≠ y))) := pvu_neq (k := .u8) hx hy
theorem pv_lss_u8 (hx : ev ρ a = .int .u8 x.toNat) (hy : ev ρ b = .int .u8 y.toNat) : PV P (.binOp .lss T a b T') ρ (.bool (decide (x.toNat < y.toNat))) := pvu_lss (k := .u8) hx hy
theorem pv_leq_u8 (hx : ev ρ a = .int .u8 x.toNat) (hy : ev ρ b = .int .u8 y.toNat) : PV P (.binOp .leq T a b T') ρ (.bool (decide (x.toNat ≤ y.toNat))) := pvu_leq (k := .u8) hx hy
theorem pv_gtr_u8 (hx : ev ρ a = .int .u8 x.toNat) (hy : ev ρ b = .int .u8 y.toNat) : PV P (.binOp .gtr T a b T') ρ (.bool (decide (y.toNat < x.toNat))) := pvu_gtr (k := .u8) hx hy
theorem pv_geq_u8 (hx : ev ρ a = .int .u8 x.toNat) (hy : ev ρ b = .int .u8 y.toNat) : PV P (.binOp .geq T a b T') ρ (.bool (decide (y.toNat ≤ x.toNat))) := pvu_geq (k := .u8) hx hy
theorem pv_quo_u8 (hx : ev ρ a = .int .u8 x.toNat) (hy : ev ρ b = .int .u8 y.toNat) (h0 : 0 < y.toNat) : PV P (.binOp .quo T a b T') ρ (.int .u8 (x / y).toNat) := pvu_quo (k := .u8) rfl hx hy h0
theorem pv_rem_u8 (hx : ev ρ a = .int .u8 x.toNat) (hy : ev ρ b = .int .u8 y.toNat) (h0 : 0 < y.toNat) : PV P (.binOp .rem T a b T') ρ (.int .u8 (x % y).toNat) := pvu_rem (k := .u8) hx hy h0
theorem pv_conv_i_u8 {S D : Nat} {n : Int} [hs : TyInt P S .i64] [hd : TyInt P D .u8] (hx : ev ρ a = .int .i64 n) : PV P (.convert S D a) ρ (.int .u8 (BitVec.ofInt 8 n).toNat) := pvu_convI (k := .u8) rfl hx
theorem pv_conv_u8_i {S D : Nat} [hs : TyInt P S .u8] [hd : TyInt P D .i64] (hx : ev ρ a = .int .u8 x.toNat) : PV P (.convert S D a) ρ (.int .i64 x.toNat) := pvu_convN (k := .u8) hx (Nat.lt_trans x.isLt (by decide))
theorem pv_conv_u8_u8 {S D : Nat} [hs : TyInt P S .u8] [hd : TyInt P D .u8] (hx : ev ρ a = .int .u8 x.toNat) : PV P (.convert S D a) ρ (.int .u8 (x.setWidth 8).toNat) := pvu_conv (k := .u8) (k' := .u8) rfl hx
theorem pv_conv_u8_u16 {S D : Nat} [hs : TyInt P S .u8] [hd : TyInt P D .u16] (hx : ev ρ a = .int .u8 x.toNat) : PV P (.convert S D a) ρ (.int .u16 (x.setWidth 16).toNat) := pvu_conv (k := .u8) (k' := .u16) rfl hx
theorem pv_conv_u8_u32 {S D : Nat} [hs : TyInt P S .u8] [hd : TyInt P D .u32] (hx : ev ρ a = .int .u8 x.toNat) : PV P (.convert S D a) ρ (.int .u32 (x.setWidth 32).toNat) := pvu_conv (k := .u8) (k' := .u32) rfl hx
theorem pv_conv_u8_u64 {S D : Nat} [hs : TyInt P S .u8] [hd : TyInt P D .u64] (hx : ev ρ a = .int .u8 x.toNat) : PV P (.convert S D a) ρ (.int .u64 (x.setWidth 64).toNat) := pvu_conv (k := .u8) (k' := .u64) rfl hx
end
abbrev u8b (x : BitVec 8) : Value := .int .u8 x.toNat
section
variable {P : Program} {ρ : Env} {T T' : Nat} {a b : Operand} {x y : BitVec 16}
theorem pv_add_u16 (hx : ev ρ a = .int .u16 x.toNat) (hy : ev ρ b = .int .u16 y.toNat) : PV P (.binOp .add T a b T') ρ (.int .u16 (x + y).toNat) := pvu_add (k := .u16) rfl hx hy
theorem pv_sub_u16 (hx : ev ρ a = .int .u16 x.toNat) (hy : ev ρ b = .int .u16 y.toNat) : PV P (.binOp .sub T a b T') ρ (.int .u16 (x - y).toNat) := pvu_sub (k := .u16) rfl hx hy
theorem pv_mul_u16 (hx : ev ρ a = .int .u16 x.toNat) (hy : ev ρ b = .int .u16 y.toNat) : PV P (.binOp .mul T a b T') ρ (.int .u16 (x * y).toNat) := pvu_mul (k := .u16) rfl hx hy
theorem pv_and_u16 (hx : ev ρ a = .int .u16 x.toNat) (hy : ev ρ b = .int .u16 y.toNat) : PV P (.binOp .and T a b T') ρ (.int .u16 (x &&& y).toNat) := pvu_and (k := .u16) rfl hx hy
theorem pv_or_u16 (hx : ev ρ a = .int .u16 x.toNat) (hy : ev ρ b = .int .u16 y.toNat) : PV P (.binOp .or T a b T') ρ (.int .u16 (x ||| y).toNat) := pvu_or (k := .u16) rfl hx hy
theorem pv_xor_u16 (hx : ev ρ a = .int .u16 x.toNat) (hy : ev ρ b = .int .u16 y.toNat) : PV P (.binOp .xor T a b T') ρ (.int .u16 (x ^^^ y).toNat) := pvu_xor (k := .u16) rfl hx hy
theorem pv_andNot_u16 (hx : ev ρ a = .int .u16 x.toNat) (hy : ev ρ b = .int .u16 y.toNat) : PV P (.binOp .andNot T a b T') ρ (.int .u16 (x &&& ~~~ y).toNat) := pvu_andNot (k := .u16) rfl hx hy
theorem pv_shl_u16 {k' : IntKind} {m : Nat} (hx : ev ρ a = .int .u16 x.toNat) (hy : ev ρ b = .int k' (m : Int)) : PV P (.binOp .shl T a b T') ρ (.int .u16 (x <<< m).toNat) := pvu_shl (k := .u16) rfl hx hy
theorem pv_shr_u16 {k' : IntKind} {m : Nat} (hx : ev ρ a = .int .u16 x.toNat) (hy : ev ρ b = .int k' (m : Int)) : PV P (.binOp .shr T a b T') ρ (.int .u16 (x >>> m).toNat) := pvu_shr (k := .u16) rfl hx hy
theorem pv_not_u16 (hx : ev ρ a = .int .u16 x.toNat) : PV P (.unOp .xor T a) ρ (.int .u16 (~~~ x).toNat) := pvu_not (k := .u16) rfl hx
theorem pv_neg_u16 (hx : ev ρ a = .int .u16 x.toNat) : PV P (.unOp .neg T a) ρ (.int .u16 (- x).toNat) := pvu_neg (k := .u16) rfl hx
theorem pv_eql_u16 (hx : ev ρ a = .int .u16 x.toNat) (hy : ev ρ b = .int .u16 y.toNat) : PV P (.binOp .eql T a b T') ρ (.bool (decide (x = y))) := pvu_eql (k := .u16) hx hy
theorem pv_neq_u16 (hx : ev ρ a = .int .u16 x.toNat) (hy : ev ρ b = .int .u16 y.toNat) : PV P (.binOp .neq T a b T') ρ (.bool (decide (x ≠ y))) := pvu_neq (k := .u16) hx hy
theorem pv_lss_u16 (hx : ev ρ a = .int .u16 x.toNat) (hy : ev ρ b = .int .u16 y.toNat) : PV P (.binOp .lss T a b T') ρ (.bool (decide (x.toNat < y.toNat))) := pvu_lss (k := .u16) hx hy
theorem pv_leq_u16 (hx : ev ρ a = .int .u16 x.toNat) (hy : ev ρ b = .int .u16 y.toNat) : PV P (.binOp .leq T a b T') ρ (.bool (decide (x.toNat ≤ y.toNat))) := pvu_leq (k := .u16) hx hy
theorem pv_gtr_u16 (hx : ev ρ a = .int .u16 x.toNat) (hy : ev ρ b = .int .u16 y.toNat) : PV P (.binOp .gtr T a b T') ρ (.bool (decide (y.toNat < x.toNat))) := pvu_gtr (k := .u16) hx hy
theorem pv_geq_u16 (hx : ev ρ a = .int .u16 x.toNat) (hy : ev ρ b = .int .u16 y.toNat) : PV P (.binOp .geq T a b T') ρ (.bool (decide (y.toNat ≤ x.toNat))) := pvu_geq (k := .u16) hx hy
theorem pv_quo_u16 (hx : ev ρ a = .int .u16 x.toNat) (hy : ev ρ b = .int .u16 y.toNat) (h0 : 0 < y.toNat) : PV P (.binOp .quo T a b T') ρ (.int .u16 (x / y).toNat) := pvu_quo (k := .u16) rfl hx hy h0
theorem pv_rem_u16 (hx : ev ρ a = .int .u16 x.toNat) (hy : ev ρ b = .int .u16 y.toNat) (h0 : 0 < y.toNat) : PV P (.binOp .rem T a b T') ρ (.int .u16 (x % y).toNat) := pvu_rem (k := .u16) hx hy h0
theorem pv_conv_i_u16 {S D : Nat} {n : Int} [hs : TyInt P S .i64] [hd : TyInt P D .u16] (hx : ev ρ a = .int .i64 n) : PV P (.convert S D a) ρ (.int .u16 (BitVec.ofInt 16 n).toNat) := pvu_convI (k := .u16) rfl hx
theorem pv_conv_u16_i {S D : Nat} [hs : TyInt P S .u16] [hd : TyInt P D .i64] (hx : ev ρ a = .int .u16 x.toNat) : PV P (.convert S D a) ρ (.int .i64 x.toNat) := pvu_convN (k := .u16) hx (Nat.lt_trans x.isLt (by decide))
theorem pv_conv_u16_u8 {S D : Nat} [hs : TyInt P S .u16] [hd : TyInt P D .u8] (hx : ev ρ a = .int .u16 x.toNat) : PV P (.convert S D a) ρ (.int .u8 (x.setWidth 8).toNat) := pvu_conv (k := .u16) (k' := .u8) rfl hx
theorem pv_conv_u16_u16 {S D : Nat} [hs : TyInt P S .u16] [hd : TyInt P D .u16] (hx : ev ρ a = .int .u16 x.toNat) : PV P (.convert S D a) ρ (.int .u16 (x.setWidth 16).toNat) := pvu_conv (k := .u16) (k' := .u16) rfl hx
theorem pv_conv_u16_u32 {S D : Nat} [hs : TyInt P S .u16] [hd : TyInt P D .u32] (hx : ev ρ a = .int .u16 x.toNat) : PV P (.convert S D a) ρ (.int .u32 (x.setWidth 32).toNat) := pvu_conv (k := .u16) (k' := .u32) rfl hx
theorem pv_conv_u16_u64 {S D : Nat} [hs : TyInt P S .u16] [hd : TyInt P D .u64] (hx : ev ρ a = .int .u16 x.toNat) : PV P (.convert S D a) ρ (.int .u64 (x.setWidth 64).toNat) := pvu_conv (k := .u16) (k' := .u64) rfl hx
end
abbrev u16b (x : BitVec 16) : Value := .int .u16 x.toNat
section
variable {P : Program} {ρ : Env} {T T' : Nat} {a b : Operand} {x y : BitVec 32}
theorem pv_add_u32 (hx : ev ρ a = .int .u32 x.toNat) (hy : ev ρ b = .int .u32 y.toNat) : PV P (.binOp .add T a b T') ρ (.int .u32 (x + y).toNat) := pvu_add (k := .u32) rfl hx hy
theorem pv_sub_u32 (hx : ev ρ a = .int .u32 x.toNat) (hy : ev ρ b = .int .u32 y.toNat) : PV P (.binOp .sub T a b T') ρ (.int .u32 (x - y).toNat) := pvu_sub (k := .u32) rfl hx hy
theorem pv_mul_u32 (hx : ev ρ a = .int .u32 x.toNat) (hy : ev ρ b = .int .u32 y.toNat) : PV P (.binOp .mul T a b T') ρ (.int .u32 (x * y).toNat) := pvu_mul (k := .u32) rfl hx hy
theorem pv_and_u32 (hx : ev ρ a = .int .u32 x.toNat) (hy : ev ρ b = .int .u32 y.toNat) : PV P (.binOp .and T a b T') ρ (.int .u32 (x &&& y).toNat) := pvu_and (k := .u32) rfl hx hy
theorem pv_or_u32 (hx : ev ρ a = .int .u32 x.toNat) (hy : ev ρ b = .int .u32 y.toNat) : PV P (.binOp .or T a b T') ρ (.int .u32 (x ||| y).toNat) := pvu_or (k := .u32) rfl hx hy
theorem pv_xor_u32 (hx : ev ρ a = .int .u32 x.toNat) (hy : ev ρ b = .int .u32 y.toNat) : PV P (.binOp .xor T a b T') ρ (.int .u32 (x ^^^ y).toNat) := pvu_xor (k := .u32) rfl hx hy
theorem pv_andNot_u32 (hx : ev ρ a = .int .u32 x.toNat) (hy : ev ρ b = .int .u32 y.toNat) : PV P (.binOp .andNot T a b T') ρ (.int .u32 (x &&& ~~~ y).toNat) := pvu_andNot (k := .u32) rfl hx hy
theorem pv_shl_u32 {k' : IntKind} {m : Nat} (hx : ev ρ a = .int .u32 x.toNat) (hy : ev ρ b = .int k' (m : Int)) : PV P (.binOp .shl T a b T') ρ (.int .u32 (x <<< m).toNat) := pvu_shl (k := .u32) rfl hx hy
theorem pv_shr_u32 {k' : IntKind} {m : Nat} (hx : ev ρ a = .int .u32 x.toNat) (hy : ev ρ b = .int k' (m : Int)) : PV P (.binOp .shr T a b T') ρ (.int .u32 (x >>> m).toNat) := pvu_shr (k := .u32) rfl hx hy
theorem pv_not_u32 (hx : ev ρ a = .int .u32 x.toNat) : PV P (.unOp .xor T a) ρ (.int .u32 (~~~ x).toNat) := pvu_not (k := .u32) rfl hx
theorem pv_neg_u32 (hx : ev ρ a = .int .u32 x.toNat) : PV P (.unOp .neg T a) ρ (.int .u32 (- x).toNat) := pvu_neg (k := .u32) rfl hx
theorem pv_eql_u32 (hx : ev ρ a = .int .u32 x.toNat) (hy : ev ρ b = .int .u32 y.toNat) : PV P (.binOp .eql T a b T') ρ (.bool (decide (x = y))) := pvu_eql (k := .u32) hx hy
theorem pv_neq_u32 (hx : ev ρ a = .int .u32 x.toNat) (hy : ev ρ b = .int .u32 y.toNat) : PV P (.binOp .neq T a b T') ρ (.bool (decide (x ≠ y))) := pvu_neq (k := .u32) hx hy
theorem pv_lss_u32 (hx : ev ρ a = .int .u32 x.toNat) (hy : ev ρ b = .int .u32 y.toNat) : PV P (.binOp .lss T a b T') ρ (.bool (decide (x.toNat < y.toNat))) := pvu_lss (k := .u32) hx hy
theorem pv_leq_u32 (hx : ev ρ a = .int .u32 x.toNat) (hy : ev ρ b = .int .u32 y.toNat) : PV P (.binOp .leq T a b T') ρ (.bool (decide (x.toNat ≤ y.toNat))) := pvu_leq (k := .u32) hx hy
theorem pv_gtr_u32 (hx : ev ρ a = .int .u32 x.toNat) (hy : ev ρ b = .int .u32 y.toNat) : PV P (.binOp .gtr T a b T') ρ (.bool (decide (y.toNat < x.toNat))) := pvu_gtr (k := .u32) hx hy
theorem pv_geq_u32 (hx : ev ρ a = .int .u32 x.toNat) (hy : ev ρ b = .int .u32 y.toNat) : PV P (.binOp .geq T a b T') ρ (.bool (decide (y.toNat ≤ x.toNat))) := pvu_geq (k := .u32) hx hy
theorem pv_quo_u32 (hx : ev ρ a = .int .u32 x.toNat) (hy : ev ρ b = .int .u32 y.toNat) (h0 : 0 < y.toNat) : PV P (.binOp .quo T a b T') ρ (.int .u32 (x / y).toNat) := pvu_quo (k := .u32) rfl hx hy h0
theorem pv_rem_u32 (hx : ev ρ a = .int .u32 x.toNat) (hy : ev ρ b = .int .u32 y.toNat) (h0 : 0 < y.toNat) : PV P (.binOp .rem T a b T') ρ (.int .u32 (x % y).toNat) := pvu_rem (k := .u32) hx hy h0
theorem pv_conv_i_u32 {S D : Nat} {n : Int} [hs : TyInt P S .i64] [hd : TyInt P D .u32] (hx : ev ρ a = .int .i64 n) : PV P (.convert S D a) ρ (.int .u32 (BitVec.ofInt 32 n).toNat) := pvu_convI (k := .u32) rfl hx
theorem pv_conv_u32_i {S D : Nat} [hs : TyInt P S .u32] [hd : TyInt P D .i64] (hx : ev ρ a = .int .u32 x.toNat) : PV P (.convert S D a) ρ (.int .i64 x.toNat) := pvu_convN (k := .u32) hx (Nat.lt_trans x.isLt (by decide))
theorem pv_conv_u32_u8 {S D : Nat} [hs : TyInt P S .u32] [hd : TyInt P D .u8] (hx : ev ρ a = .int .u32 x.toNat) : PV P (.convert S D a) ρ (.int .u8 (x.setWidth 8).toNat) := pvu_conv (k := .u32) (k' := .u8) rfl hx
theorem pv_conv_u32_u16 {S D : Nat} [hs : TyInt P S .u32] [hd : TyInt P D .u16] (hx : ev ρ a = .int .u32 x.toNat) : PV P (.convert S D a) ρ (.int .u16 (x.setWidth 16).toNat) := pvu_conv (k := .u32) (k' := .u16) rfl hx
theorem pv_conv_u32_u32 {S D : Nat} [hs : TyInt P S .u32] [hd : TyInt P D .u32] (hx : ev ρ a = .int .u32 x.toNat) : PV P (.convert S D a) ρ (.int .u32 (x.setWidth 32).toNat) := pvu_conv (k := .u32) (k' := .u32) rfl hx
theorem pv_conv_u32_u64 {S D : Nat} [hs : TyInt P S .u32] [hd : TyInt P D .u64] (hx : ev ρ a = .int .u32 x.toNat) : PV P (.convert S D a) ρ (.int .u64 (x.setWidth 64).toNat) := pvu_conv (k := .u32) (k' := .u64) rfl hx
end
abbrev u32b (x : BitVec 32) : Value := .int .u32 x.toNat
section
variable {P : Program} {ρ : Env} {T T' : Nat} {a b : Operand} {x y : BitVec 64}
theorem pv_add_u64 (hx : ev ρ a = .int .u64 x.toNat) (hy : ev ρ b = .int .u64 y.toNat) : PV P (.binOp .add T a b T') ρ (.int .u64 (x + y).toNat) := pvu_add (k := .u64) rfl hx hy
theorem pv_sub_u64 (hx : ev ρ a = .int .u64 x.toNat) (hy : ev ρ b = .int .u64 y.toNat) : PV P (.binOp .sub T a b T') ρ (.int .u64 (x - y).toNat) := pvu_sub (k := .u64) rfl hx hy
theorem pv_mul_u64 (hx : ev ρ a = .int .u64 x.toNat) (hy : ev ρ b = .int .u64 y.toNat) : PV P (.binOp .mul T a b T') ρ (.int .u64 (x * y).toNat) := pvu_mul (k := .u64) rfl hx hy
theorem pv_and_u64 (hx : ev ρ a = .int .u64 x.toNat) (hy : ev ρ b = .int .u64 y.toNat) : PV P (.binOp .and T a b T') ρ (.int .u64 (x &&& y).toNat) := pvu_and (k := .u64) rfl hx hy
theorem pv_or_u64 (hx : ev ρ a = .int .u64 x.toNat) (hy : ev ρ b = .int .u64 y.toNat) : PV P (.binOp .or T a b T') ρ (.int .u64 (x ||| y).toNat) := pvu_or (k := .u64) rfl hx hy
theorem pv_xor_u64 (hx : ev ρ a = .int .u64 x.toNat) (hy : ev ρ b = .int .u64 y.toNat) : PV P (.binOp .xor T a b T') ρ (.int .u64 (x ^^^ y).toNat) := pvu_xor (k := .u64) rfl hx hy
theorem pv_andNot_u64 (hx : ev ρ a = .int .u64 x.toNat) (hy : ev ρ b = .int .u64 y.toNat) : PV P (.binOp .andNot T a b T') ρ (.int .u64 (x &&& ~~~ y).toNat) := pvu_andNot (k := .u64) rfl hx hy
theorem pv_shl_u64 {k' : IntKind} {m : Nat} (hx : ev ρ a = .int .u64 x.toNat) (hy : ev ρ b = .int k' (m : Int)) : PV P (.binOp .shl T a b T') ρ (.int .u64 (x <<< m).toNat) := pvu_shl (k := .u64) rfl hx hy
theorem pv_shr_u64 {k' : IntKind} {m : Nat} (hx : ev ρ a = .int .u64 x.toNat) (hy : ev ρ b = .int k' (m : Int)) : PV P (.binOp .shr T a b T') ρ (.int .u64 (x >>> m).toNat) := pvu_shr (k := .u64) rfl hx hy
theorem pv_not_u64 (hx : ev ρ a = .int .u64 x.toNat) : PV P (.unOp .xor T a) ρ (.int .u64 (~~~ x).toNat) := pvu_not (k := .u64) rfl hx
theorem pv_neg_u64 (hx : ev ρ a = .int .u64 x.toNat) : PV P (.unOp .neg T a) ρ (.int .u64 (- x).toNat) := pvu_neg (k := .u64) rfl hx
theorem pv_eql_u64 (hx : ev ρ a = .int .u64 x.toNat) (hy : ev ρ b = .int .u64 y.toNat) : PV P (.binOp .eql T a b T') ρ (.bool (decide (x = y))) := pvu_eql (k := .u64) hx hy
theorem pv_neq_u64 (hx : ev ρ a = .int .u64 x.toNat) (hy : ev ρ b = .int .u64 y.toNat) : PV P (.binOp .neq T a b T') ρ (.bool (decide (x ≠ y))) := pvu_neq (k := .u64) hx hy
theorem pv_lss_u64 (hx : ev ρ a = .int .u64 x.toNat) (hy : ev ρ b = .int .u64 y.toNat) : PV P (.binOp .lss T a b T') ρ (.bool (decide (x.toNat < y.toNat))) := pvu_lss (k := .u64) hx hy
theorem pv_leq_u64 (hx : ev ρ a = .int .u64 x.toNat) (hy : ev ρ b = .int .u64 y.toNat) : PV P (.binOp .leq T a b T') ρ (.bool (decide (x.toNat ≤ y.toNat))) := pvu_leq (k := .u64) hx hy
theorem pv_gtr_u64 (hx : ev ρ a = .int .u64 x.toNat) (hy : ev ρ b = .int .u64 y.toNat) : PV P (.binOp .gtr T a b T') ρ (.bool (decide (y.toNat < x.toNat))) := pvu_gtr (k := .u64) hx hy
theorem pv_geq_u64 (hx : ev ρ a = .int .u64 x.toNat) (hy : ev ρ b = .int .u64 y.toNat) : PV P (.binOp .geq T a b T') ρ (.bool (decide (y.toNat ≤ x.toNat))) := pvu_geq (k := .u64) hx hy
theorem pv_quo_u64 (hx : ev ρ a = .int .u64 x.toNat) (hy : ev ρ b = .int .u64 y.toNat) (h0 : 0 < y.toNat) : PV P (.binOp .quo T a b T') ρ (.int .u64 (x / y).toNat) := pvu_quo (k := .u64) rfl hx hy h0
theorem pv_rem_u64 (hx : ev ρ a = .int .u64 x.toNat) (hy : ev ρ b = .int .u64 y.toNat) (h0 : 0 < y.toNat) : PV P (.binOp .rem T a b T') ρ (.int .u64 (x % y).toNat) := pvu_rem (k := .u64) hx hy h0
theorem pv_conv_i_u64 {S D : Nat} {n : Int} [hs : TyInt P S .i64] [hd : TyInt P D .u64] (hx : ev ρ a = .int .i64 n) : PV P (.convert S D a) ρ (.int .u64 (BitVec.ofInt 64 n).toNat) := pvu_convI (k := .u64) rfl hx
theorem pv_conv_u64_i {S D : Nat} [hs : TyInt P S .u64] [hd : TyInt P D .i64] (hx : ev ρ a = .int .u64 x.toNat) (h : x.toNat < 9223372036854775808) : PV P (.convert S D a) ρ (.int .i64 x.toNat) := pvu_convN (k := .u64) hx h
theorem pv_conv_u64_u8 {S D : Nat} [hs : TyInt P S .u64] [hd : TyInt P D .u8] (hx : ev ρ a = .int .u64 x.toNat) : PV P (.convert S D a) ρ (.int .u8 (x.setWidth 8).toNat) := pvu_conv (k := .u64) (k' := .u8) rfl hx
theorem pv_conv_u64_u16 {S D : Nat} [hs : TyInt P S .u64] [hd : TyInt P D .u16] (hx : ev ρ a = .int .u64 x.toNat) : PV P (.convert S D a) ρ (.int .u16 (x.setWidth 16).toNat) := pvu_conv (k := .u64) (k' := .u16) rfl hx
theorem pv_conv_u64_u32 {S D : Nat} [hs : TyInt P S .u64] [hd : TyInt P D .u32] (hx : ev ρ a = .int .u64 x.toNat) : PV P (.convert S D a) ρ (.int .u32 (x.setWidth 32).toNat) := pvu_conv (k := .u64) (k' := .u32) rfl hx
theorem pv_conv_u64_u64 {S D : Nat} [hs : TyInt P S .u64] [hd : TyInt P D .u64] (hx : ev ρ a = .int .u64 x.toNat) : PV P (.convert S D a) ρ (.int .u64 (x.setWidth 64).toNat) := pvu_conv (k := .u64) (k' := .u64) rfl hx
end
abbrev u64b (x : BitVec 64) : Value := .int .u64 x.toNat

section
variable {P : Program} {ρ : Env} {x y : Operand} {k : IntKind} {S E by' bb o l c n : Nat} {z : Value}
theorem pv_ixs1 [hs : TySlice P S E] [hi : TyI P E 1 by' z] (hx : ev ρ x = .slice (some ⟨bb, o, none⟩) l c) (hy : ev ρ y = .int k (n : Int)) (h : n < l) : PV P (.indexAddr S x y) ρ (.pointer (some ⟨bb, o + n, none⟩)) := by
  have := pv_indexAddr_n (P := P) (S := S) hx hy h
  simpa using this
theorem pv_ixa {sz : Nat} [hs : TyArr P S l E] [hi : TyI P E sz by' z] (hx : ev ρ x = .pointer (some ⟨bb, o, none⟩)) (hy : ev ρ y = .int k (n : Int)) (h : n < l) : PV P (.indexAddr S x y) ρ (.pointer (some ⟨bb, o + n * sz, none⟩)) := by
  have := pv_indexAddr_a (P := P) (S := S) hx hy ⟨by omega, by omega⟩
  simpa using this
theorem pv_ixa1 [hs : TyArr P S l E] [hi : TyI P E 1 by' z] (hx : ev ρ x = .pointer (some ⟨bb, o, none⟩)) (hy : ev ρ y = .int k (n : Int)) (h : n < l) : PV P (.indexAddr S x y) ρ (.pointer (some ⟨bb, o + n, none⟩)) := by
  have := pv_ixa (P := P) (S := S) hx hy h
  simpa using this
theorem pv_ixs1z [hs : TySlice P S E] [hi : TyI P E 1 by' z] (hx : ev ρ x = .slice (some ⟨bb, 0, none⟩) l c) (hy : ev ρ y = .int k (n : Int)) (h : n < l) : PV P (.indexAddr S x y) ρ (.pointer (some ⟨bb, n, none⟩)) := by
  have := pv_ixs1 (P := P) (S := S) hx hy h
  rwa [Nat.zero_add] at this
theorem pv_ixa1z [hs : TyArr P S l E] [hi : TyI P E 1 by' z] (hx : ev ρ x = .pointer (some ⟨bb, 0, none⟩)) (hy : ev ρ y = .int k (n : Int)) (h : n < l) : PV P (.indexAddr S x y) ρ (.pointer (some ⟨bb, n, none⟩)) := by
  have := pv_ixa1 (P := P) (S := S) hx hy h
  rwa [Nat.zero_add] at this
theorem pv_indexAddr_nz {sz : Nat} [hs : TySlice P S E] [hi : TyI P E sz by' z] (hx : ev ρ x = .slice (some ⟨bb, 0, none⟩) l c) (hy : ev ρ y = .int k (n : Int)) (h : n < l) : PV P (.indexAddr S x y) ρ (.pointer (some ⟨bb, n * sz, none⟩)) := by
  have := pv_indexAddr_n (P := P) (S := S) hx hy h
  rwa [Nat.zero_add] at this
theorem pv_ixaz {sz : Nat} [hs : TyArr P S l E] [hi : TyI P E sz by' z] (hx : ev ρ x = .pointer (some ⟨bb, 0, none⟩)) (hy : ev ρ y = .int k (n : Int)) (h : n < l) : PV P (.indexAddr S x y) ρ (.pointer (some ⟨bb, n * sz, none⟩)) := by
  have := pv_ixa (P := P) (S := S) hx hy h
  rwa [Nat.zero_add] at this
theorem pv_fieldAddrz {S i off F sz : Nat} [hf : Fld P S i off F] [hi : TyI P F sz by' z] (hx : ev ρ x = .pointer (some ⟨bb, 0, none⟩)) (h0 : sz ≠ 0) : PV P (.fieldAddr S x i) ρ (.pointer (some ⟨bb, off, none⟩)) := by
  have := pv_fieldAddr (P := P) (S := S) (i := i) (F := F) (off := off) hx h0
  rwa [Nat.zero_add] at this
theorem pv_sa2p {A m : Nat} [hs : TyArr P A m E] (hx : ev ρ x = .slice (some ⟨bb, o, none⟩) l c) (h : m ≤ l) : PV P (.sliceToArrayPointer A x) ρ (.pointer (some ⟨bb, o, none⟩)) := by
  intro oo w ho; unfold execOp; rw [ho]; refine op_run_value ?_; rw [hx]
  unfold Instr.arrayAt
  rw [run_bind P _ _ w w _ (run_under hs.h)]
  simp only []
  rw [if_neg (by omega)]
  rfl
end
section
variable {P : Program} {ρ : Env} {T T' : Nat} {x y : Operand} {a b : Nat}
theorem pv_addn (hx : ev ρ x = .int .i64 (a : Int)) (hy : ev ρ y = .int .i64 (b : Int)) (h : a + b ≤ 9223372036854775807) : PV P (.binOp .add T x y T') ρ (.int .i64 ((a + b : Nat) : Int)) := by
  have := pv_add_i (P := P) (T := T) (T' := T') hx hy ⟨by omega, by omega⟩
  rwa [← Int.natCast_add] at this
theorem pv_subn (hx : ev ρ x = .int .i64 (a : Int)) (hy : ev ρ y = .int .i64 (b : Int)) (h : b ≤ a) (ha : a ≤ 9223372036854775807) : PV P (.binOp .sub T x y T') ρ (.int .i64 ((a - b : Nat) : Int)) := by
  have := pv_sub_i (P := P) (T := T) (T' := T') hx hy ⟨by omega, by omega⟩
  rwa [← Int.natCast_sub h] at this
theorem pv_muln (hx : ev ρ x = .int .i64 (a : Int)) (hy : ev ρ y = .int .i64 (b : Int)) (h : a * b ≤ 9223372036854775807) : PV P (.binOp .mul T x y T') ρ (.int .i64 ((a * b : Nat) : Int)) := by
  have e : ((a : Int) * b) = ((a * b : Nat) : Int) := (Int.natCast_mul a b).symm
  have := pv_mul_i (P := P) (T := T) (T' := T') hx hy (by rw [e]; exact ⟨by omega, by omega⟩)
  rwa [e] at this
theorem pv_quon (hx : ev ρ x = .int .i64 (a : Int)) (hy : ev ρ y = .int .i64 (b : Int)) (h : 0 < b) (ha : a ≤ 9223372036854775807) : PV P (.binOp .quo T x y T') ρ (.int .i64 ((a / b : Nat) : Int)) := by
  have := pv_quo_i (P := P) (T := T) (T' := T') hx hy ⟨by omega, by omega, by omega⟩
  rwa [show ((a : Int) / b) = ((a / b : Nat) : Int) from by push_cast; rfl] at this
theorem pv_remn (hx : ev ρ x = .int .i64 (a : Int)) (hy : ev ρ y = .int .i64 (b : Int)) (h : 0 < b) : PV P (.binOp .rem T x y T') ρ (.int .i64 ((a % b : Nat) : Int)) := by
  have := pv_rem_i (P := P) (T := T) (T' := T') hx hy ⟨by omega, by omega⟩
  rwa [show ((a : Int) % b) = ((a % b : Nat) : Int) from by push_cast; rfl] at this
theorem pv_lssn {k : IntKind} (hx : ev ρ x = .int k (a : Int)) (hy : ev ρ y = .int k (b : Int)) : PV P (.binOp .lss T x y T') ρ (.bool (decide (a < b))) := by
  have := pv_lss (P := P) (T := T) (T' := T') hx hy
  rwa [show decide ((a : Int) < b) = decide (a < b) from decide_eq_decide.2 (by omega)] at this
theorem pv_leqn {k : IntKind} (hx : ev ρ x = .int k (a : Int)) (hy : ev ρ y = .int k (b : Int)) : PV P (.binOp .leq T x y T') ρ (.bool (decide (a ≤ b))) := by
  have := pv_leq (P := P) (T := T) (T' := T') hx hy
  rwa [show decide ((a : Int) ≤ b) = decide (a ≤ b) from decide_eq_decide.2 (by omega)] at this
theorem pv_gtrn {k : IntKind} (hx : ev ρ x = .int k (a : Int)) (hy : ev ρ y = .int k (b : Int)) : PV P (.binOp .gtr T x y T') ρ (.bool (decide (b < a))) := by
  have := pv_gtr (P := P) (T := T) (T' := T') hx hy
  rwa [show decide ((b : Int) < a) = decide (b < a) from decide_eq_decide.2 (by omega)] at this
theorem pv_geqn {k : IntKind} (hx : ev ρ x = .int k (a : Int)) (hy : ev ρ y = .int k (b : Int)) : PV P (.binOp .geq T x y T') ρ (.bool (decide (b ≤ a))) := by
  have := pv_geq (P := P) (T := T) (T' := T') hx hy
  rwa [show decide ((b : Int) ≤ a) = decide (b ≤ a) from decide_eq_decide.2 (by omega)] at this
theorem pv_eqln {k : IntKind} (hx : ev ρ x = .int k (a : Int)) (hy : ev ρ y = .int k (b : Int)) : PV P (.binOp .eql T x y T') ρ (.bool (decide (a = b))) := by
  have := pv_eql (P := P) (T := T) (T' := T') hx hy
  rwa [show decide ((a : Int) = b) = decide (a = b) from decide_eq_decide.2 (by omega)] at this
theorem pv_neqn {k : IntKind} (hx : ev ρ x = .int k (a : Int)) (hy : ev ρ y = .int k (b : Int)) : PV P (.binOp .neq T x y T') ρ (.bool (decide (a ≠ b))) := by
  have := pv_neq (P := P) (T := T) (T' := T') hx hy
  rwa [show decide ((a : Int) ≠ b) = decide (a ≠ b) from decide_eq_decide.2 (by omega)] at this
theorem pv_conv_ii {S D : Nat} {n : Int} [hs : TyInt P S .i64] [hd : TyInt P D .i64] (hx : ev ρ x = .int .i64 n) (h : -9223372036854775808 ≤ n ∧ n ≤ 9223372036854775807) : PV P (.convert S D x) ρ (.int .i64 n) := pv_conv_in hx (IntWalk.i64_in _ h)
theorem pv_move_tup {t : Array Value} (h : ev ρ x = .tuple t) : PV P (.move x) ρ (.tuple t) := pv_move h
theorem pv_move_map {t : Option Nat} (h : ev ρ x = .map t) : PV P (.move x) ρ (.map t) := pv_move h
theorem pv_move_str {t : ByteArray} (h : ev ρ x = .string t) : PV P (.move x) ρ (.string t) := pv_move h
theorem pv_move_ifc {t : Nat} {v : Value} (h : ev ρ x = .iface t v) : PV P (.move x) ρ (.iface t v) := pv_move h
theorem pv_assign_map {t : Option Nat} (h : ev ρ x = .map t) : PV P (.assign x) ρ (.map t) := pv_assign h
theorem pv_assign_str {t : ByteArray} (h : ev ρ x = .string t) : PV P (.assign x) ρ (.string t) := pv_assign h
theorem pv_assign_ifc {t : Nat} {v : Value} (h : ev ρ x = .iface t v) : PV P (.assign x) ρ (.iface t v) := pv_assign h
theorem pv_assign_tup {t : Array Value} (h : ev ρ x = .tuple t) : PV P (.assign x) ρ (.tuple t) := pv_assign h
theorem pv_assign_func {f : Fn} {a b : Array Value} (h : ev ρ x = .func f a b) : PV P (.assign x) ρ (.func f a b) := pv_assign h
/-- A piece of an array, or of a slice. -/
theorem pv_sla {S E sz by' bb o n : Nat} {z : Value} {lo hi : Option Operand} {l h : Nat} [hs : TyArr P S n E] [hi' : TyI P E sz by' z] (hx : ev ρ x = .pointer (some ⟨bb, o, none⟩))
    (hl : optB ρ 0 lo = some (l : Int)) (hh : optB ρ n hi = some (h : Int)) (hle : l ≤ h) (hc : h ≤ n) (hn : l < n) : PV P (.slice S x lo hi none) ρ (.slice (some ⟨bb, o + l * sz, none⟩) (h - l) (n - l)) := by
  have := pv_slice_arr (P := P) (S := S) (bb := bb) (o := o) hx hl hh ⟨by omega, by omega⟩ (by omega)
  simp only [Int.toNat_natCast, cutOff, if_neg (show ¬ n = l by omega)] at this
  exact this
theorem pv_sls {S E sz by' bb o n c : Nat} {z : Value} {lo hi : Option Operand} {l h : Nat} [hs : TySlice P S E] [hi' : TyI P E sz by' z] (hx : ev ρ x = .slice (some ⟨bb, o, none⟩) n c)
    (hl : optB ρ 0 lo = some (l : Int)) (hh : optB ρ n hi = some (h : Int)) (hle : l ≤ h) (hc : h ≤ c) (hn : l < c) : PV P (.slice S x lo hi none) ρ (.slice (some ⟨bb, o + l * sz, none⟩) (h - l) (c - l)) := by
  have := pv_slice (P := P) (S := S) (bb := bb) (o := o) hx hl hh ⟨by omega, by omega⟩ (by omega)
  simp only [Int.toNat_natCast, cutOff, if_neg (show ¬ c = l by omega)] at this
  exact this
theorem pv_sla1 {S E by' bb o n : Nat} {z : Value} {lo hi : Option Operand} {l h : Nat} [hs : TyArr P S n E] [hi' : TyI P E 1 by' z] (hx : ev ρ x = .pointer (some ⟨bb, o, none⟩))
    (hl : optB ρ 0 lo = some (l : Int)) (hh : optB ρ n hi = some (h : Int)) (hle : l ≤ h) (hc : h ≤ n) (hn : l < n) : PV P (.slice S x lo hi none) ρ (.slice (some ⟨bb, o + l, none⟩) (h - l) (n - l)) := by
  have := pv_sla (P := P) (S := S) hx hl hh hle hc hn
  rwa [Nat.mul_one] at this
theorem pv_sla10 {S E by' bb o n : Nat} {z : Value} {hi : Option Operand} {h : Nat} [hs : TyArr P S n E] [hi' : TyI P E 1 by' z] (hx : ev ρ x = .pointer (some ⟨bb, o, none⟩))
    (hh : optB ρ n hi = some (h : Int)) (hc : h ≤ n) (hn : 0 < n) : PV P (.slice S x none hi none) ρ (.slice (some ⟨bb, o, none⟩) h n) := by
  have := pv_sla1 (P := P) (S := S) (lo := none) (l := 0) hx rfl hh (by omega) hc hn
  simpa using this
theorem pv_sls1 {S E by' bb o n c : Nat} {z : Value} {lo hi : Option Operand} {l h : Nat} [hs : TySlice P S E] [hi' : TyI P E 1 by' z] (hx : ev ρ x = .slice (some ⟨bb, o, none⟩) n c)
    (hl : optB ρ 0 lo = some (l : Int)) (hh : optB ρ n hi = some (h : Int)) (hle : l ≤ h) (hc : h ≤ c) (hn : l < c) : PV P (.slice S x lo hi none) ρ (.slice (some ⟨bb, o + l, none⟩) (h - l) (c - l)) := by
  have := pv_sls (P := P) (S := S) hx hl hh hle hc hn
  rwa [Nat.mul_one] at this
/-- From the beginning on. -/
theorem pv_sls0 {S E sz by' bb o n c : Nat} {z : Value} {hi : Option Operand} {h : Nat} [hs : TySlice P S E] [hi' : TyI P E sz by' z] (hx : ev ρ x = .slice (some ⟨bb, o, none⟩) n c)
    (hh : optB ρ n hi = some (h : Int)) (hc : h ≤ c) : PV P (.slice S x none hi none) ρ (.slice (some ⟨bb, o, none⟩) h c) := by
  have := pv_slice (P := P) (S := S) (bb := bb) (o := o) (lo := none) (l := 0) hx rfl hh ⟨by omega, by omega⟩ (by omega)
  have e : cutOff o (0 : Int).toNat c sz = o := by simp [cutOff]
  rw [e] at this
  simpa using this
/-- Whatever its address. -/
theorem pv_slsc {S E sz by' n c : Nat} {a : Option Addr} {z : Value} {lo hi : Option Operand} {l h : Nat} [hs : TySlice P S E] [hi' : TyI P E sz by' z] (hx : ev ρ x = .slice a n c)
    (hl : optB ρ 0 lo = some (l : Int)) (hh : optB ρ n hi = some (h : Int)) (hle : l ≤ h) (hc : h ≤ c) : PV P (.slice S x lo hi none) ρ (.slice (if c = l then a else a.map (·.add (l * sz))) (h - l) (c - l)) := by
  intro oo w ho; unfold execOp; rw [ho]; refine op_run_value ?_; rw [hx]
  unfold Instr.sliceAt
  rw [run_bind P _ _ w w _ (run_under hs.h)]
  simp only []
  unfold Instr.slice
  rw [run_bind P _ _ w w _ (run_under hs.h)]
  simp only [Option.map_none]
  rw [run_bind P _ _ w w _ (run_bounds hl hh ⟨by omega, by omega⟩ (by omega)), run_bind P _ _ w w _ (run_size hi')]
  show (Result.ok (Value.slice _ _ _) w : Result Value) = _
  rw [Int.toNat_natCast, Int.toNat_natCast]
end
theorem Rd.cut {M : List Asrt} {a : Option Addr} {n c l : Nat} {xs : List Value} (h : Rd M 1 (.slice a n c) n xs) (hl : l ≤ n) (hc : n ≤ c) : Rd M 1 (.slice (if c = l then a else a.map (·.add (l * 1))) (n - l) (c - l)) (n - l) (xs.drop l) := by
  intro w0 F w H
  obtain ⟨h1, h2⟩ := h w0 F w H
  refine ⟨by simp [h1], ?_⟩
  by_cases hn : n = l
  · exact .inl ⟨_, _, rfl, by omega⟩
  · rcases h2 with ⟨a, k, _, h0⟩ | ⟨b, o, k, cc, E, fr, hv, hb, hle, hx⟩
    · omega
    · simp only [Value.slice.injEq] at hv
      obtain ⟨rfl, _, rfl⟩ := hv
      rw [if_neg (by omega)]
      refine .inr ⟨b, o + l, c - l, cc, E, fr, ?_, hb, by omega, ?_⟩
      · simp [Option.map, addr_add]
      · rw [← hx]
        simp only [Array.toList_extract, List.extract_eq_take_drop, List.drop_take, List.drop_drop]
        congr 1
        omega
theorem pv_mkifc_i {P : Program} {ρ : Env} {T : Nat} {x : Operand} {k kk : IntKind} {n : Int} [hs : TyInt P T kk] (hx : ev ρ x = .int k n) : PV P (.makeInterface T x) ρ (.iface T (.int k n)) := by
  intro oo w ho; unfold execOp; rw [ho]; refine op_run_value ?_; rw [hx]
  unfold Instr.makeInterface
  rw [run_bind P _ _ w w _ (run_under hs.h)]; rfl
theorem int_eq {k : IntKind} {a b : Int} (h : a = b) : Value.int k a = .int k b := by rw [h]
section
variable {P : Program} {w0 : World} {ops : Array Oper} {dst : Option Nat} {ty T E : TypeId} {pos : String} {after : Array Edge} {rest : List Oper} {ρ : Env} {K : XK} {M : List Asrt} {x y : Operand}
/-- A made slice of cells that are alike. -/
theorem x_mk1 {α : Type} {by' : Nat} {z : Value} {f : α → Value} {a : α} {len cap : Nat} [hs : TySlice P T E] [hi : TyI P E 1 by' z] (hl : ev ρ x = .int .i64 len) (hc : ev ρ y = .int .i64 cap) (hz : z.cells = #[f a]) (hle : len ≤ cap) (hcap : cap ≤ 9223372036854775807) (hb : cap * by' ≤ 281474976710656)
    (k : ∀ b, xOps P w0 ops rest (put ρ dst (.slice (some ⟨b, 0, none⟩) len cap)) (cl b ((List.replicate cap a).map f).toArray E :: M) K) :
    xOps P w0 ops (⟨dst, .makeSlice T x y, ty, pos, after, none⟩ :: rest) ρ M K := by
  refine x_makeSlice hl hc hle hcap hb (by omega) ?_
  intro b
  have e : (List.replicate cap z.cells.toList).flatten = (List.replicate cap a).map f := by
    rw [hz]; show (List.replicate cap [f a]).flatten = _
    rw [zeros1]; simp
  rw [e]; exact k b
end
theorem getL {α : Type} {f : α → Value} {l : List α} {i : Nat} (h : i < l.length) : ((l.map f).toArray)[i]? = some (f l[i]) := by simp [h]
theorem getM {α : Type} {f : α → Value} {l : List α} {i : Nat} (h : i < l.length) : (l.map f)[i]? = some (f l[i]) := by simp [h]
theorem setL {α : Type} {f : α → Value} {l : List α} {i : Nat} {x : α} : ((l.map f).toArray).setIfInBounds i (f x) = ((l.set i x).map f).toArray := by simp
theorem szL {α : Type} {f : α → Value} {l : List α} : ((l.map f).toArray).size = l.length := by simp
theorem oneL_u8 (l : List (BitVec 8)) : ((l.map u8b).toArray).toList.all oneC = true := by simp [oneC]
theorem oneL_u32 (l : List (BitVec 32)) : ((l.map u32b).toArray).toList.all oneC = true := by simp [oneC]
theorem oneL_u64 (l : List (BitVec 64)) : ((l.map u64b).toArray).toList.all oneC = true := by simp [oneC]
theorem oneM_u8 (l : List (BitVec 8)) : (l.map u8b).all oneC = true := by simp [oneC]
end Go.Sl
