/- Parts of the proof. -/
import Derived.Test.YtkifhflakdkemaaGreatLawSorterBreaksM0
import Derived.Laws.Bits64
import Derived.Laws.BitsLemmas
import Derived.Laws.BitsAllLaws
import Derived.OpenShut
import Derived.Test.YtkifhflakdkemaaGreatProg
import Derived.Laws.Externs
import Derived.Lib.Mul64
set_option maxHeartbeats 4000000
set_option maxRecDepth 10000
set_option linter.unusedVariables false
set_option linter.unusedSimpArgs false
namespace Go.Sl
open Go
theorem uwrap {k : IntKind} (hk : k.signed = false) (n : Int) : k.wrap n = ((BitVec.ofInt k.bits n).toNat : Int) := by
  have h : (2 ^ k.bits : Int) = ((2 ^ k.bits : Nat) : Int) := by push_cast; rfl
  have hp : (0 : Int) < ((2 ^ k.bits : Nat) : Int) := by exact_mod_cast Nat.two_pow_pos k.bits
  unfold IntKind.wrap
  rw [hk, BitVec.toNat_ofInt, h]
  simp only [Bool.false_and, Bool.false_eq_true, if_false]
  rw [Int.toNat_of_nonneg (Int.emod_nonneg _ (by omega))]
theorem ofInt_nat {w : Nat} (x : BitVec w) : BitVec.ofInt w (x.toNat : Int) = x := by
  apply BitVec.eq_of_toNat_eq
  rw [BitVec.toNat_ofInt, ← Int.natCast_emod]
  simp [Nat.mod_eq_of_lt x.isLt]
theorem uwrap_nat {k : IntKind} (hk : k.signed = false) (x : BitVec k.bits) : k.wrap (x.toNat : Int) = (x.toNat : Int) := by rw [uwrap hk, ofInt_nat]
section
variable {P : Program} {ρ : Env} {T T' : Nat} {a b : Operand} {k : IntKind} {x y : BitVec k.bits}
theorem pvu_add (hk : k.signed = false) (hx : ev ρ a = .int k x.toNat) (hy : ev ρ b = .int k y.toNat) : PV P (.binOp .add T a b T') ρ (.int k (x + y).toNat) := by
  have h := Zbd (P := P) (T := T) (T' := T') hx hy
  have e : BitVec.ofInt k.bits ((x.toNat : Int) + y.toNat) = x + y := by rw [BitVec.ofInt_add, ofInt_nat, ofInt_nat]
  rwa [uwrap hk, e] at h
theorem pvu_sub (hk : k.signed = false) (hx : ev ρ a = .int k x.toNat) (hy : ev ρ b = .int k y.toNat) : PV P (.binOp .sub T a b T') ρ (.int k (x - y).toNat) := by
  have h := Zbe (P := P) (T := T) (T' := T') hx hy
  have e : BitVec.ofInt k.bits ((x.toNat : Int) - y.toNat) = x - y := by rw [Int.sub_eq_add_neg, BitVec.ofInt_add, ofInt_nat, BitVec.ofInt_neg, ofInt_nat, BitVec.sub_eq_add_neg]
  rwa [uwrap hk, e] at h
theorem pvu_mul (hk : k.signed = false) (hx : ev ρ a = .int k x.toNat) (hy : ev ρ b = .int k y.toNat) : PV P (.binOp .mul T a b T') ρ (.int k (x * y).toNat) := by
  have h := Zbf (P := P) (T := T) (T' := T') hx hy
  have e : BitVec.ofInt k.bits ((x.toNat : Int) * y.toNat) = x * y := by rw [BitVec.ofInt_mul, ofInt_nat, ofInt_nat]
  rwa [uwrap hk, e] at h
theorem pvu_and (hk : k.signed = false) (hx : ev ρ a = .int k x.toNat) (hy : ev ρ b = .int k y.toNat) : PV P (.binOp .and T a b T') ρ (.int k (x &&& y).toNat) := by
  have h := Zbu (P := P) (T := T) (T' := T') hx hy
  rwa [ofInt_nat, ofInt_nat, uwrap_nat hk] at h
theorem pvu_or (hk : k.signed = false) (hx : ev ρ a = .int k x.toNat) (hy : ev ρ b = .int k y.toNat) : PV P (.binOp .or T a b T') ρ (.int k (x ||| y).toNat) := by
  have h := Zbv (P := P) (T := T) (T' := T') hx hy
  rwa [ofInt_nat, ofInt_nat, uwrap_nat hk] at h
theorem pvu_xor (hk : k.signed = false) (hx : ev ρ a = .int k x.toNat) (hy : ev ρ b = .int k y.toNat) : PV P (.binOp .xor T a b T') ρ (.int k (x ^^^ y).toNat) := by
  have h := Zbw (P := P) (T := T) (T' := T') hx hy
  rwa [ofInt_nat, ofInt_nat, uwrap_nat hk] at h
theorem pvu_andNot (hk : k.signed = false) (hx : ev ρ a = .int k x.toNat) (hy : ev ρ b = .int k y.toNat) : PV P (.binOp .andNot T a b T') ρ (.int k (x &&& ~~~ y).toNat) := by
  have h := Zbx (P := P) (T := T) (T' := T') hx hy
  rwa [ofInt_nat, ofInt_nat, uwrap_nat hk] at h
theorem pvu_shl {k' : IntKind} {m : Nat} (hk : k.signed = false) (hx : ev ρ a = .int k x.toNat) (hy : ev ρ b = .int k' (m : Int)) : PV P (.binOp .shl T a b T') ρ (.int k (x <<< m).toNat) := by
  have h := Zby (P := P) (T := T) (T' := T') hx hy (by omega)
  have e : BitVec.ofInt k.bits ((x.toNat : Int) * 2 ^ (min m k.bits)) = x <<< m := by
    apply BitVec.eq_of_toNat_eq
    rw [BitVec.toNat_shiftLeft, BitVec.toNat_ofInt, show ((x.toNat : Int) * 2 ^ (min m k.bits)) = ((x.toNat * 2 ^ (min m k.bits) : Nat) : Int) by push_cast; rfl, ← Int.natCast_emod, Int.toNat_natCast, Nat.shiftLeft_eq]
    rcases Nat.le_total m k.bits with hle|hle
    · rw [Nat.min_eq_left hle]
    · rw [Nat.min_eq_right hle]
      obtain ⟨d, rfl⟩ := Nat.exists_eq_add_of_le hle
      rw [Nat.pow_add, ← Nat.mul_assoc, Nat.mul_mod_left, Nat.mul_right_comm, Nat.mul_mod_left]
  rw [uwrap hk, Int.toNat_natCast, e] at h
  exact h
theorem pvu_shr {k' : IntKind} {m : Nat} (hk : k.signed = false) (hx : ev ρ a = .int k x.toNat) (hy : ev ρ b = .int k' (m : Int)) : PV P (.binOp .shr T a b T') ρ (.int k (x >>> m).toNat) := by
  have h := Zbz (P := P) (T := T) (T' := T') hx hy (by omega)
  have e : (x.toNat : Int).fdiv (2 ^ (min m k.bits)) = ((x >>> m).toNat : Int) := by
    have hp : (0 : Int) ≤ 2 ^ (min m k.bits) := by
      rw [show ((2 : Int) ^ (min m k.bits)) = ((2 ^ (min m k.bits) : Nat) : Int) by push_cast; rfl]
      exact Int.natCast_nonneg _
    rw [Int.fdiv_eq_ediv_of_nonneg _ hp, BitVec.toNat_ushiftRight, Nat.shiftRight_eq_div_pow]
    rcases Nat.le_total m k.bits with hle|hle
    · rw [Nat.min_eq_left hle]; push_cast; rfl
    · rw [Nat.min_eq_right hle]
      have h1 : x.toNat / 2 ^ k.bits = 0 := Nat.div_eq_of_lt x.isLt
      have h2 : x.toNat / 2 ^ m = 0 := Nat.div_eq_of_lt (Nat.lt_of_lt_of_le x.isLt (Nat.pow_le_pow_right (by omega) hle))
      rw [h2]
      have h3 : ((x.toNat : Int) / 2 ^ k.bits) = ((x.toNat / 2 ^ k.bits : Nat) : Int) := by push_cast; rfl
      rw [h3, h1]
  rw [Int.toNat_natCast, e] at h
  exact h
theorem pvu_not (hk : k.signed = false) (hx : ev ρ a = .int k x.toNat) : PV P (.unOp .xor T a) ρ (.int k (~~~ x).toNat) := by
  have h := Zb3 (P := P) (T := T) hx
  have e : BitVec.ofInt k.bits (if k.signed then -1 else k.max) = BitVec.allOnes k.bits := by
    rw [hk]; simp only [Bool.false_eq_true, if_false, IntKind.max, hk]
    apply BitVec.eq_of_toNat_eq
    have hp := Nat.two_pow_pos k.bits
    rw [BitVec.toNat_ofInt, BitVec.toNat_allOnes, show (2 ^ k.bits - 1 : Int) = ((2 ^ k.bits - 1 : Nat) : Int) by push_cast [Nat.one_le_two_pow]; rfl, ← Int.natCast_emod, Int.toNat_natCast, Nat.mod_eq_of_lt (by omega)]
  rw [e, ofInt_nat, uwrap_nat hk, BitVec.allOnes_xor] at h
  exact h
theorem pvu_neg (hk : k.signed = false) (hx : ev ρ a = .int k x.toNat) : PV P (.unOp .neg T a) ρ (.int k (- x).toNat) := by
  have h := Zb2 (P := P) (T := T) hx
  have e : BitVec.ofInt k.bits (0 - (x.toNat : Int)) = - x := by rw [Int.zero_sub, BitVec.ofInt_neg, ofInt_nat]
  rwa [uwrap hk, e] at h
theorem pvu_eql (hx : ev ρ a = .int k x.toNat) (hy : ev ρ b = .int k y.toNat) : PV P (.binOp .eql T a b T') ρ (.bool (decide (x = y))) := by
  have h := Zbr (P := P) (T := T) (T' := T') hx hy
  have e : decide ((x.toNat : Int) = y.toNat) = decide (x = y) := decide_eq_decide.2 ⟨fun h => BitVec.eq_of_toNat_eq (by omega), fun h => by rw [h]⟩
  rwa [e] at h
theorem pvu_neq (hx : ev ρ a = .int k x.toNat) (hy : ev ρ b = .int k y.toNat) : PV P (.binOp .neq T a b T') ρ (.bool (decide (x ≠ y))) := by
  have h := Zbs (P := P) (T := T) (T' := T') hx hy
  have e : decide ((x.toNat : Int) ≠ y.toNat) = decide (x ≠ y) := decide_eq_decide.2 ⟨fun h e => h (by rw [e]), fun h e => h (BitVec.eq_of_toNat_eq (by omega))⟩
  rwa [e] at h
theorem pvu_gtr (hx : ev ρ a = .int k x.toNat) (hy : ev ρ b = .int k y.toNat) : PV P (.binOp .gtr T a b T') ρ (.bool (decide (y.toNat < x.toNat))) := by
  have h := Zbp (P := P) (T := T) (T' := T') hx hy
  rwa [show decide ((y.toNat : Int) < x.toNat) = decide (y.toNat < x.toNat) from decide_eq_decide.2 (by omega)] at h
theorem pvu_geq (hx : ev ρ a = .int k x.toNat) (hy : ev ρ b = .int k y.toNat) : PV P (.binOp .geq T a b T') ρ (.bool (decide (y.toNat ≤ x.toNat))) := by
  have h := Zbq (P := P) (T := T) (T' := T') hx hy
  rwa [show decide ((y.toNat : Int) ≤ x.toNat) = decide (y.toNat ≤ x.toNat) from decide_eq_decide.2 (by omega)] at h
theorem pvu_quo (hk : k.signed = false) (hx : ev ρ a = .int k x.toNat) (hy : ev ρ b = .int k y.toNat) (h0 : 0 < y.toNat) : PV P (.binOp .quo T a b T') ρ (.int k (x / y).toNat) := by
  have e : ((x.toNat : Int) / y.toNat) = ((x / y).toNat : Int) := by rw [BitVec.toNat_udiv]; push_cast; rfl
  have h := Zbm (P := P) (T := T) (T' := T') hx hy hk ⟨by omega, by omega, by rw [e, uwrap_nat hk]⟩
  rwa [e] at h
theorem pvu_rem (hx : ev ρ a = .int k x.toNat) (hy : ev ρ b = .int k y.toNat) (h0 : 0 < y.toNat) : PV P (.binOp .rem T a b T') ρ (.int k (x % y).toNat) := by
  have h := Zbk (P := P) (T := T) (T' := T') hx hy (by omega)
  have e : ((x.toNat : Int)).tmod y.toNat = ((x % y).toNat : Int) := by rw [BitVec.toNat_umod]; rfl
  rwa [e] at h
theorem pvu_conv {S D : Nat} {k' : IntKind} [hs : TyInt P S k] [hd : TyInt P D k'] (hk' : k'.signed = false) (hx : ev ρ a = .int k x.toNat) : PV P (.convert S D a) ρ (.int k' (x.setWidth k'.bits).toNat) := by
  have h := Zb4 (P := P) (S := S) (D := D) hx
  have e : BitVec.ofInt k'.bits (x.toNat : Int) = x.setWidth k'.bits := by
    apply BitVec.eq_of_toNat_eq
    rw [BitVec.toNat_ofInt, BitVec.toNat_setWidth, ← Int.natCast_emod, Int.toNat_natCast]
  rwa [uwrap hk', e] at h
theorem pvu_convI {S D : Nat} {k0 : IntKind} {n : Int} [hs : TyInt P S k0] [hd : TyInt P D k] (hk : k.signed = false) (hx : ev ρ a = .int k0 n) : PV P (.convert S D a) ρ (.int k (BitVec.ofInt k.bits n).toNat) := by
  have h := Zb4 (P := P) (S := S) (D := D) hx
  rwa [uwrap hk] at h
theorem pvu_convN {S D : Nat} [hs : TyInt P S k] [hd : TyInt P D .i64] (hx : ev ρ a = .int k x.toNat) (h : x.toNat < 9223372036854775808) : PV P (.convert S D a) ρ (.int .i64 x.toNat) := by
  refine Zb5 hx ?_
  rw [IntWalk.i64_in _ ⟨by omega, by omega⟩]
end

section
variable {P : Program} {ρ : Env} {T T' : Nat} {a b : Operand} {x y : BitVec 8}
theorem Zi9 (hx : ev ρ a = .int .u8 x.toNat) (hy : ev ρ b = .int .u8 y.toNat) : PV P (.binOp .add T a b T') ρ (.int .u8 (x + y).toNat) := pvu_add (k := .u8) rfl hx hy
theorem Zjc (hx : ev ρ a = .int .u8 x.toNat) (hy : ev ρ b = .int .u8 y.toNat) : PV P (.binOp .and T a b T') ρ (.int .u8 (x &&& y).toNat) := pvu_and (k := .u8) rfl hx hy
theorem Zjd (hx : ev ρ a = .int .u8 x.toNat) (hy : ev ρ b = .int .u8 y.toNat) : PV P (.binOp .or T a b T') ρ (.int .u8 (x ||| y).toNat) := pvu_or (k := .u8) rfl hx hy
theorem Zje (hx : ev ρ a = .int .u8 x.toNat) (hy : ev ρ b = .int .u8 y.toNat) : PV P (.binOp .xor T a b T') ρ (.int .u8 (x ^^^ y).toNat) := pvu_xor (k := .u8) rfl hx hy
theorem Zjk (hx : ev ρ a = .int .u8 x.toNat) (hy : ev ρ b = .int .u8 y.toNat) : PV P (.binOp .eql T a b T') ρ (.bool (decide (x = y))) := pvu_eql (k := .u8) hx hy
theorem Zjs {S D : Nat} {n : Int} [hs : TyInt P S .i64] [hd : TyInt P D .u8] (hx : ev ρ a = .int .i64 n) : PV P (.convert S D a) ρ (.int .u8 (BitVec.ofInt 8 n).toNat) := pvu_convI (k := .u8) rfl hx
theorem Zjt {S D : Nat} [hs : TyInt P S .u8] [hd : TyInt P D .i64] (hx : ev ρ a = .int .u8 x.toNat) : PV P (.convert S D a) ρ (.int .i64 x.toNat) := pvu_convN (k := .u8) hx (Nat.lt_trans x.isLt (by decide))
theorem Zjw {S D : Nat} [hs : TyInt P S .u8] [hd : TyInt P D .u32] (hx : ev ρ a = .int .u8 x.toNat) : PV P (.convert S D a) ρ (.int .u32 (x.setWidth 32).toNat) := pvu_conv (k := .u8) (k' := .u32) rfl hx
theorem Zjx {S D : Nat} [hs : TyInt P S .u8] [hd : TyInt P D .u64] (hx : ev ρ a = .int .u8 x.toNat) : PV P (.convert S D a) ρ (.int .u64 (x.setWidth 64).toNat) := pvu_conv (k := .u8) (k' := .u64) rfl hx
end
abbrev u8b (x : BitVec 8) : Value := .int .u8 x.toNat
section
variable {P : Program} {ρ : Env} {T T' : Nat} {a b : Operand} {x y : BitVec 16}
end
section
variable {P : Program} {ρ : Env} {T T' : Nat} {a b : Operand} {x y : BitVec 32}
theorem Zkn (hx : ev ρ a = .int .u32 x.toNat) (hy : ev ρ b = .int .u32 y.toNat) : PV P (.binOp .add T a b T') ρ (.int .u32 (x + y).toNat) := pvu_add (k := .u32) rfl hx hy
theorem Zkq (hx : ev ρ a = .int .u32 x.toNat) (hy : ev ρ b = .int .u32 y.toNat) : PV P (.binOp .and T a b T') ρ (.int .u32 (x &&& y).toNat) := pvu_and (k := .u32) rfl hx hy
theorem Zkr (hx : ev ρ a = .int .u32 x.toNat) (hy : ev ρ b = .int .u32 y.toNat) : PV P (.binOp .or T a b T') ρ (.int .u32 (x ||| y).toNat) := pvu_or (k := .u32) rfl hx hy
theorem Zks (hx : ev ρ a = .int .u32 x.toNat) (hy : ev ρ b = .int .u32 y.toNat) : PV P (.binOp .xor T a b T') ρ (.int .u32 (x ^^^ y).toNat) := pvu_xor (k := .u32) rfl hx hy
theorem Zku {k' : IntKind} {m : Nat} (hx : ev ρ a = .int .u32 x.toNat) (hy : ev ρ b = .int k' (m : Int)) : PV P (.binOp .shl T a b T') ρ (.int .u32 (x <<< m).toNat) := pvu_shl (k := .u32) rfl hx hy
theorem Zkv {k' : IntKind} {m : Nat} (hx : ev ρ a = .int .u32 x.toNat) (hy : ev ρ b = .int k' (m : Int)) : PV P (.binOp .shr T a b T') ρ (.int .u32 (x >>> m).toNat) := pvu_shr (k := .u32) rfl hx hy
theorem Zkw (hx : ev ρ a = .int .u32 x.toNat) : PV P (.unOp .xor T a) ρ (.int .u32 (~~~ x).toNat) := pvu_not (k := .u32) rfl hx
theorem Zky (hx : ev ρ a = .int .u32 x.toNat) (hy : ev ρ b = .int .u32 y.toNat) : PV P (.binOp .eql T a b T') ρ (.bool (decide (x = y))) := pvu_eql (k := .u32) hx hy
theorem Zkz (hx : ev ρ a = .int .u32 x.toNat) (hy : ev ρ b = .int .u32 y.toNat) : PV P (.binOp .neq T a b T') ρ (.bool (decide (x ≠ y))) := pvu_neq (k := .u32) hx hy
theorem Zk6 {S D : Nat} {n : Int} [hs : TyInt P S .i64] [hd : TyInt P D .u32] (hx : ev ρ a = .int .i64 n) : PV P (.convert S D a) ρ (.int .u32 (BitVec.ofInt 32 n).toNat) := pvu_convI (k := .u32) rfl hx
theorem Zk8 {S D : Nat} [hs : TyInt P S .u32] [hd : TyInt P D .u8] (hx : ev ρ a = .int .u32 x.toNat) : PV P (.convert S D a) ρ (.int .u8 (x.setWidth 8).toNat) := pvu_conv (k := .u32) (k' := .u8) rfl hx
theorem Zlb {S D : Nat} [hs : TyInt P S .u32] [hd : TyInt P D .u64] (hx : ev ρ a = .int .u32 x.toNat) : PV P (.convert S D a) ρ (.int .u64 (x.setWidth 64).toNat) := pvu_conv (k := .u32) (k' := .u64) rfl hx
end
abbrev u32b (x : BitVec 32) : Value := .int .u32 x.toNat
section
variable {P : Program} {ρ : Env} {T T' : Nat} {a b : Operand} {x y : BitVec 64}
theorem Zlc (hx : ev ρ a = .int .u64 x.toNat) (hy : ev ρ b = .int .u64 y.toNat) : PV P (.binOp .add T a b T') ρ (.int .u64 (x + y).toNat) := pvu_add (k := .u64) rfl hx hy
theorem Zld (hx : ev ρ a = .int .u64 x.toNat) (hy : ev ρ b = .int .u64 y.toNat) : PV P (.binOp .sub T a b T') ρ (.int .u64 (x - y).toNat) := pvu_sub (k := .u64) rfl hx hy
theorem Zle (hx : ev ρ a = .int .u64 x.toNat) (hy : ev ρ b = .int .u64 y.toNat) : PV P (.binOp .mul T a b T') ρ (.int .u64 (x * y).toNat) := pvu_mul (k := .u64) rfl hx hy
theorem Zlf (hx : ev ρ a = .int .u64 x.toNat) (hy : ev ρ b = .int .u64 y.toNat) : PV P (.binOp .and T a b T') ρ (.int .u64 (x &&& y).toNat) := pvu_and (k := .u64) rfl hx hy
theorem Zlg (hx : ev ρ a = .int .u64 x.toNat) (hy : ev ρ b = .int .u64 y.toNat) : PV P (.binOp .or T a b T') ρ (.int .u64 (x ||| y).toNat) := pvu_or (k := .u64) rfl hx hy
theorem Zlh (hx : ev ρ a = .int .u64 x.toNat) (hy : ev ρ b = .int .u64 y.toNat) : PV P (.binOp .xor T a b T') ρ (.int .u64 (x ^^^ y).toNat) := pvu_xor (k := .u64) rfl hx hy
theorem Zli (hx : ev ρ a = .int .u64 x.toNat) (hy : ev ρ b = .int .u64 y.toNat) : PV P (.binOp .andNot T a b T') ρ (.int .u64 (x &&& ~~~ y).toNat) := pvu_andNot (k := .u64) rfl hx hy
theorem Zlj {k' : IntKind} {m : Nat} (hx : ev ρ a = .int .u64 x.toNat) (hy : ev ρ b = .int k' (m : Int)) : PV P (.binOp .shl T a b T') ρ (.int .u64 (x <<< m).toNat) := pvu_shl (k := .u64) rfl hx hy
theorem Zlk {k' : IntKind} {m : Nat} (hx : ev ρ a = .int .u64 x.toNat) (hy : ev ρ b = .int k' (m : Int)) : PV P (.binOp .shr T a b T') ρ (.int .u64 (x >>> m).toNat) := pvu_shr (k := .u64) rfl hx hy
theorem Zll (hx : ev ρ a = .int .u64 x.toNat) : PV P (.unOp .xor T a) ρ (.int .u64 (~~~ x).toNat) := pvu_not (k := .u64) rfl hx
theorem Zlm (hx : ev ρ a = .int .u64 x.toNat) : PV P (.unOp .neg T a) ρ (.int .u64 (- x).toNat) := pvu_neg (k := .u64) rfl hx
theorem Zln (hx : ev ρ a = .int .u64 x.toNat) (hy : ev ρ b = .int .u64 y.toNat) : PV P (.binOp .eql T a b T') ρ (.bool (decide (x = y))) := pvu_eql (k := .u64) hx hy
theorem Zlo (hx : ev ρ a = .int .u64 x.toNat) (hy : ev ρ b = .int .u64 y.toNat) : PV P (.binOp .neq T a b T') ρ (.bool (decide (x ≠ y))) := pvu_neq (k := .u64) hx hy
theorem Zlr (hx : ev ρ a = .int .u64 x.toNat) (hy : ev ρ b = .int .u64 y.toNat) : PV P (.binOp .gtr T a b T') ρ (.bool (decide (y.toNat < x.toNat))) := pvu_gtr (k := .u64) hx hy
theorem Zls (hx : ev ρ a = .int .u64 x.toNat) (hy : ev ρ b = .int .u64 y.toNat) : PV P (.binOp .geq T a b T') ρ (.bool (decide (y.toNat ≤ x.toNat))) := pvu_geq (k := .u64) hx hy
theorem Zlt (hx : ev ρ a = .int .u64 x.toNat) (hy : ev ρ b = .int .u64 y.toNat) (h0 : 0 < y.toNat := by first|omega|exact Nat.le_of_ble_eq_true rfl|(simp; done)|(simp; omega)|decide) : PV P (.binOp .quo T a b T') ρ (.int .u64 (x / y).toNat) := pvu_quo (k := .u64) rfl hx hy h0
theorem Zlu (hx : ev ρ a = .int .u64 x.toNat) (hy : ev ρ b = .int .u64 y.toNat) (h0 : 0 < y.toNat := by first|omega|exact Nat.le_of_ble_eq_true rfl|(simp; done)|(simp; omega)|decide) : PV P (.binOp .rem T a b T') ρ (.int .u64 (x % y).toNat) := pvu_rem (k := .u64) hx hy h0
theorem Zlv {S D : Nat} {n : Int} [hs : TyInt P S .i64] [hd : TyInt P D .u64] (hx : ev ρ a = .int .i64 n) : PV P (.convert S D a) ρ (.int .u64 (BitVec.ofInt 64 n).toNat) := pvu_convI (k := .u64) rfl hx
theorem Zlx {S D : Nat} [hs : TyInt P S .u64] [hd : TyInt P D .u8] (hx : ev ρ a = .int .u64 x.toNat) : PV P (.convert S D a) ρ (.int .u8 (x.setWidth 8).toNat) := pvu_conv (k := .u64) (k' := .u8) rfl hx
theorem Zlz {S D : Nat} [hs : TyInt P S .u64] [hd : TyInt P D .u32] (hx : ev ρ a = .int .u64 x.toNat) : PV P (.convert S D a) ρ (.int .u32 (x.setWidth 32).toNat) := pvu_conv (k := .u64) (k' := .u32) rfl hx
end
abbrev u64b (x : BitVec 64) : Value := .int .u64 x.toNat

section
variable {P : Program} {ρ : Env} {x y : Operand} {k : IntKind} {S E by' bb o l c n : Nat} {z : Value}
theorem Zl1 [hs : TySlice P S E] [hi : TyI P E 1 by' z] (hx : ev ρ x = .slice (some ⟨bb, o, none⟩) l c) (hy : ev ρ y = .int k (n : Int)) (h : n < l := by first|omega|exact Nat.le_of_ble_eq_true rfl|(simp; done)|(simp; omega)|decide) : PV P (.indexAddr S x y) ρ (.pointer (some ⟨bb, o + n, none⟩)) := by
  have := Zcg (P := P) (S := S) hx hy h
  simpa using this
theorem Zl2 {sz : Nat} [hs : TyArr P S l E] [hi : TyI P E sz by' z] (hx : ev ρ x = .pointer (some ⟨bb, o, none⟩)) (hy : ev ρ y = .int k (n : Int)) (h : n < l := by first|omega|exact Nat.le_of_ble_eq_true rfl|(simp; done)|(simp; omega)|decide) : PV P (.indexAddr S x y) ρ (.pointer (some ⟨bb, o + n * sz, none⟩)) := by
  have := Zch (P := P) (S := S) hx hy ⟨by omega, by omega⟩
  simpa using this
theorem Zl3 [hs : TyArr P S l E] [hi : TyI P E 1 by' z] (hx : ev ρ x = .pointer (some ⟨bb, o, none⟩)) (hy : ev ρ y = .int k (n : Int)) (h : n < l := by first|omega|exact Nat.le_of_ble_eq_true rfl|(simp; done)|(simp; omega)|decide) : PV P (.indexAddr S x y) ρ (.pointer (some ⟨bb, o + n, none⟩)) := by
  have := Zl2 (P := P) (S := S) hx hy h
  simpa using this
theorem Zl4 [hs : TySlice P S E] [hi : TyI P E 1 by' z] (hx : ev ρ x = .slice (some ⟨bb, 0, none⟩) l c) (hy : ev ρ y = .int k (n : Int)) (h : n < l := by first|omega|exact Nat.le_of_ble_eq_true rfl|(simp; done)|(simp; omega)|decide) : PV P (.indexAddr S x y) ρ (.pointer (some ⟨bb, n, none⟩)) := by
  have := Zl1 (P := P) (S := S) hx hy h
  rwa [Nat.zero_add] at this
theorem Zl5 [hs : TyArr P S l E] [hi : TyI P E 1 by' z] (hx : ev ρ x = .pointer (some ⟨bb, 0, none⟩)) (hy : ev ρ y = .int k (n : Int)) (h : n < l := by first|omega|exact Nat.le_of_ble_eq_true rfl|(simp; done)|(simp; omega)|decide) : PV P (.indexAddr S x y) ρ (.pointer (some ⟨bb, n, none⟩)) := by
  have := Zl3 (P := P) (S := S) hx hy h
  rwa [Nat.zero_add] at this
theorem Zl6 {sz : Nat} [hs : TySlice P S E] [hi : TyI P E sz by' z] (hx : ev ρ x = .slice (some ⟨bb, 0, none⟩) l c) (hy : ev ρ y = .int k (n : Int)) (h : n < l := by first|omega|exact Nat.le_of_ble_eq_true rfl|(simp; done)|(simp; omega)|decide) : PV P (.indexAddr S x y) ρ (.pointer (some ⟨bb, n * sz, none⟩)) := by
  have := Zcg (P := P) (S := S) hx hy h
  rwa [Nat.zero_add] at this
theorem Zl7 {sz : Nat} [hs : TyArr P S l E] [hi : TyI P E sz by' z] (hx : ev ρ x = .pointer (some ⟨bb, 0, none⟩)) (hy : ev ρ y = .int k (n : Int)) (h : n < l := by first|omega|exact Nat.le_of_ble_eq_true rfl|(simp; done)|(simp; omega)|decide) : PV P (.indexAddr S x y) ρ (.pointer (some ⟨bb, n * sz, none⟩)) := by
  have := Zl2 (P := P) (S := S) hx hy h
  rwa [Nat.zero_add] at this
theorem Zl8 {S i off F sz : Nat} [hf : Fld P S i off F] [hi : TyI P F sz by' z] (hx : ev ρ x = .pointer (some ⟨bb, 0, none⟩)) (h0 : sz ≠ 0 := by first|omega|exact Nat.le_of_ble_eq_true rfl|(simp; done)|(simp; omega)|decide) : PV P (.fieldAddr S x i) ρ (.pointer (some ⟨bb, off, none⟩)) := by
  have := Zce (P := P) (S := S) (i := i) (F := F) (off := off) hx h0
  rwa [Nat.zero_add] at this
theorem Zl9 {A m : Nat} [hs : TyArr P A m E] (hx : ev ρ x = .slice (some ⟨bb, o, none⟩) l c) (h : m ≤ l := by first|omega|exact Nat.le_of_ble_eq_true rfl|(simp; done)|(simp; omega)|decide) : PV P (.sliceToArrayPointer A x) ρ (.pointer (some ⟨bb, o, none⟩)) := by
  intro oo w ho; unfold execOp; rw [ho]; refine op_run_value ?_; rw [hx]
  unfold Instr.arrayAt
  rw [run_bind P _ _ w w _ (run_under hs.h)]
  simp only []
  rw [if_neg (by omega)]
  rfl
end
section
variable {P : Program} {ρ : Env} {T T' : Nat} {x y : Operand} {a b : Nat}
theorem Zma (hx : ev ρ x = .int .i64 (a : Int)) (hy : ev ρ y = .int .i64 (b : Int)) (h : a + b ≤ 9223372036854775807 := by first|omega|exact Nat.le_of_ble_eq_true rfl|(simp; done)|(simp; omega)|decide) : PV P (.binOp .add T x y T') ρ (.int .i64 ((a + b : Nat) : Int)) := by
  have := Zbg (P := P) (T := T) (T' := T') hx hy ⟨by omega, by omega⟩
  rwa [← Int.natCast_add] at this
theorem Zmb (hx : ev ρ x = .int .i64 (a : Int)) (hy : ev ρ y = .int .i64 (b : Int)) (h : b ≤ a := by first|omega|exact Nat.le_of_ble_eq_true rfl|(simp; done)|(simp; omega)|decide) (ha : a ≤ 9223372036854775807 := by first|omega|exact Nat.le_of_ble_eq_true rfl|(simp; done)|(simp; omega)|decide) : PV P (.binOp .sub T x y T') ρ (.int .i64 ((a - b : Nat) : Int)) := by
  have := Zbh (P := P) (T := T) (T' := T') hx hy ⟨by omega, by omega⟩
  rwa [← Int.natCast_sub h] at this
theorem Zmc (hx : ev ρ x = .int .i64 (a : Int)) (hy : ev ρ y = .int .i64 (b : Int)) (h : a * b ≤ 9223372036854775807 := by first|omega|exact Nat.le_of_ble_eq_true rfl|(simp; done)|(simp; omega)|decide) : PV P (.binOp .mul T x y T') ρ (.int .i64 ((a * b : Nat) : Int)) := by
  have e : ((a : Int) * b) = ((a * b : Nat) : Int) := (Int.natCast_mul a b).symm
  have := Zbi (P := P) (T := T) (T' := T') hx hy (by rw [e]; exact ⟨by omega, by omega⟩)
  rwa [e] at this
theorem Zmd (hx : ev ρ x = .int .i64 (a : Int)) (hy : ev ρ y = .int .i64 (b : Int)) (h : 0 < b := by first|omega|exact Nat.le_of_ble_eq_true rfl|(simp; done)|(simp; omega)|decide) (ha : a ≤ 9223372036854775807 := by first|omega|exact Nat.le_of_ble_eq_true rfl|(simp; done)|(simp; omega)|decide) : PV P (.binOp .quo T x y T') ρ (.int .i64 ((a / b : Nat) : Int)) := by
  have := Zbj (P := P) (T := T) (T' := T') hx hy ⟨by omega, by omega, by omega⟩
  rwa [show ((a : Int) / b) = ((a / b : Nat) : Int) from by push_cast; rfl] at this
theorem Zme (hx : ev ρ x = .int .i64 (a : Int)) (hy : ev ρ y = .int .i64 (b : Int)) (h : 0 < b := by first|omega|exact Nat.le_of_ble_eq_true rfl|(simp; done)|(simp; omega)|decide) : PV P (.binOp .rem T x y T') ρ (.int .i64 ((a % b : Nat) : Int)) := by
  have := Zbl (P := P) (T := T) (T' := T') hx hy ⟨by omega, by omega⟩
  rwa [show ((a : Int) % b) = ((a % b : Nat) : Int) from by push_cast; rfl] at this
theorem Zmf {k : IntKind} (hx : ev ρ x = .int k (a : Int)) (hy : ev ρ y = .int k (b : Int)) : PV P (.binOp .lss T x y T') ρ (.bool (decide (a < b))) := by
  have := Zbn (P := P) (T := T) (T' := T') hx hy
  rwa [show decide ((a : Int) < b) = decide (a < b) from decide_eq_decide.2 (by omega)] at this
theorem Zmg {k : IntKind} (hx : ev ρ x = .int k (a : Int)) (hy : ev ρ y = .int k (b : Int)) : PV P (.binOp .leq T x y T') ρ (.bool (decide (a ≤ b))) := by
  have := Zbo (P := P) (T := T) (T' := T') hx hy
  rwa [show decide ((a : Int) ≤ b) = decide (a ≤ b) from decide_eq_decide.2 (by omega)] at this
theorem Zmh {k : IntKind} (hx : ev ρ x = .int k (a : Int)) (hy : ev ρ y = .int k (b : Int)) : PV P (.binOp .gtr T x y T') ρ (.bool (decide (b < a))) := by
  have := Zbp (P := P) (T := T) (T' := T') hx hy
  rwa [show decide ((b : Int) < a) = decide (b < a) from decide_eq_decide.2 (by omega)] at this
theorem Zmi {k : IntKind} (hx : ev ρ x = .int k (a : Int)) (hy : ev ρ y = .int k (b : Int)) : PV P (.binOp .geq T x y T') ρ (.bool (decide (b ≤ a))) := by
  have := Zbq (P := P) (T := T) (T' := T') hx hy
  rwa [show decide ((b : Int) ≤ a) = decide (b ≤ a) from decide_eq_decide.2 (by omega)] at this
theorem Zmj {k : IntKind} (hx : ev ρ x = .int k (a : Int)) (hy : ev ρ y = .int k (b : Int)) : PV P (.binOp .eql T x y T') ρ (.bool (decide (a = b))) := by
  have := Zbr (P := P) (T := T) (T' := T') hx hy
  rwa [show decide ((a : Int) = b) = decide (a = b) from decide_eq_decide.2 (by omega)] at this
theorem Zmk {k : IntKind} (hx : ev ρ x = .int k (a : Int)) (hy : ev ρ y = .int k (b : Int)) : PV P (.binOp .neq T x y T') ρ (.bool (decide (a ≠ b))) := by
  have := Zbs (P := P) (T := T) (T' := T') hx hy
  rwa [show decide ((a : Int) ≠ b) = decide (a ≠ b) from decide_eq_decide.2 (by omega)] at this
theorem Zmm {t : Array Value} (h : ev ρ x = .tuple t) : PV P (.move x) ρ (.tuple t) := Zar h
theorem Zmn {t : Option Nat} (h : ev ρ x = .map t) : PV P (.move x) ρ (.map t) := Zar h
theorem Zmo {t : ByteArray} (h : ev ρ x = .string t) : PV P (.move x) ρ (.string t) := Zar h
theorem Zmp {t : Nat} {v : Value} (h : ev ρ x = .iface t v) : PV P (.move x) ρ (.iface t v) := Zar h
theorem Zmq {t : Option Nat} (h : ev ρ x = .map t) : PV P (.assign x) ρ (.map t) := Zas h
theorem Zmr {t : ByteArray} (h : ev ρ x = .string t) : PV P (.assign x) ρ (.string t) := Zas h
theorem Zms {t : Nat} {v : Value} (h : ev ρ x = .iface t v) : PV P (.assign x) ρ (.iface t v) := Zas h
theorem Zmt {t : Array Value} (h : ev ρ x = .tuple t) : PV P (.assign x) ρ (.tuple t) := Zas h
theorem Zmu {f : Fn} {a b : Array Value} (h : ev ρ x = .func f a b) : PV P (.assign x) ρ (.func f a b) := Zas h
theorem Zmv {S E sz by' bb o n : Nat} {z : Value} {lo hi : Option Operand} {l h : Nat} [hs : TyArr P S n E] [hi' : TyI P E sz by' z] (hx : ev ρ x = .pointer (some ⟨bb, o, none⟩))
    (hl : optB ρ 0 lo = some (l : Int)) (hh : optB ρ n hi = some (h : Int)) (hle : l ≤ h := by first|omega|exact Nat.le_of_ble_eq_true rfl|(simp; done)|(simp; omega)|decide) (hc : h ≤ n := by first|omega|exact Nat.le_of_ble_eq_true rfl|(simp; done)|(simp; omega)|decide) (hn : l < n := by first|omega|exact Nat.le_of_ble_eq_true rfl|(simp; done)|(simp; omega)|decide) : PV P (.slice S x lo hi none) ρ (.slice (some ⟨bb, o + l * sz, none⟩) (h - l) (n - l)) := by
  have := Zck (P := P) (S := S) (bb := bb) (o := o) hx hl hh ⟨by omega, by omega⟩ (by omega)
  simp only [Int.toNat_natCast, cutOff, if_neg (show ¬ n = l by omega)] at this
  exact this
theorem Zmw {S E sz by' bb o n c : Nat} {z : Value} {lo hi : Option Operand} {l h : Nat} [hs : TySlice P S E] [hi' : TyI P E sz by' z] (hx : ev ρ x = .slice (some ⟨bb, o, none⟩) n c)
    (hl : optB ρ 0 lo = some (l : Int)) (hh : optB ρ n hi = some (h : Int)) (hle : l ≤ h := by first|omega|exact Nat.le_of_ble_eq_true rfl|(simp; done)|(simp; omega)|decide) (hc : h ≤ c := by first|omega|exact Nat.le_of_ble_eq_true rfl|(simp; done)|(simp; omega)|decide) (hn : l < c := by first|omega|exact Nat.le_of_ble_eq_true rfl|(simp; done)|(simp; omega)|decide) : PV P (.slice S x lo hi none) ρ (.slice (some ⟨bb, o + l * sz, none⟩) (h - l) (c - l)) := by
  have := Zci (P := P) (S := S) (bb := bb) (o := o) hx hl hh ⟨by omega, by omega⟩ (by omega)
  simp only [Int.toNat_natCast, cutOff, if_neg (show ¬ c = l by omega)] at this
  exact this
theorem Zmx {S E by' bb o n : Nat} {z : Value} {lo hi : Option Operand} {l h : Nat} [hs : TyArr P S n E] [hi' : TyI P E 1 by' z] (hx : ev ρ x = .pointer (some ⟨bb, o, none⟩))
    (hl : optB ρ 0 lo = some (l : Int)) (hh : optB ρ n hi = some (h : Int)) (hle : l ≤ h := by first|omega|exact Nat.le_of_ble_eq_true rfl|(simp; done)|(simp; omega)|decide) (hc : h ≤ n := by first|omega|exact Nat.le_of_ble_eq_true rfl|(simp; done)|(simp; omega)|decide) (hn : l < n := by first|omega|exact Nat.le_of_ble_eq_true rfl|(simp; done)|(simp; omega)|decide) : PV P (.slice S x lo hi none) ρ (.slice (some ⟨bb, o + l, none⟩) (h - l) (n - l)) := by
  have := Zmv (P := P) (S := S) hx hl hh hle hc hn
  rwa [Nat.mul_one] at this
theorem Zmy {S E by' bb o n : Nat} {z : Value} {hi : Option Operand} {h : Nat} [hs : TyArr P S n E] [hi' : TyI P E 1 by' z] (hx : ev ρ x = .pointer (some ⟨bb, o, none⟩))
    (hh : optB ρ n hi = some (h : Int)) (hc : h ≤ n := by first|omega|exact Nat.le_of_ble_eq_true rfl|(simp; done)|(simp; omega)|decide) (hn : 0 < n := by first|omega|exact Nat.le_of_ble_eq_true rfl|(simp; done)|(simp; omega)|decide) : PV P (.slice S x none hi none) ρ (.slice (some ⟨bb, o, none⟩) h n) := by
  have := Zmx (P := P) (S := S) (lo := none) (l := 0) hx rfl hh (by omega) hc hn
  simpa using this
theorem Zmz {S E by' bb o n c : Nat} {z : Value} {lo hi : Option Operand} {l h : Nat} [hs : TySlice P S E] [hi' : TyI P E 1 by' z] (hx : ev ρ x = .slice (some ⟨bb, o, none⟩) n c)
    (hl : optB ρ 0 lo = some (l : Int)) (hh : optB ρ n hi = some (h : Int)) (hle : l ≤ h := by first|omega|exact Nat.le_of_ble_eq_true rfl|(simp; done)|(simp; omega)|decide) (hc : h ≤ c := by first|omega|exact Nat.le_of_ble_eq_true rfl|(simp; done)|(simp; omega)|decide) (hn : l < c := by first|omega|exact Nat.le_of_ble_eq_true rfl|(simp; done)|(simp; omega)|decide) : PV P (.slice S x lo hi none) ρ (.slice (some ⟨bb, o + l, none⟩) (h - l) (c - l)) := by
  have := Zmw (P := P) (S := S) hx hl hh hle hc hn
  rwa [Nat.mul_one] at this
theorem Zm0 {S E sz by' bb o n c : Nat} {z : Value} {hi : Option Operand} {h : Nat} [hs : TySlice P S E] [hi' : TyI P E sz by' z] (hx : ev ρ x = .slice (some ⟨bb, o, none⟩) n c)
    (hh : optB ρ n hi = some (h : Int)) (hc : h ≤ c := by first|omega|exact Nat.le_of_ble_eq_true rfl|(simp; done)|(simp; omega)|decide) : PV P (.slice S x none hi none) ρ (.slice (some ⟨bb, o, none⟩) h c) := by
  have := Zci (P := P) (S := S) (bb := bb) (o := o) (lo := none) (l := 0) hx rfl hh ⟨by omega, by omega⟩ (by omega)
  have e : cutOff o (0 : Int).toNat c sz = o := by simp [cutOff]
  rw [e] at this
  simpa using this
theorem Zm1 {S E sz by' n c : Nat} {a : Option Addr} {z : Value} {lo hi : Option Operand} {l h : Nat} [hs : TySlice P S E] [hi' : TyI P E sz by' z] (hx : ev ρ x = .slice a n c)
    (hl : optB ρ 0 lo = some (l : Int)) (hh : optB ρ n hi = some (h : Int)) (hle : l ≤ h) (hc : h ≤ c) : PV P (.slice S x lo hi none) ρ (.slice (if c = l then a else a.map (·.add (l * sz))) (h - l) (c - l)) := by
  intro oo w ho; unfold execOp; rw [ho]; refine op_run_value ?_; rw [hx]
  unfold Instr.sliceAt
  rw [run_bind P _ _ w w _ (run_under hs.h)]
  simp only []
  unfold Instr.slice
  rw [run_bind P _ _ w w _ (run_under hs.h)]
  simp only [Option.map_none]
  rw [run_bind P _ _ w w _ (run_bounds hl hh ⟨by omega, by omega⟩ (by omega)), run_bind P _ _ w w _ (run_size hi')]
  show (Result.ok (Value.slice _ _ _) w : Result Value) = _
  rw [Int.toNat_natCast, Int.toNat_natCast]
end
theorem Rd.cut {M : List Asrt} {a : Option Addr} {n c l : Nat} {xs : List Value} (h : Rd M 1 (.slice a n c) n xs) (hl : l ≤ n) (hc : n ≤ c) : Rd M 1 (.slice (if c = l then a else a.map (·.add (l * 1))) (n - l) (c - l)) (n - l) (xs.drop l) := by
  intro w0 F w H
  obtain ⟨h1, h2⟩ := h w0 F w H
  refine ⟨by simp [h1], ?_⟩
  by_cases hn : n = l
  · exact .inl ⟨_, _, rfl, by omega⟩
  · rcases h2 with ⟨a, k, _, h0⟩|⟨b, o, k, cc, E, fr, hv, hb, hle, hx⟩
    · omega
    · simp only [Value.slice.injEq] at hv
      obtain ⟨rfl, _, rfl⟩ := hv
      rw [if_neg (by omega)]
      refine .inr ⟨b, o + l, c - l, cc, E, fr, ?_, hb, by omega, ?_⟩
      · simp [Option.map, addr_add]
      · rw [← hx]
        simp only [Array.toList_extract, List.extract_eq_take_drop, List.drop_take, List.drop_drop]
        congr 1
        omega
theorem Zm2 {P : Program} {ρ : Env} {T : Nat} {x : Operand} {k kk : IntKind} {n : Int} [hs : TyInt P T kk] (hx : ev ρ x = .int k n) : PV P (.makeInterface T x) ρ (.iface T (.int k n)) := by
  intro oo w ho; unfold execOp; rw [ho]; refine op_run_value ?_; rw [hx]
  unfold Instr.makeInterface
  rw [run_bind P _ _ w w _ (run_under hs.h)]; rfl
theorem int_eq {k : IntKind} {a b : Int} (h : a = b) : Value.int k a = .int k b := by rw [h]
section
variable {P : Program} {w0 : World} {ops : Array Oper} {dst : Option Nat} {ty T E : TypeId} {pos : String} {after : Array Edge} {rest : List Oper} {ρ : Env} {K : XK} {M : List Asrt} {x y : Operand}
theorem Zm3 {α : Type} {by' : Nat} {z : Value} {f : α → Value} {a : α} {len cap : Nat} [hs : TySlice P T E] [hi : TyI P E 1 by' z] (hl : ev ρ x = .int .i64 len) (hc : ev ρ y = .int .i64 cap) (hz : z.cells = #[f a]) (hle : len ≤ cap) (hcap : cap ≤ 9223372036854775807) (hb : cap * by' ≤ 281474976710656)
    (k : ∀ b, xOps P w0 ops rest (put ρ dst (.slice (some ⟨b, 0, none⟩) len cap)) (cl b ((List.replicate cap a).map f).toArray E :: M) K) :
    xOps P w0 ops (⟨dst, .makeSlice T x y, ty, pos, after, none⟩ :: rest) ρ M K := by
  refine Zh6 hl hc hle hcap hb (by omega) ?_
  intro b
  have e : (List.replicate cap z.cells.toList).flatten = (List.replicate cap a).map f := by
    rw [hz]; show (List.replicate cap [f a]).flatten = _
    rw [zeros1]; simp
  rw [e]; exact k b
end
theorem getL {α : Type} {f : α → Value} {l : List α} {i : Nat} (h : i < l.length) : ((l.map f).toArray)[i]? = some (f l[i]) := by simp [h]
theorem getM {α : Type} {f : α → Value} {l : List α} {i : Nat} (h : i < l.length) : (l.map f)[i]? = some (f l[i]) := by simp [h]
theorem setL {α : Type} {f : α → Value} {l : List α} {i : Nat} {x : α} : ((l.map f).toArray).setIfInBounds i (f x) = ((l.set i x).map f).toArray := by simp
theorem szL {α : Type} {f : α → Value} {l : List α} : ((l.map f).toArray).size = l.length := by simp
theorem oneL_u8 (l : List (BitVec 8)) : ((l.map u8b).toArray).toList.all oneC = true := by simp [oneC]
theorem oneM_u8 (l : List (BitVec 8)) : (l.map u8b).all oneC = true := by simp [oneC]
end Go.Sl
namespace Go.Sl
open Go
abbrev Byte := BitVec 8
class TyBA (P : Program) (T : Nat) (n : outParam Nat) : Prop where
  ex : ∃ E, P.underlying T = some (.array n E) ∧ P.underlying E = some (.int .u8) ∧ P.cellsOf E = 1
  ct : P.cellsOf T = n
  key : P.keyTypeAt 4 T = true
  g : P.eqGuardType P.depth T = false
theorem byte_wf (b : Byte) : (Lit.int .u8 (b.toNat : Int)).wf = true := by
  have := b.isLt
  simp only [Lit.wf, Bool.and_eq_true, decide_eq_true_eq]
  have e1 : IntKind.u8.min = 0 := by decide
  have e2 : IntKind.u8.max = 255 := by decide
  omega
theorem ba_inj {a b : List Byte} : a = b ↔ (a.map fun b => Lit.int .u8 (b.toNat : Int)) = (b.map fun b => Lit.int .u8 (b.toNat : Int)) := by
  constructor
  · rintro rfl; rfl
  · intro h
    refine List.map_inj_right ?_ |>.1 h
    intro x y hxy
    simp only [Lit.int.injEq, true_and] at hxy
    exact BitVec.eq_of_toNat_eq (by omega)
section
variable {P : Program} {ρ : Env} {x y : Operand} {T T' n : Nat}
end
structure Bs (M : List Asrt) (v : Value) (l : List Byte) : Prop where
  rd : Rd M 1 v l.length (l.map u8b)
  sh : ∀ w0 F w, St w0 w (F :: M) → ∃ a c, v = .slice a l.length c ∧ l.length ≤ c ∧ c ≤ 9223372036854775807
theorem Bs.imp {M N : List Asrt} {v : Value} {l : List Byte} (h : Bs N v l) (hi : Imp M N) : Bs M v l := ⟨h.rd.imp hi, fun w0 F w H => h.sh w0 F w (H.enx hi)⟩
theorem own_shape {E size n : Nat} {v : Value} {xs : List Value} {w0 w : World} {L : List Asrt} (H : St w0 w (own E size v n xs :: L)) : ∃ a c, v = .slice a n c ∧ n ≤ c ∧ c ≤ 9223372036854775807 := by
  rcases H.own_get with ⟨rfl, rfl, rfl, _⟩|⟨g, cap, cur, rfl, h2, h3, h4, h5, h6, H⟩
  · exact ⟨none, 0, rfl, by omega, by omega⟩
  · exact ⟨_, cap, rfl, h2, h3⟩
theorem Bs.own {M M' : List Asrt} {E : Nat} {v : Value} {l : List Byte} (hm : Has M (own E 1 v l.length (l.map u8b)) M') : Bs M v l :=
  ⟨Rd.own hm, fun w0 F w H => own_shape (H.pick (.there hm))⟩
theorem Bs.old {M M' : List Asrt} {W : World} {v : Value} {l : List Byte} (hm : Has M (old W) M') (h : SlW W 1 v l.length (l.map u8b)) (hs : ∃ a c, v = .slice a l.length c ∧ l.length ≤ c ∧ c ≤ 9223372036854775807) : Bs M v l :=
  ⟨Rd.old hm h, fun _ _ _ _ => hs⟩
theorem Bs.cl {M M' : List Asrt} {b o c E : Nat} {cc : Array Value} {l : List Byte} (hm : Has M (cl b cc E) M') (hle : o + l.length ≤ cc.size) (h : (cc.extract o (o + l.length)).toList = l.map u8b) (hc : l.length ≤ c) (hcm : c ≤ 9223372036854775807) :
    Bs M (.slice (some ⟨b, o, none⟩) l.length c) l :=
  ⟨Rd.cl hm (by simp) (by omega) (by rw [Nat.mul_one]; exact h), fun _ _ _ _ => ⟨_, _, rfl, hc, hcm⟩⟩
theorem Bs.nil {M : List Asrt} : Bs M (.slice none 0 0) [] := ⟨Rd.nil, fun _ _ _ _ => ⟨none, 0, rfl, by simp, by omega⟩⟩
theorem Bs.some {M : List Asrt} {a : Option Addr} {n c : Nat} {l : List Byte} {w0 w : World} {F : Asrt} (h : Bs M (.slice a n c) l) (hn : 0 < l.length) (H : St w0 w (F :: M)) : ∃ b o, a = some ⟨b, o, none⟩ := by
  obtain ⟨a', c', hv, _, _⟩ := h.sh _ _ _ H
  simp only [Value.slice.injEq] at hv
  obtain ⟨rfl, rfl, rfl⟩ := hv
  exact h.rd.someAt hn H
structure Rs (M : List Asrt) (v : Value) (ps : List (Value × List Byte)) : Prop where
  rd : Rd M 1 v ps.length (ps.map (·.1))
  sh : ∀ w0 F w, St w0 w (F :: M) → ∃ a c, v = .slice a ps.length c ∧ ps.length ≤ c ∧ c ≤ 9223372036854775807
  el : ∀ x ∈ ps, Bs M x.1 x.2
theorem Rs.imp {M N : List Asrt} {v : Value} {ps : List (Value × List Byte)} (h : Rs N v ps) (hi : Imp M N) : Rs M v ps := ⟨h.rd.imp hi, fun w0 F w H => h.sh w0 F w (H.enx hi), fun x hx => (h.el x hx).imp hi⟩
theorem Imp.own_mk {E size n cap g : Nat} {cur : Array Value} {xs : List Value} {M : List Asrt} (h1 : n ≤ cap) (h2 : cap ≤ 9223372036854775807) (h3 : cur.size = cap * size) (h4 : cur.toList.take (n * size) = xs) :
    Imp (Sl.cl g cur E :: M) (Sl.own E size (.slice (some ⟨g, 0, none⟩) n cap) n xs :: M) :=
  Imp.head fun h hg => ⟨by rw [← h4, List.length_take, Array.length_toList, h3]; exact Nat.min_eq_left (Nat.mul_le_mul_right _ h1), .inr ⟨g, cap, cur, rfl, hg, h1, h2, h3, h4⟩⟩
theorem Imp.own_nil {E size : Nat} {M : List Asrt} : Imp M (Sl.own E size (.slice none 0 0) 0 [] :: M) :=
  fun h hs => ⟨fun _ => none, h, ⟨by simp, .inl ⟨rfl, rfl⟩⟩, hs, Frag.none_disj _, Frag.none_sub _, Frag.sub_refl _⟩
theorem own_some {E n c : Nat} {a : Option Addr} {xs : List Value} {w0 w : World} {F : Asrt} {M M' : List Asrt} (hm : Has M (Sl.own E 1 (.slice a n c) n xs) M') (hn : 0 < n) (H : St w0 w (F :: M)) : ∃ g, a = some ⟨g, 0, none⟩ := by
  rcases (H.pick (.there hm)).own_get with ⟨hv, rfl, _⟩|⟨g, cap, cur, hv, _⟩
  · omega
  · simp only [Value.slice.injEq] at hv
    exact ⟨g, hv.1⟩
def star {α : Type} (A : α → Asrt) (l : List α) : Asrt := all (l.map A)
theorem star_nil {α : Type} {A : α → Asrt} {M : List Asrt} : Imp M (star A [] :: M) := by
  have := Imp.app (L := []) (M := M)
  exact this
theorem star_cons {α : Type} {A : α → Asrt} {x : α} {l : List α} {M : List Asrt} : Imp (A x :: star A l :: M) (star A (x :: l) :: M) := by
  have h : Imp (A x :: star A l :: M) (A x :: (l.map A ++ M)) := Imp.cons Imp.unapp
  exact h.trans (Imp.app (L := A x :: l.map A))
theorem star_uncons {α : Type} {A : α → Asrt} {x : α} {l : List α} {M : List Asrt} : Imp (star A (x :: l) :: M) (A x :: star A l :: M) := by
  have h : Imp (star A (x :: l) :: M) (A x :: (l.map A ++ M)) := Imp.unapp (L := A x :: l.map A)
  exact h.trans (Imp.cons Imp.app)
theorem star_app {α : Type} {A : α → Asrt} {l l2 : List α} {M : List Asrt} : Imp (star A l :: star A l2 :: M) (star A (l ++ l2) :: M) := by
  induction l with
  | nil => exact Imp.tail
  | cons x l ih =>
    refine (star_uncons (M := star A l2 :: M)).trans ?_
    exact (Imp.cons ih).trans star_cons
theorem star_unapp {α : Type} {A : α → Asrt} {l l2 : List α} {M : List Asrt} : Imp (star A (l ++ l2) :: M) (star A l :: star A l2 :: M) := by
  induction l with
  | nil => exact star_nil
  | cons x l ih =>
    refine (star_uncons (M := M)).trans ?_
    exact (Imp.cons ih).trans (star_cons (M := star A l2 :: M))
theorem star_snoc {α : Type} {A : α → Asrt} {x : α} {l : List α} {M : List Asrt} : Imp (A x :: star A l :: M) (star A (l ++ [x]) :: M) := by
  have h1 : Imp (A x :: star A l :: M) (star A [x] :: star A l :: M) := by
    have := star_cons (A := A) (x := x) (l := []) (M := star A l :: M)
    exact (Imp.cons star_nil).trans this
  exact h1.trans (Imp.swap.trans star_app)
theorem star_at {α : Type} {A : α → Asrt} {l : List α} {i : Nat} (h : i < l.length) {M : List Asrt} : Imp (star A l :: M) (A l[i] :: star A (l.eraseIdx i) :: M) := by
  have e : l = l.take i ++ l[i] :: l.drop (i + 1) := by rw [← List.drop_eq_getElem_cons h, List.take_append_drop]
  have e2 : l.eraseIdx i = l.take i ++ l.drop (i + 1) := List.eraseIdx_eq_take_drop_succ ..
  have h1 : Imp (star A l :: M) (star A (l.take i) :: star A (l[i] :: l.drop (i + 1)) :: M) := by
    have := star_unapp (A := A) (l := l.take i) (l2 := l[i] :: l.drop (i + 1)) (M := M)
    rwa [← e] at this
  rw [e2]
  refine h1.trans ((Imp.cons star_uncons).trans ?_)
  exact Imp.swap.trans (Imp.cons star_app)
theorem star_back {α : Type} {A : α → Asrt} {l : List α} {i : Nat} (h : i < l.length) (y : α) {M : List Asrt} : Imp (A y :: star A (l.eraseIdx i) :: M) (star A (l.set i y) :: M) := by
  have e2 : l.eraseIdx i = l.take i ++ l.drop (i + 1) := List.eraseIdx_eq_take_drop_succ ..
  rw [e2, List.set_eq_take_append_cons_drop, if_pos h]
  refine (Imp.cons star_unapp).trans ?_
  refine Imp.swap.trans ?_
  exact (Imp.cons star_cons).trans star_app
theorem star_mem {α : Type} {A : α → Asrt} {l : List α} {x : α} (h : x ∈ l) {M : List Asrt} : ∃ R, Imp (star A l :: M) (A x :: R) := by
  obtain ⟨i, hi, rfl⟩ := List.getElem_of_mem h
  exact ⟨_, star_at hi⟩
theorem star_has {α : Type} {A : α → Asrt} {l : List α} {x : α} (h : x ∈ l) {M M' : List Asrt} (hm : Has M (star A l) M') : ∃ R, Imp M (A x :: R) := by
  obtain ⟨R, hR⟩ := star_mem (A := A) h (M := M')
  exact ⟨R, (Imp.has hm).trans hR⟩
class NeB (a b : Nat) : Prop where h : Nat.beq a b = false
instance NeB.l {n : Nat} : NeB (n + 1) 0 := ⟨rfl⟩
instance NeB.r {n : Nat} : NeB 0 (n + 1) := ⟨rfl⟩
instance NeB.s {n m : Nat} [i : NeB n m] : NeB (n + 1) (m + 1) := ⟨i.h⟩
class Ct (A : Prop) (B : outParam Prop) : Prop where o : B → A
section
variable {P : Program} {w0 : World} {x y c : Code} {ρ : Env} {M : List Asrt} {Q : XQ} {k : XK} {id id' : Nat} {B : Prop}
instance (priority := low) Ct.iz {A : Prop} : Ct A A := ⟨fun h => h⟩
instance Ct.ja [i : Ct (xC P w0 x ρ M (xthen (fun ρ' M' => xC P w0 y ρ' M' Q) Q)) B] : Ct (xC P w0 (.seq x y) ρ M Q) B := ⟨fun h => zA (i.o h)⟩
instance Ct.jb [i : Ct (Q .normal ρ M) B] : Ct (xC P w0 .skip ρ M Q) B := ⟨fun h => zB (i.o h)⟩
instance Ct.jc [i : Ct (xC P w0 c ρ M (xblk id Q)) B] : Ct (xC P w0 (.block id c) ρ M Q) B := ⟨fun h => zC (i.o h)⟩
instance Ct.jd [i : Ct (Q .normal ρ M) B] : Ct (xC P w0 (.label id) ρ M Q) B := ⟨fun h => zD (i.o h)⟩
instance Ct.je [i : Ct (Q (.exit id) ρ M) B] : Ct (xC P w0 (.exit id) ρ M Q) B := ⟨fun h => zE (i.o h)⟩
instance Ct.jf [i : Ct (Q .ret ρ M) B] : Ct (xC P w0 .ret ρ M Q) B := ⟨fun h => zF (i.o h)⟩
instance Ct.jg [i : Ct (k ρ M) B] : Ct (xthen k Q .normal ρ M) B := ⟨fun h => zG (i.o h)⟩
instance Ct.jh [i : Ct (Q (.exit id) ρ M) B] : Ct (xthen k Q (.exit id) ρ M) B := ⟨fun h => zH (i.o h)⟩
instance Ct.ji [i : Ct (Q .ret ρ M) B] : Ct (xthen k Q .ret ρ M) B := ⟨fun h => zI (i.o h)⟩
instance Ct.jj [i : Ct (Q .normal ρ M) B] : Ct (xblk id Q .normal ρ M) B := ⟨fun h => zJ (i.o h)⟩
instance Ct.jk [i : Ct (Q .normal ρ M) B] : Ct (xblk id Q (.exit id) ρ M) B := ⟨fun h => zK (i.o h)⟩
instance Ct.jl [i : Ct (Q .ret ρ M) B] : Ct (xblk id Q .ret ρ M) B := ⟨fun h => zL (i.o h)⟩
instance (priority := 900) Ct.im [j : NeB id' id] [i : Ct (Q (.exit id') ρ M) B] : Ct (xblk id Q (.exit id') ρ M) B := ⟨fun h => zM j.h (i.o h)⟩
instance Ct.jv [i : Ct (Q .normal ρ M) B] : Ct (xng Q .normal ρ M) B := ⟨fun h => Zng (i.o h)⟩
instance Ct.jx [i : Ct (Q .ret ρ M) B] : Ct (xng Q .ret ρ M) B := ⟨fun h => Zni (i.o h)⟩
section
variable {S : Type} {I : S → Prop} {Mf : S → List Asrt} {U : S → List (Nat × Value)} {μ : S → Nat} {m : Nat}
instance Ct.jq [i : Ct (Q (.exit id) ρ M) B] : Ct (xloop I Mf U μ m Q (.exit id) ρ M) B := ⟨fun h => zP (i.o h)⟩
instance Ct.jr [i : Ct (Q .ret ρ M) B] : Ct (xloop I Mf U μ m Q .ret ρ M) B := ⟨fun h => zQ (i.o h)⟩
end
end
theorem qH {L L' : List Asrt} {A : Asrt} (h : Has L A L' := by repeat constructor) : Has L A L' := h
theorem qR {L L' : List Asrt} {A B : Asrt} (h : Repl L A B L' := by repeat constructor) : Repl L A B L' := h
theorem qT {L M R : List Asrt} (h : Take L M R := by repeat (first|exact Take.nil|exact Take.all|(apply Take.cons; (next => (repeat constructor); done))|apply Take.skip)) : Take L M R := h
theorem qA {L M R : List Asrt} (h : App L M R := by repeat (first|exact App.nil|apply App.cons|(apply App.flip; first|exact App.nil|apply App.cons)|exact App.any)) : App L M R := h
theorem qV {L M : List Asrt} (h : Arr L M := by repeat (first|exact Arr.nil|exact Arr.stop|refine Arr.cons (by repeat constructor) ?_|refine Arr.skip ?_)) : Arr L M := h
theorem qI {L M : List Asrt} (h : Arr L M := by repeat (first|exact Arr.nil|exact Arr.stop|refine Arr.cons (by repeat constructor) ?_|refine Arr.skip ?_)) : Imp L M := Imp.arr h
theorem qZ {p : Prop} (h : p := by first|omega|(rw [szL]; omega)|rfl|exact Nat.le_of_ble_eq_true rfl|(simp; done)|(simp; omega)) : p := h
theorem qS {p : Prop} (h : p := by first|omega|exact Nat.le_of_ble_eq_true rfl|(simp; done)|(simp; omega)|decide) : p := h
theorem qO {p : Prop} (h : p := by first|omega|(dsimp only; omega)|(simp only []; omega)) : p := h
theorem qF {p : Prop} (h : p := by first|rfl|exact fill_one rfl rfl) : p := h
theorem qB {p : Prop} (h : p := by first|rfl|(simp [optB]; done)|(simp [optB]; omega)) : p := h
theorem qN {p : Prop} (h : p := by first|rfl|exact oneM_u8 _|exact oneL_u8 _|(simp [oneC]; done)) : p := h
end Go.Sl
namespace Go.Sl
open Go Go.ChangeShapes Go.WideShapes Go.ChangeAt Go.RowKit
theorem con_law {P : Program} {f : FuncId} {args : List Value} {W : World} (h : Con P f args [old W] (fun v M => v = .bool true ∧ [old W] = M)) : Calls P f args.toArray W (fun e w' => e = .returned (.bool true) ∧ Below W.heap.size W w') := by
  have H : St W W (pur True :: [old W]) := (St.start W).pur_mk trivial
  refine (h W _ W H).mono ?_
  rintro e w' ⟨v, he, M', H', hv, rfl⟩
  exact ⟨by rw [he, hv], H'.below (.there .here)⟩
theorem Con.frame {P : Program} {F : FuncId} {args : List Value} {M L : List Asrt} {Φ : Value → List Asrt → Prop} (h : Con P F args M Φ) : Con P F args (M ++ L) (fun v N => ∃ M', Φ v M' ∧ M' ++ L = N) := by
  intro w0 Fr w H
  have H2 : St w0 w (all (Fr :: L) :: M) := by
    refine H.ent ((Imp.cons Imp.comm).trans ?_)
    exact Imp.app (L := Fr :: L) (M := M)
  refine (h w0 _ w H2).mono (Ret.mono ?_)
  rintro v w' ⟨M', H', hφ⟩
  exact ⟨M' ++ L, H'.ent (Imp.unapp.trans (Imp.cons Imp.comm)), M', hφ, rfl⟩
end Go.Sl
namespace Go.Sl
open Go Go.ChangeShapes Go.WideShapes Go.ChangeAt Go.RowKit
variable {H : Type} {enc : TypeId × Value → H} {P : Program} {w : World} {base : Nat} {spare : Nat → Bool} {held : Bool}
theorem byte_of {n : Int} (hw : (Lit.int .u8 n).wf = true) : ∃ b : Byte, Value.int .u8 n = u8b b := by
  simp only [Lit.wf, Bool.and_eq_true, decide_eq_true_eq] at hw
  have hlo : IntKind.u8.min = 0 := by decide
  have hhi : IntKind.u8.max = 255 := by decide
  refine ⟨BitVec.ofNat 8 n.toNat, ?_⟩
  show Value.int .u8 n = .int .u8 _
  rw [BitVec.toNat_ofNat]
  congr 1
  omega
theorem list_bytes {cs : List Value} (h : ∀ v ∈ cs, ∃ b : Byte, v = u8b b) : ∃ l : List Byte, cs = l.map u8b := by
  induction cs with
  | nil => exact ⟨[], rfl⟩
  | cons v cs ih =>
    obtain ⟨b, hb⟩ := h v (.head _)
    obtain ⟨l, hl⟩ := ih (fun x hx => h x (.tail _ hx))
    exact ⟨b :: l, by rw [hb, hl]; rfl⟩
theorem open_ba {T n fuel : Nat} {cs : List Value} {x : DataW H × List MemPlace} [ht : TyBA P T n] (h : DataW.trod enc P w base spare held fuel T cs = some x) : ∃ l : List Byte, cs = l.map u8b ∧ l.length = n := by
  obtain ⟨E, h1, h2, h3⟩ := ht.ex
  obtain ⟨xs, m, _, _, hl, hxl, hel⟩ := DataW.trod_array h1 h
  rw [ht.ct] at hl
  have hb : ∀ v ∈ cs, ∃ b : Byte, v = u8b b := by
    intro v hv
    obtain ⟨i, hi, rfl⟩ := List.getElem_of_mem hv
    have h4 := hel i (by omega)
    rw [h3, Nat.mul_one] at h4
    rw [List.getElem?_eq_getElem (show i < xs.length by omega)] at h4
    have e : (cs.drop i).take 1 = [cs[i]] := by rw [List.drop_eq_getElem_cons hi]; rfl
    rw [e] at h4
    obtain ⟨k, hk, _, hw⟩ := DataW.trod_int h2 h4
    simp only [List.cons.injEq, and_true] at hk
    rw [hk]
    exact byte_of hw
  obtain ⟨l, rfl⟩ := list_bytes hb
  exact ⟨l, rfl, by simpa using hl⟩
theorem slice_shape {t e fuel : Nat} {cs : List Value} {x : DataW H × List MemPlace} (ht : P.underlying t = some (.slice e)) (h : DataW.trod enc P w base spare held fuel t cs = some x) :
    ∃ a len cap, cs = [.slice a len cap] ∧ len ≤ cap ∧ cap ≤ 9223372036854775807 := by
  rcases DataW.trod_slice ht h with ⟨rfl, _⟩|⟨a, len, cap, elems, rest, n, _, rfl, hx, hb, hl, hm, _⟩
  · exact ⟨none, 0, 0, rfl, by omega, by omega⟩
  · exact ⟨some a, len, cap, rfl, hl, by unfold Go.maxLen at hm; omega⟩
structure InB (W : World) (v : Value) (l : List Byte) : Prop where
  sl : SlW W 1 v l.length (l.map u8b)
  sh : ∃ a c, v = .slice a l.length c ∧ l.length ≤ c ∧ c ≤ 9223372036854775807
  len : l.length ≤ 140737488351232
theorem InB.bs {W : World} {v : Value} {l : List Byte} {M M' : List Asrt} (h : InB W v l) (hm : Has M (old W) M') : Bs M v l := Bs.old hm h.sl h.sh
theorem open_bs {t e fuel : Nat} {cs : List Value} {x : DataW H × List MemPlace} (ht : P.underlying t = some (.slice e)) (he : P.underlying e = some (.int .u8)) (hc : P.cellsOf e = 1) (hby : P.bytesOf e = 1) (h : DataW.trod enc P w base spare held fuel t cs = some x) (hs : Small P t x.1) :
    ∃ (v : Value) (l : List Byte), cs = [v] ∧ InB w v l := by
  obtain ⟨v, l, h1, h2, h3, h4⟩ := open_bytess ht he hc hby h hs
  obtain ⟨a, len, cap, h5, h6, h7⟩ := slice_shape ht h
  rw [h1] at h5
  simp only [List.cons.injEq, and_true] at h5
  have hb : ∀ u ∈ l.map u8v, ∃ b : Byte, u = u8b b := by
    intro u hu
    obtain ⟨n, hn, rfl⟩ := List.mem_map.1 hu
    exact byte_of (h3 n hn)
  obtain ⟨lb, hlb⟩ := list_bytes hb
  have hll : l.length = lb.length := by have := congrArg List.length hlb; simpa using this
  rw [hlb, hll] at h2
  obtain ⟨a', k', hv⟩ := h2.len
  rw [h5] at hv
  simp only [Value.slice.injEq] at hv
  obtain ⟨rfl, rfl, rfl⟩ := hv
  exact ⟨v, lb, h1, ⟨h2, ⟨a, cap, h5, h6, h7⟩, by omega⟩⟩
structure InR (W : World) (v : Value) (ps : List (Value × List Byte)) : Prop where
  sl : SlW W 1 v ps.length (ps.map (·.1))
  sh : ∃ a c, v = .slice a ps.length c ∧ ps.length ≤ c ∧ c ≤ 9223372036854775807
  el : ∀ x ∈ ps, InB W x.1 x.2
  len : ps.length * 24 ≤ 140737488351232
theorem InR.rs {W : World} {v : Value} {ps : List (Value × List Byte)} {M M' : List Asrt} (h : InR W v ps) (hm : Has M (old W) M') : Rs M v ps :=
  ⟨Rd.old hm h.sl, fun _ _ _ _ => h.sh, fun x hx => (h.el x hx).bs hm⟩
theorem open_rs {t e e2 fuel : Nat} {cs : List Value} {x : DataW H × List MemPlace} (ht : P.underlying t = some (.slice e)) (hc : P.cellsOf e = 1) (hby : P.bytesOf e = 24) (ht2 : P.underlying e = some (.slice e2)) (he : P.underlying e2 = some (.int .u8)) (hc2 : P.cellsOf e2 = 1) (hby2 : P.bytesOf e2 = 1)
    (h : DataW.trod enc P w base spare held fuel t cs = some x) (hs : Small P t x.1) : ∃ (v : Value) (ps : List (Value × List Byte)), cs = [v] ∧ InR w v ps := by
  obtain ⟨v, l, h1, h2, h3, h4⟩ := open_sls (encd := fun x : Value × List Byte => [x.1]) (good := fun x => InB w x.1 x.2) ht hc (by decide) hby (fun _ => rfl) (fun n cs y hy hsm => by
    obtain ⟨v, l, rfl, hin⟩ := open_bs ht2 he hc2 hby2 hy hsm
    exact ⟨(v, l), rfl, hin⟩) h hs
  obtain ⟨a, len, cap, h5, h6, h7⟩ := slice_shape ht h
  rw [h1] at h5
  simp only [List.cons.injEq, and_true] at h5
  rw [flat_one] at h2
  obtain ⟨a', k', hv⟩ := h2.len
  rw [h5] at hv
  simp only [Value.slice.injEq] at hv
  obtain ⟨rfl, rfl, rfl⟩ := hv
  exact ⟨v, l, h1, ⟨h2, ⟨a, cap, h5, h6, h7⟩, h3, h4⟩⟩
end Go.Sl
namespace Go.Sl
open Go Go.ChangeShapes Go.WideShapes Go.ChangeAt Go.RowKit
theorem Imp.pur_mk {p : Prop} {M : List Asrt} (hp : p) : Imp M (pur p :: M) := fun h hs => ⟨fun _ => none, h, hp, hs, Frag.none_disj _, Frag.none_sub _, Frag.sub_refl _⟩
theorem i64_of {n : Int} (h : (Lit.int .i64 n).wf = true) : -9223372036854775808 ≤ n ∧ n ≤ 9223372036854775807 := by
  simp only [Lit.wf, Bool.and_eq_true, decide_eq_true_eq] at h
  have hlo : IntKind.i64.min = -9223372036854775808 := by decide
  have hhi : IntKind.i64.max = 9223372036854775807 := by decide
  omega
theorem u8_of {n : Int} (hw : (Lit.int .u8 n).wf = true) : ∃ b : BitVec 8, Value.int .u8 n = u8b b := byte_of hw
theorem u64_of {n : Int} (hw : (Lit.int .u64 n).wf = true) : ∃ b : BitVec 64, Value.int .u64 n = u64b b := by
  simp only [Lit.wf, Bool.and_eq_true, decide_eq_true_eq] at hw
  have hlo : IntKind.u64.min = 0 := by decide
  have hhi : IntKind.u64.max = 18446744073709551615 := by decide
  refine ⟨BitVec.ofNat 64 n.toNat, ?_⟩
  show Value.int .u64 n = .int .u64 _
  rw [BitVec.toNat_ofNat]; congr 1; omega
end Go.Sl
namespace Go.Sl
open Go
section
variable {P : Program} {ρ : Env} {x y : Operand} {T T' : Nat} {a n : Nat}
theorem Zn1 (hx : ev ρ x = .int .i64 (a : Int)) (hy : ev ρ y = .int .i64 (OfNat.ofNat n)) (h : a + (OfNat.ofNat n : Nat) ≤ 9223372036854775807 := by first|omega|exact Nat.le_of_ble_eq_true rfl|(simp; done)|(simp; omega)|decide) : PV P (.binOp .add T x y T') ρ (.int .i64 ((a + OfNat.ofNat n : Nat) : Int)) := Zma (b := OfNat.ofNat n) hx hy h
theorem Zn2 (hx : ev ρ x = .int .i64 (a : Int)) (hy : ev ρ y = .int .i64 (OfNat.ofNat n)) (h : (OfNat.ofNat n : Nat) ≤ a := by first|omega|exact Nat.le_of_ble_eq_true rfl|(simp; done)|(simp; omega)|decide) (ha : a ≤ 9223372036854775807 := by first|omega|exact Nat.le_of_ble_eq_true rfl|(simp; done)|(simp; omega)|decide) : PV P (.binOp .sub T x y T') ρ (.int .i64 ((a - OfNat.ofNat n : Nat) : Int)) := Zmb (b := OfNat.ofNat n) hx hy h ha
theorem Zn3 (hx : ev ρ x = .int .i64 (a : Int)) (hy : ev ρ y = .int .i64 (OfNat.ofNat n)) (h : a * (OfNat.ofNat n : Nat) ≤ 9223372036854775807 := by first|omega|exact Nat.le_of_ble_eq_true rfl|(simp; done)|(simp; omega)|decide) : PV P (.binOp .mul T x y T') ρ (.int .i64 ((a * OfNat.ofNat n : Nat) : Int)) := Zmc (b := OfNat.ofNat n) hx hy h
theorem Zn4 (hx : ev ρ x = .int .i64 (a : Int)) (hy : ev ρ y = .int .i64 (OfNat.ofNat n)) (h : 0 < (OfNat.ofNat n : Nat) := by first|omega|exact Nat.le_of_ble_eq_true rfl|(simp; done)|(simp; omega)|decide) (ha : a ≤ 9223372036854775807 := by first|omega|exact Nat.le_of_ble_eq_true rfl|(simp; done)|(simp; omega)|decide) : PV P (.binOp .quo T x y T') ρ (.int .i64 ((a / OfNat.ofNat n : Nat) : Int)) := Zmd (b := OfNat.ofNat n) hx hy h ha
theorem Zn5 (hx : ev ρ x = .int .i64 (a : Int)) (hy : ev ρ y = .int .i64 (OfNat.ofNat n)) (h : 0 < (OfNat.ofNat n : Nat) := by first|omega|exact Nat.le_of_ble_eq_true rfl|(simp; done)|(simp; omega)|decide) : PV P (.binOp .rem T x y T') ρ (.int .i64 ((a % OfNat.ofNat n : Nat) : Int)) := Zme (b := OfNat.ofNat n) hx hy h
theorem Zn6 {k : IntKind} (hx : ev ρ x = .int k (a : Int)) (hy : ev ρ y = .int k (OfNat.ofNat n)) : PV P (.binOp .lss T x y T') ρ (.bool (decide (a < OfNat.ofNat n))) := Zmf (b := OfNat.ofNat n) hx hy
theorem Zn7 {k : IntKind} (hx : ev ρ x = .int k (a : Int)) (hy : ev ρ y = .int k (OfNat.ofNat n)) : PV P (.binOp .leq T x y T') ρ (.bool (decide (a ≤ OfNat.ofNat n))) := Zmg (b := OfNat.ofNat n) hx hy
theorem Zn8 {k : IntKind} (hx : ev ρ x = .int k (a : Int)) (hy : ev ρ y = .int k (OfNat.ofNat n)) : PV P (.binOp .gtr T x y T') ρ (.bool (decide (OfNat.ofNat n < a))) := Zmh (b := OfNat.ofNat n) hx hy
theorem Zn9 {k : IntKind} (hx : ev ρ x = .int k (a : Int)) (hy : ev ρ y = .int k (OfNat.ofNat n)) : PV P (.binOp .geq T x y T') ρ (.bool (decide (OfNat.ofNat n ≤ a))) := Zmi (b := OfNat.ofNat n) hx hy
theorem Zoa {k : IntKind} (hx : ev ρ x = .int k (a : Int)) (hy : ev ρ y = .int k (OfNat.ofNat n)) : PV P (.binOp .eql T x y T') ρ (.bool (decide (a = OfNat.ofNat n))) := Zmj (b := OfNat.ofNat n) hx hy
theorem Zob {k : IntKind} (hx : ev ρ x = .int k (a : Int)) (hy : ev ρ y = .int k (OfNat.ofNat n)) : PV P (.binOp .neq T x y T') ρ (.bool (decide (a ≠ OfNat.ofNat n))) := Zmk (b := OfNat.ofNat n) hx hy
end
attribute [local irreducible] pt old pur ex all den denOps denS xOps xC cX CX xthen xblk xcut xloop xng retX resX Calls PV Rd Con
theorem pvA {p : Prop} (h : p := by
    first
    | (guard_target =~ PV _ (.move _) _ _; first|exact Zat rfl|exact Zax rfl|exact Zaw rfl|exact Zav rfl|exact Zau rfl|exact Zmo rfl|exact Zmp rfl|exact Zmn rfl|exact Zmm rfl|exact Zay rfl|exact Zar rfl)
    | (guard_target =~ PV _ (.assign _) _ _; first|exact Zaz rfl|exact Za3 rfl|exact Za2 rfl|exact Za1 rfl|exact Za0 rfl|exact Zmr rfl|exact Zms rfl|exact Zmq rfl|exact Zmt rfl|exact Zmu rfl|exact Zas rfl)
    | (guard_target =~ PV _ (.call _) _ _; first|exact Zcr rfl|exact Zct|exact Zcu rfl|exact Zcv rfl rfl|exact Zcw rfl rfl)
    | (guard_target =~ PV _ (.fieldAddr _ _ _) _ _; first|exact Zl8 rfl|exact Zce rfl qS)
    | (guard_target =~ PV _ (.pick _ _ _) _ _; first|exact Zdz rfl rfl|exact Zd0 rfl rfl|exact Za8 rfl rfl|exact Za9 rfl rfl|exact Za6 rfl rfl|exact Za7 rfl rfl)
    | (guard_target =~ PV _ (.nilCheck _) _ _; first|exact Zba rfl)
    | (guard_target =~ PV _ (.extract _ _) _ _; first|exact Zco rfl rfl)
    | (guard_target =~ PV _ (.binOp .lss _ _ (.const _) _) _ _; first|exact Zn6 rfl rfl)
    | (guard_target =~ PV _ (.binOp .eql _ _ (.const _) _) _ _; first|exact Zoa rfl rfl)
    | (guard_target =~ PV _ (.binOp .neq _ _ (.const _) _) _ _; first|exact Zob rfl rfl)
    | (guard_target =~ PV _ (.binOp .geq _ _ (.const _) _) _ _; first|exact Zn9 rfl rfl)
    | (guard_target =~ PV _ (.binOp .gtr _ _ (.const _) _) _ _; first|exact Zn8 rfl rfl)
    | (guard_target =~ PV _ (.binOp .leq _ _ (.const _) _) _ _; first|exact Zn7 rfl rfl)
    | (guard_target =~ PV _ (.binOp .add _ _ (.const _) _) _ _; first|exact Zn1 rfl rfl)
    | (guard_target =~ PV _ (.binOp .sub _ _ (.const _) _) _ _; first|exact Zn2 rfl rfl)
    | (guard_target =~ PV _ (.binOp .mul _ _ (.const _) _) _ _; first|exact Zn3 rfl rfl)
    | (guard_target =~ PV _ (.binOp .quo _ _ (.const _) _) _ _; first|exact Zn4 rfl rfl)
    | (guard_target =~ PV _ (.binOp .rem _ _ (.const _) _) _ _; first|exact Zn5 rfl rfl)
    | (guard_target =~ PV _ (.binOp .lss _ _ _ _) _ _; first|exact Zmf rfl rfl|exact Zbn rfl rfl)
    | (guard_target =~ PV _ (.binOp .eql _ _ _ _) _ _; first|exact Zmj rfl rfl|exact Zbr rfl rfl|exact Zca rfl rfl|exact Zcc rfl rfl|exact Zb7 rfl rfl)
    | (guard_target =~ PV _ (.binOp .neq _ _ _ _) _ _; first|exact Zmk rfl rfl|exact Zbs rfl rfl|exact Zcb rfl rfl|exact Zcd rfl rfl|exact Zb8 rfl rfl)
    | (guard_target =~ PV _ (.binOp .geq _ _ _ _) _ _; first|exact Zmi rfl rfl|exact Zbq rfl rfl)
    | (guard_target =~ PV _ (.binOp .gtr _ _ _ _) _ _; first|exact Zmh rfl rfl|exact Zbp rfl rfl)
    | (guard_target =~ PV _ (.binOp .leq _ _ _ _) _ _; first|exact Zmg rfl rfl|exact Zbo rfl rfl)
    | (guard_target =~ PV _ (.binOp .add _ _ _ _) _ _; first|exact Zma rfl rfl|exact Zbg rfl rfl|exact Zkn rfl rfl|exact Zi9 rfl rfl|exact Zlc rfl rfl)
    | (guard_target =~ PV _ (.binOp .sub _ _ _ _) _ _; first|exact Zmb rfl rfl|exact Zbh rfl rfl)
    | (guard_target =~ PV _ (.binOp .mul _ _ _ _) _ _; first|exact Zmc rfl rfl|exact Zbi rfl rfl)
    | (guard_target =~ PV _ (.binOp .quo _ _ _ _) _ _; first|exact Zmd rfl rfl|exact Zbj rfl rfl)
    | (guard_target =~ PV _ (.binOp .rem _ _ _ _) _ _; first|exact Zme rfl rfl|exact Zbl rfl rfl)
    | (guard_target =~ PV _ (.binOp .xor _ _ _ _) _ _; first|exact Zks rfl rfl|exact Zje rfl rfl|exact Zlh rfl rfl)
    | (guard_target =~ PV _ (.binOp .or _ _ _ _) _ _; first|exact Zkr rfl rfl|exact Zjd rfl rfl|exact Zlg rfl rfl)
    | (guard_target =~ PV _ (.binOp .and _ _ _ _) _ _; first|exact Zkq rfl rfl|exact Zjc rfl rfl|exact Zlf rfl rfl)
    | (guard_target =~ PV _ (.indexAddr _ _ _) _ _; first|exact Zl4 rfl rfl|exact Zl1 rfl rfl|exact Zl6 rfl rfl|exact Zcg rfl rfl qS|exact Zl5 rfl rfl|exact Zl3 rfl rfl|exact Zl7 rfl rfl|exact Zl2 rfl rfl)
    | (guard_target =~ PV _ (.unOp _ _ _) _ _; first|exact Zb1 rfl|exact Zb0 rfl)
    | (guard_target =~ PV _ (.field _ _ _) _ _; first|exact Zcl rfl rfl|exact Zcm rfl rfl)
    | (guard_target =~ PV _ (.makeFunc _ _ _) _ _; first|exact Zf3)
    | (guard_target =~ PV _ (.makeInterface _ _) _ _; first|exact Zm2 rfl)) : p := h
structure Wr0 (A : Prop) : Prop where
  o : A
theorem Y0 {A B : Prop} (k : A) (h : Wr0 A → B := by
    intro k
    first
    | exact Zhi rfl k.o
    | exact Zhj rfl k.o) : B := h ⟨k⟩
theorem Yu {A B : Prop} (k : A) (h : Wr0 A → B := by
    intro k
    first
    | (guard_target =~ xOps _ _ _ _ _ (_ ++ _) _; exact Zg2 (by repeat (first|exact App.nil|apply App.cons|(apply App.flip; first|exact App.nil|apply App.cons)|exact App.any)) k.o)
    | (guard_target =~ xOps _ _ _ [] _ _ _; exact Zg3 k.o)
    | (guard_target =~ xOps _ _ _ (⟨_, .load _ _, _, _, _, none⟩ :: _) _ _ _; first|exact Zhp rfl qH rfl k.o|exact Zhr rfl qH qZ k.o|exact Zhq rfl qH qZ rfl k.o)
    | (guard_target =~ xOps _ _ _ (⟨_, .store _ _ _, _, _, _, none⟩ :: _) _ _ _; first|exact Zht rfl rfl qR qZ rfl k.o|exact Zhw rfl rfl qR qZ rfl k.o|exact Zhv rfl rfl qR qZ rfl k.o|exact Zhu rfl rfl qR qZ rfl k.o)
    | (guard_target =~ xOps _ _ _ (⟨_, _, _, _, _, none⟩ :: _) _ _ _; exact Zhg pvA k.o)) : B := h ⟨k⟩
theorem Y1 {A B : Prop} (k : A) (h : Wr0 A → B := by
    intro k
    first
    | (guard_target =~ xOps _ _ _ (⟨_, _, _, _, _, some _⟩ :: _) _ _ _; first|exact Zhi rfl k.o|exact Zhj rfl k.o|(refine Zhh rfl ?_; exact Yu k.o))
    | (guard_target =~ xOps _ _ _ _ _ _ _; exact Yu k.o)
    | (refine Ct.o ?_; first
        | (guard_target =~ xC _ _ (.region _ _ _) _ _ _; exact Zgb k.o)
        | (guard_target =~ xC _ _ (.cond _ _ _) _ _ _; first|exact Zge rfl k.o|exact Zgf rfl k.o))) : B := h ⟨k⟩
theorem V1 {A B : Prop} (k : A) (h : Wr0 A → B := by intro k; refine Y1 ?_; exact Ct.o k.o) : B := h ⟨k⟩
def gNone (ops : Array Oper) (i : Nat) : Bool := match ops[i]? with
  | some ⟨_, _, _, _, _, none⟩ => true
  | _ => false
theorem Wq {P : Program} {w0 : World} {ops : Array Oper} {SM : List Asrt} {i : Nat} {r : Ord} {ρ : Env} {M : List Asrt} {K : XK} (hg : gNone ops i = true) (h : cX P w0 ops SM (.q i r) ρ M K) : cX P w0 ops SM (.q i r) ρ M K := h
theorem Wr {P : Program} {w0 : World} {ops : Array Oper} {SM : List Asrt} {i : Nat} {r : Ord} {ρ : Env} {M : List Asrt} {K : XK} (hg : gNone ops i = true) (h : cX P w0 ops SM (.r i r) ρ M K) : cX P w0 ops SM (.r i r) ρ M K := h
theorem W1 {A B : Prop} (k : A) (h : Wr0 A → B := by
    intro k
    first
    | (guard_target =~ cX _ _ _ _ .nil _ _ _; exact Zik k.o)
    | (guard_target =~ cX _ _ _ _ (.q _ _) _ _ _; first|(refine Wq rfl ?_; exact Zim rfl pvA k.o)|exact Zio rfl rfl k.o|exact Zip rfl rfl k.o|exact Zin rfl rfl pvA k.o)
    | (guard_target =~ cX _ _ _ _ (.r _ _) _ _ _; first|(refine Wr rfl ?_; first|exact Ziv rfl rfl qH rfl k.o|exact Ziy rfl rfl qH qZ k.o|exact Zix rfl rfl qH qZ rfl k.o|exact Ziz rfl pvA k.o)|exact Zi1 rfl rfl k.o|exact Zi2 rfl rfl k.o|exact Ziw rfl rfl rfl qH rfl k.o|exact Zi4 rfl rfl rfl qH qZ k.o|exact Zi3 rfl rfl rfl qH qZ rfl k.o|exact Zi0 rfl rfl pvA k.o)) : B := h ⟨k⟩
theorem Y2 {A B : Prop} (k : A) (h : Wr0 A → B := by intro k; (iterate 2 refine Y1 ?_); exact k.o) : B := h ⟨k⟩
theorem Y3 {A B : Prop} (k : A) (h : Wr0 A → B := by intro k; (iterate 3 refine Y1 ?_); exact k.o) : B := h ⟨k⟩
theorem Y4 {A B : Prop} (k : A) (h : Wr0 A → B := by intro k; (iterate 4 refine Y1 ?_); exact k.o) : B := h ⟨k⟩
theorem Y5 {A B : Prop} (k : A) (h : Wr0 A → B := by intro k; (iterate 5 refine Y1 ?_); exact k.o) : B := h ⟨k⟩
theorem Y6 {A B : Prop} (k : A) (h : Wr0 A → B := by intro k; (iterate 6 refine Y1 ?_); exact k.o) : B := h ⟨k⟩
theorem Y7 {A B : Prop} (k : A) (h : Wr0 A → B := by intro k; (iterate 7 refine Y1 ?_); exact k.o) : B := h ⟨k⟩
theorem Y8 {A B : Prop} (k : A) (h : Wr0 A → B := by intro k; (iterate 8 refine Y1 ?_); exact k.o) : B := h ⟨k⟩
theorem Y9 {A B : Prop} (k : A) (h : Wr0 A → B := by intro k; (iterate 9 refine Y1 ?_); exact k.o) : B := h ⟨k⟩
theorem Y10 {A B : Prop} (k : A) (h : Wr0 A → B := by intro k; (iterate 10 refine Y1 ?_); exact k.o) : B := h ⟨k⟩
theorem Y11 {A B : Prop} (k : A) (h : Wr0 A → B := by intro k; (iterate 11 refine Y1 ?_); exact k.o) : B := h ⟨k⟩
theorem Y12 {A B : Prop} (k : A) (h : Wr0 A → B := by intro k; (iterate 12 refine Y1 ?_); exact k.o) : B := h ⟨k⟩
theorem Y13 {A B : Prop} (k : A) (h : Wr0 A → B := by intro k; (iterate 13 refine Y1 ?_); exact k.o) : B := h ⟨k⟩
theorem Y14 {A B : Prop} (k : A) (h : Wr0 A → B := by intro k; (iterate 14 refine Y1 ?_); exact k.o) : B := h ⟨k⟩
theorem Y15 {A B : Prop} (k : A) (h : Wr0 A → B := by intro k; (iterate 15 refine Y1 ?_); exact k.o) : B := h ⟨k⟩
theorem Y17 {A B : Prop} (k : A) (h : Wr0 A → B := by intro k; (iterate 17 refine Y1 ?_); exact k.o) : B := h ⟨k⟩
theorem Y20 {A B : Prop} (k : A) (h : Wr0 A → B := by intro k; (iterate 20 refine Y1 ?_); exact k.o) : B := h ⟨k⟩
theorem V2 {A B : Prop} (k : A) (h : Wr0 A → B := by intro k; (iterate 2 refine Y1 ?_); exact Ct.o k.o) : B := h ⟨k⟩
theorem V3 {A B : Prop} (k : A) (h : Wr0 A → B := by intro k; (iterate 3 refine Y1 ?_); exact Ct.o k.o) : B := h ⟨k⟩
theorem V4 {A B : Prop} (k : A) (h : Wr0 A → B := by intro k; (iterate 4 refine Y1 ?_); exact Ct.o k.o) : B := h ⟨k⟩
theorem V5 {A B : Prop} (k : A) (h : Wr0 A → B := by intro k; (iterate 5 refine Y1 ?_); exact Ct.o k.o) : B := h ⟨k⟩
theorem V6 {A B : Prop} (k : A) (h : Wr0 A → B := by intro k; (iterate 6 refine Y1 ?_); exact Ct.o k.o) : B := h ⟨k⟩
theorem V7 {A B : Prop} (k : A) (h : Wr0 A → B := by intro k; (iterate 7 refine Y1 ?_); exact Ct.o k.o) : B := h ⟨k⟩
theorem V8 {A B : Prop} (k : A) (h : Wr0 A → B := by intro k; (iterate 8 refine Y1 ?_); exact Ct.o k.o) : B := h ⟨k⟩
theorem V9 {A B : Prop} (k : A) (h : Wr0 A → B := by intro k; (iterate 9 refine Y1 ?_); exact Ct.o k.o) : B := h ⟨k⟩
theorem V10 {A B : Prop} (k : A) (h : Wr0 A → B := by intro k; (iterate 10 refine Y1 ?_); exact Ct.o k.o) : B := h ⟨k⟩
theorem V11 {A B : Prop} (k : A) (h : Wr0 A → B := by intro k; (iterate 11 refine Y1 ?_); exact Ct.o k.o) : B := h ⟨k⟩
theorem V12 {A B : Prop} (k : A) (h : Wr0 A → B := by intro k; (iterate 12 refine Y1 ?_); exact Ct.o k.o) : B := h ⟨k⟩
theorem V13 {A B : Prop} (k : A) (h : Wr0 A → B := by intro k; (iterate 13 refine Y1 ?_); exact Ct.o k.o) : B := h ⟨k⟩
theorem V14 {A B : Prop} (k : A) (h : Wr0 A → B := by intro k; (iterate 14 refine Y1 ?_); exact Ct.o k.o) : B := h ⟨k⟩
theorem V15 {A B : Prop} (k : A) (h : Wr0 A → B := by intro k; (iterate 15 refine Y1 ?_); exact Ct.o k.o) : B := h ⟨k⟩
theorem V16 {A B : Prop} (k : A) (h : Wr0 A → B := by intro k; (iterate 16 refine Y1 ?_); exact Ct.o k.o) : B := h ⟨k⟩
theorem V18 {A B : Prop} (k : A) (h : Wr0 A → B := by intro k; (iterate 18 refine Y1 ?_); exact Ct.o k.o) : B := h ⟨k⟩
theorem V19 {A B : Prop} (k : A) (h : Wr0 A → B := by intro k; (iterate 19 refine Y1 ?_); exact Ct.o k.o) : B := h ⟨k⟩
theorem W2 {A B : Prop} (k : A) (h : Wr0 A → B := by intro k; (iterate 2 refine W1 ?_); exact k.o) : B := h ⟨k⟩
theorem W3 {A B : Prop} (k : A) (h : Wr0 A → B := by intro k; (iterate 3 refine W1 ?_); exact k.o) : B := h ⟨k⟩
theorem W4 {A B : Prop} (k : A) (h : Wr0 A → B := by intro k; (iterate 4 refine W1 ?_); exact k.o) : B := h ⟨k⟩
theorem W5 {A B : Prop} (k : A) (h : Wr0 A → B := by intro k; (iterate 5 refine W1 ?_); exact k.o) : B := h ⟨k⟩
theorem W6 {A B : Prop} (k : A) (h : Wr0 A → B := by intro k; (iterate 6 refine W1 ?_); exact k.o) : B := h ⟨k⟩
theorem W7 {A B : Prop} (k : A) (h : Wr0 A → B := by intro k; (iterate 7 refine W1 ?_); exact k.o) : B := h ⟨k⟩
theorem W8 {A B : Prop} (k : A) (h : Wr0 A → B := by intro k; (iterate 8 refine W1 ?_); exact k.o) : B := h ⟨k⟩
theorem W9 {A B : Prop} (k : A) (h : Wr0 A → B := by intro k; (iterate 9 refine W1 ?_); exact k.o) : B := h ⟨k⟩
theorem W10 {A B : Prop} (k : A) (h : Wr0 A → B := by intro k; (iterate 10 refine W1 ?_); exact k.o) : B := h ⟨k⟩
theorem W11 {A B : Prop} (k : A) (h : Wr0 A → B := by intro k; (iterate 11 refine W1 ?_); exact k.o) : B := h ⟨k⟩
theorem W15 {A B : Prop} (k : A) (h : Wr0 A → B := by intro k; (iterate 15 refine W1 ?_); exact k.o) : B := h ⟨k⟩
section
variable {P : Program} {w0 : World} {ops : Array Oper} {dst : Option Nat} {ty : TypeId} {pos : String} {after : Array Edge} {rest l : List Oper} {ρ : Env} {K : XK} {M SM : List Asrt} {r : Ord}
theorem Zor {F : FuncId} {f : Operand} {ars : Array Operand} {ts : Array TypeId} {fi ca : Array Value} {vs : List Value} {M1 R : List Asrt} {Φ : Value → List Asrt → Prop}
    (hf : ev ρ f = .func (.func F) fi ca := by exact rfl) (hb : callable P F = true := by kernel_rfl) (ha : argL ρ fi ars ca = vs := by exact rfl) (c : Con P F vs M1 Φ) (hs : Take M M1 R := by repeat (first|exact Take.nil|exact Take.all|(apply Take.cons; (next => (repeat constructor); done))|apply Take.skip)) (k : ∀ v M', Φ v M' → xOps P w0 ops rest (put ρ dst v) (M' ++ R) K) :
    xOps P w0 ops (⟨dst, .call { callee := .value f, args := ars, argTypes := ts }, ty, pos, after, none⟩ :: rest) ρ M K := Zh8 hf hb c ha hs k
theorem Zos (d : Nat) {p : Prop} [Decidable p] (hd : ρ d = .bool (decide p)) (e : p) (h : xOps P w0 ops l (put ρ (some d) (.bool true)) M K) : xOps P w0 ops l ρ M K := Zhm d hd (decide_eq_true e) h
theorem Zot (d : Nat) {p : Prop} [Decidable p] (hd : ρ d = .bool (decide p)) (e : ¬ p) (h : xOps P w0 ops l (put ρ (some d) (.bool false)) M K) : xOps P w0 ops l ρ M K := Zhn d hd (decide_eq_false e) h
theorem Zou (d : Nat) {p : Prop} [Decidable p] (hd : ρ d = .bool (decide p)) (e : p) (h : cX P w0 ops SM r (put ρ (some d) (.bool true)) M K) : cX P w0 ops SM r ρ M K := Zi5 d hd (decide_eq_true e) h
theorem Zov (d : Nat) {p : Prop} [Decidable p] (hd : ρ d = .bool (decide p)) (e : ¬ p) (h : cX P w0 ops SM r (put ρ (some d) (.bool false)) M K) : cX P w0 ops SM r ρ M K := Zi6 d hd (decide_eq_false e) h
end
theorem fn_y {P : Program} {f : FuncId} {fn : Func} {c : Code} {rs : List ResultVar} {n : Nat} {args : List Value} {M : List Asrt} {Φ : Value → List Asrt → Prop}
    (hf : P.funcs[f]? = some fn) (hm : P.follows .mixedOrders = true) (h : ∀ w0, xC P w0 c (nth args) M (retX P w0 rs Φ)) (hb : fn.body = some c := by exact rfl) (hr : fn.results.toList = rs := by exact rfl) (hn : fn.ntmps = n := by exact rfl) (hfit : (Nat.ble args.length n && cfits n c) = true := by kernel_rfl) : Con P f args M Φ := fn_x hf hb hr hn hm hfit h
end Go.Sl
namespace Go.Sl.HostS
open Go Go.Sl

structure Fault where
  (at_ kind page byte : Int)
  by_ : Byte
  back : Int
structure Touch where
  (op page len : Int)
  head : List Byte
theorem Touch.eq_iff (a b : Touch) : (a.op = b.op ∧ a.page = b.page ∧ a.len = b.len ∧ a.head = b.head) ↔ a = b := by
  constructor
  · rintro ⟨h1, h2, h3, h4⟩
    cases a; cases b
    simp only at h1 h2 h3 h4
    rw [h1, h2, h3, h4]
  · rintro rfl
    exact ⟨rfl, rfl, rfl, rfl⟩
instance : DecidableEq Touch := fun a b => decidable_of_iff _ (Touch.eq_iff a b)
abbrev Bytes := List Byte

structure HS where
  pages : Int
  size : Nat
  lay : Int → List Bytes
  reg : BitVec 64
  coming : Int → List Fault
  ops : Nat
  log : List Touch
  down : Bool

def setF {α : Type} (f : Int → α) (k : Int) (x : α) : Int → α := fun k' => if k' = k then x else f k'
def back (s : HS) (page writes : Int) : Bytes :=
  let l := s.lay page
  let at_ : Int := (l.length : Int) - 1 - max writes 0
  if 0 ≤ at_ then l.getD at_.toNat [] else List.replicate s.size 0#8
def there (s : HS) (page : Int) : Prop := 0 ≤ page ∧ page < s.pages
instance (s : HS) (page : Int) : Decidable (there s page) := inferInstanceAs (Decidable (_ ∧ _))
def headOf (b : Bytes) : List Byte := b.take 12 ++ List.replicate (12 - b.length) 0#8
def touchOf (s : HS) (op page : Int) (b : Bytes) : Touch :=
  if op = 1 then ⟨1, page, s.size, headOf b⟩
  else if op = 0 then ⟨0, page, s.size, List.replicate 12 0#8⟩
  else ⟨op, 0, 8, List.replicate 12 0#8⟩
structure FOk (f : Fault) : Prop where
  b0 : -9223372036854775808 ≤ f.back
  b1 : f.back ≤ 9223372036854775807
structure Ok (s : HS) : Prop where
  p0 : 0 ≤ s.pages
  p1 : s.pages ≤ 65536
  z0 : 1 ≤ s.size
  z1 : s.size ≤ 4124
  row : ∀ p, ∀ r ∈ s.lay p, r.length = s.size
  many : ∀ p, (s.lay p).length ≤ s.ops
  log : s.log.length ≤ s.ops
  flt : ∀ k, ∀ f ∈ s.coming k, FOk f
  fln : ∀ k, (s.coming k).length ≤ 2932031007401
def spoil1 (s : HS) (page : Int) (b : Bytes) (f : Fault) : Bytes :=
  if f.kind = 0 then (if 0 ≤ f.byte ∧ f.byte < (b.length : Int) then b.set f.byte.toNat (b.getD f.byte.toNat 0#8 ^^^ f.by_) else b)
  else if f.kind = 1 then back s page f.back
  else if f.kind = 2 then (if there s f.page then back s f.page 0 else b)
  else b
def spoilt (s : HS) (page : Int) (l : List Fault) : Bytes := l.foldl (spoil1 s page) (back s page 0)
def taken (s : HS) : HS := { s with coming := setF s.coming s.ops [], ops := s.ops + 1 }
def logged (s : HS) (op page : Int) (b : Bytes) : HS := { taken s with log := s.log ++ [touchOf s op page b] }
def before (fl : List Fault) : Bool := fl.any fun f => f.kind == 3
def behind (fl : List Fault) : Bool := fl.any fun f => f.kind == 4
def does (s : HS) (op page : Int) (b : Bytes) (act : HS → HS) : HS × Nat :=
  if s.down then (s, 110) else
  let fl := s.coming s.ops
  if before fl then ({ taken s with down := true }, 110) else
  let s2 := act (logged s op page b)
  if behind fl then ({ s2 with down := true }, 110) else (s2, 0)
def done (s : HS) : Bool := !s.down && !before (s.coming s.ops)
def wrote (page : Int) (b : Bytes) (s : HS) : HS := { s with lay := setF s.lay page (s.lay page ++ [b]) }
def readR (s : HS) (page : Int) : Bytes × Nat × HS :=
  if there s page then
    let r := does s 0 page [] id
    if r.2 = 0 then (spoilt s page (s.coming s.ops), 0, r.1) else ([], r.2, r.1)
  else ([], 2, s)
def writeR (s : HS) (page : Int) (b : Bytes) : Nat × HS :=
  if there s page then
    if b.length = s.size then
      let r := does s 1 page b (wrote page b)
      (r.2, r.1)
    else (4, s)
  else (2, s)
def comes (fl : List Fault) : Int → List Fault := fun k => fl.filter fun f => f.at_ == k
def fresh (pages : Int) (size : Nat) (fl : List Fault) : HS := ⟨pages, size, fun _ => [], 0#64, comes fl, 0, [], false⟩
def kindly (f : Fault) : Bool := decide (0 ≤ f.kind) && decide (f.kind ≤ 4)
def mayBe (pages size : Int) (fl : List Fault) : Prop := (0 ≤ pages ∧ pages ≤ 65536 ∧ 1 ≤ size ∧ size ≤ 4124) ∧ fl.all kindly = true
end Go.Sl.HostS
namespace Go.Sl
open Go
theorem Bs.take {M : List Asrt} {b o c n : Nat} {l : List Byte} (h : Bs M (.slice (Option.some ⟨b, o, none⟩) l.length c) l) (hn : n ≤ l.length) : Bs M (.slice (Option.some ⟨b, o, none⟩) n c) (l.take n) := by
  have e : (l.take n).length = n := by simp; omega
  refine ⟨?_, ?_⟩
  · rw [e]
    intro w0 F w H
    obtain ⟨h1, h2⟩ := h.rd w0 F w H
    refine ⟨by simp; omega, ?_⟩
    rcases h2 with ⟨a, k, _, h0⟩|⟨b', o', k, cc, E, fr, hv, hb, hle, hx⟩
    · exact .inl ⟨_, _, rfl, by omega⟩
    · simp only [Value.slice.injEq, Option.some.injEq, Addr.mk.injEq] at hv
      obtain ⟨⟨rfl, rfl, _⟩, _, rfl⟩ := hv
      refine .inr ⟨b, o, c, cc, E, fr, rfl, hb, by omega, ?_⟩
      rw [List.map_take, ← hx]
      simp only [Array.toList_extract, List.extract_eq_take_drop, List.take_take]
      congr 1; omega
  · intro w0 F w H
    obtain ⟨a, c', hv, h1, h2⟩ := h.sh w0 F w H
    simp only [Value.slice.injEq] at hv
    obtain ⟨_, _, rfl⟩ := hv
    exact ⟨_, _, by rw [e], by omega, h2⟩
theorem Zm8 {P : Program} {ρ : Env} {x : Operand} {S E sz by' n c h : Nat} {a : Option Addr} {z : Value} {hi : Option Operand} [hs : TySlice P S E] [hi' : TyI P E sz by' z] (hx : ev ρ x = .slice a n c)
    (hh : optB ρ n hi = some (h : Int)) (hc : h ≤ c) : PV P (.slice S x none hi none) ρ (.slice a h c) := by
  have := Zm1 (P := P) (S := S) (lo := none) (l := 0) hx rfl hh (by omega) hc
  have e : (if c = 0 then a else a.map (·.add (0 * sz))) = a := by
    split
    · rfl
    · cases a with
      | none => rfl
      | some a => simp [Option.map, Addr.add]
  rw [e] at this
  simpa using this
end Go.Sl
namespace Go.Sl
open Go
abbrev Wd := BitVec 32
def leB {w : Nat} (x : BitVec w) (n : Nat) : List Byte := (List.range n).map fun i => (x >>> (8 * i)).setWidth 8
theorem leB_len {w : Nat} (x : BitVec w) (n : Nat) : (leB x n).length = n := by simp [leB]
theorem leB_succ {w : Nat} (x : BitVec w) (n : Nat) : leB x (n + 1) = leB x n ++ [(x >>> (8 * n)).setWidth 8] := by simp [leB, List.range_succ]
def lowB (w : Nat) (b : List Byte) : BitVec w := (b.zipIdx).foldl (fun (v : BitVec w) (x : Byte × Nat) => v ||| (x.1.setWidth w) <<< (8 * x.2)) 0#w
theorem lowB_snoc (w : Nat) (b : List Byte) (x : Byte) : lowB w (b ++ [x]) = lowB w b ||| (x.setWidth w) <<< (8 * b.length) := by
  unfold lowB
  rw [List.zipIdx_append, List.foldl_append]
  simp
def rotW (x : Wd) (n : Nat) : Wd := x <<< n ||| x >>> (32 - n)
def quarterW (a b c d : Wd) : Wd × Wd × Wd × Wd :=
  let a1 := a + b
  let d1 := rotW (d ^^^ a1) 16
  let c1 := c + d1
  let b1 := rotW (b ^^^ c1) 12
  let a2 := a1 + b1
  let d2 := rotW (d1 ^^^ a2) 8
  let c2 := c1 + d2
  let b2 := rotW (b1 ^^^ c2) 7
  (a2, b2, c2, d2)
abbrev Quad := Nat × Nat × Nat × Nat
def qAt (s : List Wd) (q : Quad) : List Wd :=
  let r := quarterW (s.getD q.1 0) (s.getD q.2.1 0) (s.getD q.2.2.1 0) (s.getD q.2.2.2 0)
  (((s.set q.1 r.1).set q.2.1 r.2.1).set q.2.2.1 r.2.2.1).set q.2.2.2 r.2.2.2
theorem qAt_len (s : List Wd) (q : Quad) : (qAt s q).length = s.length := by simp [qAt]
def quadOf (turn i : Nat) : Quad := (i, 4 + (i + turn) % 4, 8 + (i + 2 * turn) % 4, 12 + (i + 3 * turn) % 4)
def quads : List Quad := [quadOf 0 0, quadOf 0 1, quadOf 0 2, quadOf 0 3, quadOf 1 0, quadOf 1 1, quadOf 1 2, quadOf 1 3]
def twiceN (s : List Wd) (n : Nat) : List Wd := (quads.take n).foldl qAt s
def twiceW (s : List Wd) : List Wd := twiceN s 8
theorem foldq_len (l : List Quad) (s : List Wd) : (l.foldl qAt s).length = s.length := by
  induction l generalizing s with
  | nil => rfl
  | cons q l ih => rw [List.foldl_cons, ih, qAt_len]
theorem twiceN_len (s : List Wd) (n : Nat) : (twiceN s n).length = s.length := foldq_len _ _
theorem twiceW_len (s : List Wd) : (twiceW s).length = s.length := twiceN_len _ _
theorem twiceN_succ (s : List Wd) (n : Nat) (h : n < 8) : twiceN s (n + 1) = qAt (twiceN s n) (quadOf (n / 4) (n % 4)) := by
  have e : ∀ m : Fin 8, quads.take (m.val + 1) = quads.take m.val ++ [quadOf (m.val / 4) (m.val % 4)] := by decide
  unfold twiceN
  rw [e ⟨n, h⟩, List.foldl_append]; rfl
def iterW : Nat → List Wd → List Wd
  | 0, s => s
  | n + 1, s => twiceW (iterW n s)
theorem iterW_len (n : Nat) (s : List Wd) : (iterW n s).length = s.length := by
  induction n with
  | zero => rfl
  | succ n ih => rw [iterW, twiceW_len, ih]
def stateW (key : List Byte) (ctr : Wd) (nonce : List Byte) : List Wd :=
  [1634760805#32, 857760878#32, 2036477234#32, 1797285236#32] ++ ((List.range 8).map (fun i => lowB 32 ((key.drop (4 * i)).take 4)) ++ (ctr :: (List.range 3).map (fun i => lowB 32 ((nonce.drop (4 * i)).take 4))))
theorem stateW_len (key : List Byte) (ctr : Wd) (nonce : List Byte) : (stateW key ctr nonce).length = 16 := by simp [stateW]
def sumW (s f : List Wd) (i : Nat) : Wd := s.getD i 0 + f.getD i 0
def outW64 (s f : List Wd) (n : Nat) : List Byte := (List.range n).flatMap fun i => leB (sumW s f i) 4
theorem outW64_len (s f : List Wd) (n : Nat) : (outW64 s f n).length = 4 * n := by
  induction n with
  | zero => rfl
  | succ n ih => rw [outW64, List.range_succ, List.flatMap_append, List.length_append]; rw [outW64] at ih; rw [ih]; simp [leB_len]; omega
theorem outW64_succ (s f : List Wd) (n : Nat) : outW64 s f (n + 1) = outW64 s f n ++ leB (sumW s f n) 4 := by
  unfold outW64; rw [List.range_succ, List.flatMap_append]; simp
def blockB (key : List Byte) (ctr : Wd) (nonce : List Byte) : List Byte := outW64 (iterW 10 (stateW key ctr nonce)) (stateW key ctr nonce) 16
theorem blockB_len (key : List Byte) (ctr : Wd) (nonce : List Byte) : (blockB key ctr nonce).length = 64 := outW64_len _ _ _
def ksB (key nonce : List Byte) (p : Nat) : Byte := (blockB key (BitVec.ofNat 32 (p / 64)) nonce).getD (p % 64) 0#8
def xorB (key nonce : List Byte) (p : Nat) (b : List Byte) : List Byte := (List.range b.length).map fun j => b.getD j 0#8 ^^^ ksB key nonce (p + j)
theorem xorB_len (key nonce : List Byte) (p : Nat) (b : List Byte) : (xorB key nonce p b).length = b.length := by simp [xorB]
theorem xorB_get (key nonce : List Byte) (p : Nat) (b : List Byte) (j : Nat) (h : j < b.length) : (xorB key nonce p b)[j]'(by rw [xorB_len]; exact h) = b[j] ^^^ ksB key nonce (p + j) := by
  simp only [xorB, List.getElem_map, List.getElem_range]
  rw [List.getD_eq_getElem?_getD, List.getElem?_eq_getElem h]; rfl
theorem xorB_back (key nonce : List Byte) (p : Nat) (b : List Byte) : xorB key nonce p (xorB key nonce p b) = b := by
  apply List.ext_getElem (by rw [xorB_len, xorB_len])
  intro j h1 h2
  rw [xorB_get _ _ _ _ _ (by rw [xorB_len]; exact h2), xorB_get _ _ _ _ _ h2, BitVec.xor_assoc, BitVec.xor_self, BitVec.xor_zero]
end Go.Sl
namespace Go.Sl
open Go Go.Proofs
theorem Tryz.mixed : Tryz.prog.follows .mixedOrders = true := by kernel_rfl
instance : TyScal Tryz.prog 3 := ⟨by kernel_rfl⟩
instance : TyI Tryz.prog 3 1 8 (.int .i64 0) := ⟨by kernel_rfl, by kernel_rfl⟩
instance : TyInt Tryz.prog 3 .i64 := ⟨by kernel_rfl⟩
instance : TyScal Tryz.prog 5 := ⟨by kernel_rfl⟩
instance : TyI Tryz.prog 5 1 1 (.int .u8 0) := ⟨by kernel_rfl, by kernel_rfl⟩
instance : TyInt Tryz.prog 5 .u8 := ⟨by kernel_rfl⟩
instance : TyStr Tryz.prog 9 := ⟨by kernel_rfl⟩
instance : TyScal Tryz.prog 22 := ⟨by kernel_rfl⟩
instance : TyI Tryz.prog 22 1 8 (.int .i64 0) := ⟨by kernel_rfl, by kernel_rfl⟩
instance : TyInt Tryz.prog 22 .i64 := ⟨by kernel_rfl⟩
instance : TyScal Tryz.prog 28 := ⟨by kernel_rfl⟩
instance : TyPtr Tryz.prog 28 137 := ⟨by kernel_rfl⟩
instance : TyScal Tryz.prog 32 := ⟨by kernel_rfl⟩
instance : TyPtr Tryz.prog 32 141 := ⟨by kernel_rfl⟩
instance : TyScal Tryz.prog 38 := ⟨by kernel_rfl⟩
instance : TyI Tryz.prog 38 1 8 (.pointer none) := ⟨by kernel_rfl, by kernel_rfl⟩
instance : TyPtr Tryz.prog 38 147 := ⟨by kernel_rfl⟩
instance : TyAggr Tryz.prog 42 := ⟨by kernel_rfl⟩
instance : TyI Tryz.prog 42 32 32 (.agg #[.int .u8 0, .int .u8 0, .int .u8 0, .int .u8 0, .int .u8 0, .int .u8 0, .int .u8 0, .int .u8 0, .int .u8 0, .int .u8 0, .int .u8 0, .int .u8 0, .int .u8 0, .int .u8 0, .int .u8 0, .int .u8 0, .int .u8 0, .int .u8 0, .int .u8 0, .int .u8 0, .int .u8 0, .int .u8 0, .int .u8 0, .int .u8 0, .int .u8 0, .int .u8 0, .int .u8 0, .int .u8 0, .int .u8 0, .int .u8 0, .int .u8 0, .int .u8 0]) := ⟨by kernel_rfl, by kernel_rfl⟩
instance : TyArr Tryz.prog 42 32 5 := ⟨by kernel_rfl⟩
instance : TyScal Tryz.prog 43 := ⟨by kernel_rfl⟩
instance : TyI Tryz.prog 43 1 8 (.int .u64 0) := ⟨by kernel_rfl, by kernel_rfl⟩
instance : TyInt Tryz.prog 43 .u64 := ⟨by kernel_rfl⟩
instance : TyScal Tryz.prog 50 := ⟨by kernel_rfl⟩
instance : TyI Tryz.prog 50 1 24 (.slice none 0 0) := ⟨by kernel_rfl, by kernel_rfl⟩
instance : TySlice Tryz.prog 50 158 := ⟨by kernel_rfl⟩
instance : TyScal Tryz.prog 52 := ⟨by kernel_rfl⟩
instance : TyI Tryz.prog 52 1 24 (.slice none 0 0) := ⟨by kernel_rfl, by kernel_rfl⟩
instance : TySlice Tryz.prog 52 3 := ⟨by kernel_rfl⟩
instance : TyScal Tryz.prog 55 := ⟨by kernel_rfl⟩
instance : TyI Tryz.prog 55 1 24 (.slice none 0 0) := ⟨by kernel_rfl, by kernel_rfl⟩
instance : TySlice Tryz.prog 55 151 := ⟨by kernel_rfl⟩
instance : TyI Tryz.prog 58 1 24 (.slice none 0 0) := ⟨by kernel_rfl, by kernel_rfl⟩
instance : TySlice Tryz.prog 58 119 := ⟨by kernel_rfl⟩
instance : TyScal Tryz.prog 65 := ⟨by kernel_rfl⟩
instance : TyI Tryz.prog 65 1 24 (.slice none 0 0) := ⟨by kernel_rfl, by kernel_rfl⟩
instance : TySlice Tryz.prog 65 66 := ⟨by kernel_rfl⟩
instance : TyScal Tryz.prog 66 := ⟨by kernel_rfl⟩
instance : TyI Tryz.prog 66 1 24 (.slice none 0 0) := ⟨by kernel_rfl, by kernel_rfl⟩
instance : TySlice Tryz.prog 66 5 := ⟨by kernel_rfl⟩
instance : TyAggr Tryz.prog 84 := ⟨by kernel_rfl⟩
instance : TyI Tryz.prog 84 39 136 (.agg #[.int .i64 0, .int .i64 0, .int .i64 0, .int .u8 0, .int .u8 0, .int .u8 0, .int .u8 0, .int .u8 0, .int .u8 0, .int .u8 0, .int .u8 0, .int .u8 0, .int .u8 0, .int .u8 0, .int .u8 0, .int .u8 0, .int .u8 0, .int .u8 0, .int .u8 0, .int .u8 0, .int .u8 0, .int .u8 0, .int .u8 0, .int .u8 0, .int .u8 0, .int .u8 0, .int .u8 0, .int .u8 0, .int .u8 0, .int .u8 0, .int .u8 0, .int .u8 0, .int .u8 0, .int .u8 0, .int .u8 0, .int .u64 0, .slice none 0 0, .slice none 0 0, .slice none 0 0]) := ⟨by kernel_rfl, by kernel_rfl⟩
instance : Fld Tryz.prog 84 0 0 3 := ⟨by kernel_rfl⟩
instance : Fld Tryz.prog 84 1 1 3 := ⟨by kernel_rfl⟩
instance : Fld Tryz.prog 84 2 2 3 := ⟨by kernel_rfl⟩
instance : Fld Tryz.prog 84 3 3 42 := ⟨by kernel_rfl⟩
instance : Fld Tryz.prog 84 4 35 43 := ⟨by kernel_rfl⟩
instance : Fld Tryz.prog 84 6 37 65 := ⟨by kernel_rfl⟩
instance : TyStruct Tryz.prog 84 #[(0, 1), (1, 1), (2, 1), (3, 32), (35, 1), (36, 1), (37, 1), (38, 1)] := ⟨by kernel_rfl⟩
instance : TyAggr Tryz.prog 86 := ⟨by kernel_rfl⟩
instance : TyI Tryz.prog 86 5 40 (.agg #[.int .i64 0, .int .i64 0, .int .i64 0, .int .i64 0, .int .i64 0]) := ⟨by kernel_rfl, by kernel_rfl⟩
instance : Fld Tryz.prog 86 0 0 3 := ⟨by kernel_rfl⟩
instance : Fld Tryz.prog 86 1 1 3 := ⟨by kernel_rfl⟩
instance : Fld Tryz.prog 86 2 2 3 := ⟨by kernel_rfl⟩
instance : Fld Tryz.prog 86 3 3 3 := ⟨by kernel_rfl⟩
instance : Fld Tryz.prog 86 4 4 3 := ⟨by kernel_rfl⟩
instance : TyStruct Tryz.prog 86 #[(0, 1), (1, 1), (2, 1), (3, 1), (4, 1)] := ⟨by kernel_rfl⟩
instance : TyScal Tryz.prog 92 := ⟨by kernel_rfl⟩
instance : TyAggr Tryz.prog 119 := ⟨by kernel_rfl⟩
instance : TyI Tryz.prog 119 6 48 (.agg #[.int .i64 0, .int .i64 0, .int .i64 0, .int .i64 0, .int .u8 0, .int .i64 0]) := ⟨by kernel_rfl, by kernel_rfl⟩
instance : Fld Tryz.prog 119 0 0 3 := ⟨by kernel_rfl⟩
instance : Fld Tryz.prog 119 1 1 3 := ⟨by kernel_rfl⟩
instance : Fld Tryz.prog 119 2 2 3 := ⟨by kernel_rfl⟩
instance : Fld Tryz.prog 119 3 3 3 := ⟨by kernel_rfl⟩
instance : Fld Tryz.prog 119 4 4 5 := ⟨by kernel_rfl⟩
instance : Fld Tryz.prog 119 5 5 3 := ⟨by kernel_rfl⟩
instance : TyStruct Tryz.prog 119 #[(0, 1), (1, 1), (2, 1), (3, 1), (4, 1), (5, 1)] := ⟨by kernel_rfl⟩
instance : TyScal Tryz.prog 130 := ⟨by kernel_rfl⟩
instance : TyI Tryz.prog 130 1 4 (.int .u32 0) := ⟨by kernel_rfl, by kernel_rfl⟩
instance : TyInt Tryz.prog 130 .u32 := ⟨by kernel_rfl⟩
instance : TyI Tryz.prog 137 6 64 (.agg #[.pointer none, .int .i64 0, .int .i64 0, .int .i64 0, .int .i64 0, .slice none 0 0]) := ⟨by kernel_rfl, by kernel_rfl⟩
instance : Fld Tryz.prog 137 0 0 38 := ⟨by kernel_rfl⟩
instance : Fld Tryz.prog 137 1 1 3 := ⟨by kernel_rfl⟩
instance : Fld Tryz.prog 137 2 2 3 := ⟨by kernel_rfl⟩
instance : Fld Tryz.prog 137 3 3 3 := ⟨by kernel_rfl⟩
instance : Fld Tryz.prog 137 4 4 3 := ⟨by kernel_rfl⟩
instance : Fld Tryz.prog 137 5 5 55 := ⟨by kernel_rfl⟩
instance : TyStruct Tryz.prog 137 #[(0, 1), (1, 1), (2, 1), (3, 1), (4, 1), (5, 1)] := ⟨by kernel_rfl⟩
instance : TyScal Tryz.prog 138 := ⟨by kernel_rfl⟩
instance : TyI Tryz.prog 138 1 8 (.map none) := ⟨by kernel_rfl, by kernel_rfl⟩
instance : TyMap Tryz.prog 138 3 65 := ⟨by kernel_rfl⟩
instance : TyScal Tryz.prog 139 := ⟨by kernel_rfl⟩
instance : TyI Tryz.prog 139 1 8 (.map none) := ⟨by kernel_rfl, by kernel_rfl⟩
instance : TyMap Tryz.prog 139 3 58 := ⟨by kernel_rfl⟩
instance : TyI Tryz.prog 141 8 80 (.agg #[.int .i64 0, .int .i64 0, .map none, .int .u64 0, .map none, .int .i64 0, .slice none 0 0, .int .i64 0]) := ⟨by kernel_rfl, by kernel_rfl⟩
instance : Fld Tryz.prog 141 0 0 3 := ⟨by kernel_rfl⟩
instance : Fld Tryz.prog 141 1 1 3 := ⟨by kernel_rfl⟩
instance : Fld Tryz.prog 141 2 2 138 := ⟨by kernel_rfl⟩
instance : Fld Tryz.prog 141 4 4 139 := ⟨by kernel_rfl⟩
instance : Fld Tryz.prog 141 5 5 3 := ⟨by kernel_rfl⟩
instance : Fld Tryz.prog 141 6 6 50 := ⟨by kernel_rfl⟩
instance : Fld Tryz.prog 141 7 7 3 := ⟨by kernel_rfl⟩
instance : TyStruct Tryz.prog 141 #[(0, 1), (1, 1), (2, 1), (3, 1), (4, 1), (5, 1), (6, 1), (7, 1)] := ⟨by kernel_rfl⟩
instance : TyScal Tryz.prog 143 := ⟨by kernel_rfl⟩
instance : TyI Tryz.prog 143 1 16 (.nilIface) := ⟨by kernel_rfl, by kernel_rfl⟩
instance : TyScal Tryz.prog 144 := ⟨by kernel_rfl⟩
instance : TyI Tryz.prog 144 1 8 (.map none) := ⟨by kernel_rfl, by kernel_rfl⟩
instance : TyMap Tryz.prog 144 3 185 := ⟨by kernel_rfl⟩
instance : TyScal Tryz.prog 145 := ⟨by kernel_rfl⟩
instance : TyI Tryz.prog 145 1 8 (.map none) := ⟨by kernel_rfl, by kernel_rfl⟩
instance : TyMap Tryz.prog 145 3 189 := ⟨by kernel_rfl⟩
instance : TyI Tryz.prog 147 43 144 (.agg #[.nilIface, .int .u8 0, .int .u8 0, .int .u8 0, .int .u8 0, .int .u8 0, .int .u8 0, .int .u8 0, .int .u8 0, .int .u8 0, .int .u8 0, .int .u8 0, .int .u8 0, .int .u8 0, .int .u8 0, .int .u8 0, .int .u8 0, .int .u8 0, .int .u8 0, .int .u8 0, .int .u8 0, .int .u8 0, .int .u8 0, .int .u8 0, .int .u8 0, .int .u8 0, .int .u8 0, .int .u8 0, .int .u8 0, .int .u8 0, .int .u8 0, .int .u8 0, .int .u8 0, .int .u64 0, .int .i64 0, .int .i64 0, .int .i64 0, .map none, .slice none 0 0, .map none, .int .i64 0, .int .u32 0, .int .i64 0]) := ⟨by kernel_rfl, by kernel_rfl⟩
instance : Fld Tryz.prog 147 0 0 143 := ⟨by kernel_rfl⟩
instance : Fld Tryz.prog 147 1 1 42 := ⟨by kernel_rfl⟩
instance : Fld Tryz.prog 147 2 33 43 := ⟨by kernel_rfl⟩
instance : Fld Tryz.prog 147 3 34 3 := ⟨by kernel_rfl⟩
instance : Fld Tryz.prog 147 4 35 3 := ⟨by kernel_rfl⟩
instance : Fld Tryz.prog 147 5 36 3 := ⟨by kernel_rfl⟩
instance : Fld Tryz.prog 147 6 37 144 := ⟨by kernel_rfl⟩
instance : Fld Tryz.prog 147 7 38 52 := ⟨by kernel_rfl⟩
instance : Fld Tryz.prog 147 8 39 145 := ⟨by kernel_rfl⟩
instance : Fld Tryz.prog 147 9 40 3 := ⟨by kernel_rfl⟩
instance : Fld Tryz.prog 147 10 41 130 := ⟨by kernel_rfl⟩
instance : Fld Tryz.prog 147 11 42 22 := ⟨by kernel_rfl⟩
instance : TyStruct Tryz.prog 147 #[(0, 1), (1, 32), (33, 1), (34, 1), (35, 1), (36, 1), (37, 1), (38, 1), (39, 1), (40, 1), (41, 1), (42, 1)] := ⟨by kernel_rfl⟩
instance : TyAggr Tryz.prog 151 := ⟨by kernel_rfl⟩
instance : TyI Tryz.prog 151 3 24 (.agg #[.int .i64 0, .int .i64 0, .int .i64 0]) := ⟨by kernel_rfl, by kernel_rfl⟩
instance : TyStruct Tryz.prog 151 #[(0, 1), (1, 1), (2, 1)] := ⟨by kernel_rfl⟩
instance : TyAggr Tryz.prog 156 := ⟨by kernel_rfl⟩
instance : TyI Tryz.prog 156 12 12 (.agg #[.int .u8 0, .int .u8 0, .int .u8 0, .int .u8 0, .int .u8 0, .int .u8 0, .int .u8 0, .int .u8 0, .int .u8 0, .int .u8 0, .int .u8 0, .int .u8 0]) := ⟨by kernel_rfl, by kernel_rfl⟩
instance : TyArr Tryz.prog 156 12 5 := ⟨by kernel_rfl⟩
instance : TyAggr Tryz.prog 158 := ⟨by kernel_rfl⟩
instance : TyI Tryz.prog 158 15 40 (.agg #[.int .i64 0, .int .i64 0, .int .i64 0, .int .u8 0, .int .u8 0, .int .u8 0, .int .u8 0, .int .u8 0, .int .u8 0, .int .u8 0, .int .u8 0, .int .u8 0, .int .u8 0, .int .u8 0, .int .u8 0]) := ⟨by kernel_rfl, by kernel_rfl⟩
instance : Fld Tryz.prog 158 1 1 3 := ⟨by kernel_rfl⟩
instance : Fld Tryz.prog 158 2 2 3 := ⟨by kernel_rfl⟩
instance : Fld Tryz.prog 158 3 3 156 := ⟨by kernel_rfl⟩
instance : TyStruct Tryz.prog 158 #[(0, 1), (1, 1), (2, 1), (3, 12)] := ⟨by kernel_rfl⟩
instance : TyAggr Tryz.prog 160 := ⟨by kernel_rfl⟩
instance : TyI Tryz.prog 160 16 16 (.agg #[.int .u8 0, .int .u8 0, .int .u8 0, .int .u8 0, .int .u8 0, .int .u8 0, .int .u8 0, .int .u8 0, .int .u8 0, .int .u8 0, .int .u8 0, .int .u8 0, .int .u8 0, .int .u8 0, .int .u8 0, .int .u8 0]) := ⟨by kernel_rfl, by kernel_rfl⟩
instance : TyArr Tryz.prog 160 16 5 := ⟨by kernel_rfl⟩
instance : TyAggr Tryz.prog 161 := ⟨by kernel_rfl⟩
instance : TyI Tryz.prog 161 16 16 (.agg #[.int .u8 0, .int .u8 0, .int .u8 0, .int .u8 0, .int .u8 0, .int .u8 0, .int .u8 0, .int .u8 0, .int .u8 0, .int .u8 0, .int .u8 0, .int .u8 0, .int .u8 0, .int .u8 0, .int .u8 0, .int .u8 0]) := ⟨by kernel_rfl, by kernel_rfl⟩
instance : TyArr Tryz.prog 161 16 5 := ⟨by kernel_rfl⟩
instance : TyAggr Tryz.prog 163 := ⟨by kernel_rfl⟩
instance : TyI Tryz.prog 163 20 28 (.agg #[.int .u8 0, .int .u8 0, .int .u32 0, .int .u32 0, .int .u8 0, .int .u8 0, .int .u8 0, .int .u8 0, .int .u8 0, .int .u8 0, .int .u8 0, .int .u8 0, .int .u8 0, .int .u8 0, .int .u8 0, .int .u8 0, .int .u8 0, .int .u8 0, .int .u8 0, .int .u8 0]) := ⟨by kernel_rfl, by kernel_rfl⟩
instance : Fld Tryz.prog 163 0 0 5 := ⟨by kernel_rfl⟩
instance : Fld Tryz.prog 163 1 1 5 := ⟨by kernel_rfl⟩
instance : Fld Tryz.prog 163 2 2 130 := ⟨by kernel_rfl⟩
instance : Fld Tryz.prog 163 3 3 130 := ⟨by kernel_rfl⟩
instance : Fld Tryz.prog 163 4 4 161 := ⟨by kernel_rfl⟩
instance : TyStruct Tryz.prog 163 #[(0, 1), (1, 1), (2, 1), (3, 1), (4, 16)] := ⟨by kernel_rfl⟩
instance : TyAggr Tryz.prog 173 := ⟨by kernel_rfl⟩
instance : TyI Tryz.prog 173 2 16 (.agg #[.int .i64 0, .int .i64 0]) := ⟨by kernel_rfl, by kernel_rfl⟩
instance : Fld Tryz.prog 173 0 0 3 := ⟨by kernel_rfl⟩
instance : Fld Tryz.prog 173 1 1 3 := ⟨by kernel_rfl⟩
instance : TyStruct Tryz.prog 173 #[(0, 1), (1, 1)] := ⟨by kernel_rfl⟩
instance : TyI Tryz.prog 185 1 8 (.pointer none) := ⟨by kernel_rfl, by kernel_rfl⟩
instance : TyPtr Tryz.prog 185 187 := ⟨by kernel_rfl⟩
instance : TyI Tryz.prog 187 2 32 (.agg #[.slice none 0 0, .int .i64 0]) := ⟨by kernel_rfl, by kernel_rfl⟩
instance : Fld Tryz.prog 187 0 0 66 := ⟨by kernel_rfl⟩
instance : Fld Tryz.prog 187 1 1 3 := ⟨by kernel_rfl⟩
instance : TyStruct Tryz.prog 187 #[(0, 1), (1, 1)] := ⟨by kernel_rfl⟩
instance : TyAggr Tryz.prog 189 := ⟨by kernel_rfl⟩
instance : TyI Tryz.prog 189 4 24 (.agg #[.int .u64 0, .int .u32 0, .int .u32 0, .int .u32 0]) := ⟨by kernel_rfl, by kernel_rfl⟩
instance : Fld Tryz.prog 189 0 0 43 := ⟨by kernel_rfl⟩
instance : Fld Tryz.prog 189 1 1 130 := ⟨by kernel_rfl⟩
instance : Fld Tryz.prog 189 2 2 130 := ⟨by kernel_rfl⟩
instance : Fld Tryz.prog 189 3 3 130 := ⟨by kernel_rfl⟩
instance : TyStruct Tryz.prog 189 #[(0, 1), (1, 1), (2, 1), (3, 1)] := ⟨by kernel_rfl⟩
instance : TyInt Tryz.prog 196 .u64 := ⟨by kernel_rfl⟩
instance : TyPtr Tryz.prog 245 265 := ⟨by kernel_rfl⟩
instance : TyI Tryz.prog 265 2 32 (.agg #[.slice none 0 0, .int .i64 0]) := ⟨by kernel_rfl, by kernel_rfl⟩
instance : Fld Tryz.prog 265 0 0 66 := ⟨by kernel_rfl⟩
instance : Fld Tryz.prog 265 1 1 22 := ⟨by kernel_rfl⟩
instance : TyStruct Tryz.prog 265 #[(0, 1), (1, 1)] := ⟨by kernel_rfl⟩
instance : TyAggr Tryz.prog 266 := ⟨by kernel_rfl⟩
instance : TyI Tryz.prog 266 16 16 (.agg #[.int .u8 0, .int .u8 0, .int .u8 0, .int .u8 0, .int .u8 0, .int .u8 0, .int .u8 0, .int .u8 0, .int .u8 0, .int .u8 0, .int .u8 0, .int .u8 0, .int .u8 0, .int .u8 0, .int .u8 0, .int .u8 0]) := ⟨by kernel_rfl, by kernel_rfl⟩
instance : TyArr Tryz.prog 266 16 5 := ⟨by kernel_rfl⟩
instance : TyAggr Tryz.prog 285 := ⟨by kernel_rfl⟩
instance : TyI Tryz.prog 285 64 64 (.agg #[.int .u8 0, .int .u8 0, .int .u8 0, .int .u8 0, .int .u8 0, .int .u8 0, .int .u8 0, .int .u8 0, .int .u8 0, .int .u8 0, .int .u8 0, .int .u8 0, .int .u8 0, .int .u8 0, .int .u8 0, .int .u8 0, .int .u8 0, .int .u8 0, .int .u8 0, .int .u8 0, .int .u8 0, .int .u8 0, .int .u8 0, .int .u8 0, .int .u8 0, .int .u8 0, .int .u8 0, .int .u8 0, .int .u8 0, .int .u8 0, .int .u8 0, .int .u8 0, .int .u8 0, .int .u8 0, .int .u8 0, .int .u8 0, .int .u8 0, .int .u8 0, .int .u8 0, .int .u8 0, .int .u8 0, .int .u8 0, .int .u8 0, .int .u8 0, .int .u8 0, .int .u8 0, .int .u8 0, .int .u8 0, .int .u8 0, .int .u8 0, .int .u8 0, .int .u8 0, .int .u8 0, .int .u8 0, .int .u8 0, .int .u8 0, .int .u8 0, .int .u8 0, .int .u8 0, .int .u8 0, .int .u8 0, .int .u8 0, .int .u8 0, .int .u8 0]) := ⟨by kernel_rfl, by kernel_rfl⟩
instance : TyArr Tryz.prog 285 64 5 := ⟨by kernel_rfl⟩
instance : TyPtr Tryz.prog 287 320 := ⟨by kernel_rfl⟩
instance : TyPtr Tryz.prog 292 327 := ⟨by kernel_rfl⟩
instance : TyAggr Tryz.prog 314 := ⟨by kernel_rfl⟩
instance : TyI Tryz.prog 314 16 64 (.agg #[.int .u32 0, .int .u32 0, .int .u32 0, .int .u32 0, .int .u32 0, .int .u32 0, .int .u32 0, .int .u32 0, .int .u32 0, .int .u32 0, .int .u32 0, .int .u32 0, .int .u32 0, .int .u32 0, .int .u32 0, .int .u32 0]) := ⟨by kernel_rfl, by kernel_rfl⟩
instance : TyArr Tryz.prog 314 16 130 := ⟨by kernel_rfl⟩
instance : TyAggr Tryz.prog 317 := ⟨by kernel_rfl⟩
instance : TyI Tryz.prog 317 2 16 (.agg #[.int .u64 0, .int .u64 0]) := ⟨by kernel_rfl, by kernel_rfl⟩
instance : TyArr Tryz.prog 317 2 43 := ⟨by kernel_rfl⟩
instance : TyAggr Tryz.prog 318 := ⟨by kernel_rfl⟩
instance : TyI Tryz.prog 318 3 24 (.agg #[.int .u64 0, .int .u64 0, .int .u64 0]) := ⟨by kernel_rfl, by kernel_rfl⟩
instance : TyArr Tryz.prog 318 3 43 := ⟨by kernel_rfl⟩
instance : TyAggr Tryz.prog 320 := ⟨by kernel_rfl⟩
instance : TyI Tryz.prog 320 24 80 (.agg #[.int .u64 0, .int .u64 0, .int .u64 0, .int .u64 0, .int .u64 0, .int .u64 0, .int .u64 0, .int .u8 0, .int .u8 0, .int .u8 0, .int .u8 0, .int .u8 0, .int .u8 0, .int .u8 0, .int .u8 0, .int .u8 0, .int .u8 0, .int .u8 0, .int .u8 0, .int .u8 0, .int .u8 0, .int .u8 0, .int .u8 0, .int .i64 0]) := ⟨by kernel_rfl, by kernel_rfl⟩
instance : Fld Tryz.prog 320 0 0 317 := ⟨by kernel_rfl⟩
instance : Fld Tryz.prog 320 1 2 317 := ⟨by kernel_rfl⟩
instance : Fld Tryz.prog 320 2 4 318 := ⟨by kernel_rfl⟩
instance : Fld Tryz.prog 320 3 7 160 := ⟨by kernel_rfl⟩
instance : Fld Tryz.prog 320 4 23 3 := ⟨by kernel_rfl⟩
instance : TyStruct Tryz.prog 320 #[(0, 2), (2, 2), (4, 3), (7, 16), (23, 1)] := ⟨by kernel_rfl⟩
instance : TyAggr Tryz.prog 322 := ⟨by kernel_rfl⟩
instance : TyI Tryz.prog 322 8 8 (.agg #[.int .u8 0, .int .u8 0, .int .u8 0, .int .u8 0, .int .u8 0, .int .u8 0, .int .u8 0, .int .u8 0]) := ⟨by kernel_rfl, by kernel_rfl⟩
instance : TyArr Tryz.prog 322 8 5 := ⟨by kernel_rfl⟩
instance : TyI Tryz.prog 327 45 56 (.agg #[.int .u8 0, .int .u8 0, .int .u8 0, .int .u8 0, .int .u8 0, .int .u8 0, .int .u8 0, .int .u8 0, .int .u8 0, .int .u8 0, .int .u8 0, .int .u8 0, .int .u8 0, .int .u8 0, .int .u8 0, .int .u8 0, .int .u8 0, .int .u8 0, .int .u8 0, .int .u8 0, .int .u8 0, .int .u8 0, .int .u8 0, .int .u8 0, .int .u8 0, .int .u8 0, .int .u8 0, .int .u8 0, .int .u8 0, .int .u8 0, .int .u8 0, .int .u8 0, .int .u8 0, .int .u8 0, .int .u8 0, .int .u8 0, .int .u8 0, .int .u8 0, .int .u8 0, .int .u8 0, .int .u8 0, .int .u8 0, .int .u8 0, .int .u8 0, .int .u64 0]) := ⟨by kernel_rfl, by kernel_rfl⟩
instance : Fld Tryz.prog 327 0 0 42 := ⟨by kernel_rfl⟩
instance : Fld Tryz.prog 327 1 32 156 := ⟨by kernel_rfl⟩
instance : Fld Tryz.prog 327 2 44 43 := ⟨by kernel_rfl⟩
instance : TyStruct Tryz.prog 327 #[(0, 32), (32, 12), (44, 1)] := ⟨by kernel_rfl⟩
instance : TyAggr Tryz.prog 348 := ⟨by kernel_rfl⟩
instance : TyI Tryz.prog 348 2 16 (.agg #[.int .u64 0, .int .u64 0]) := ⟨by kernel_rfl, by kernel_rfl⟩
instance : Fld Tryz.prog 348 0 0 43 := ⟨by kernel_rfl⟩
instance : Fld Tryz.prog 348 1 1 43 := ⟨by kernel_rfl⟩
instance : TyStruct Tryz.prog 348 #[(0, 1), (1, 1)] := ⟨by kernel_rfl⟩
end Go.Sl
namespace Go.Sl
open Go Go.Proofs
attribute [local irreducible] pt old pur ex all den denOps denS xOps xC cX CX xthen xblk xcut xloop xng retX resX Calls PV Rd Con
def carry (x y c : BitVec 64) : BitVec 64 := BitVec.ofNat 64 ((x.toNat + y.toNat + c.toNat) / 18446744073709551616)
def borrow (x y c : BitVec 64) : BitVec 64 := if x.toNat < y.toNat + c.toNat then 1#64 else 0#64
theorem ext_add64 (x y c : BitVec 64) (hc : c.toNat ≤ 1) : extv Tryz.prog 247 [u64b x, u64b y, u64b c] (.tuple #[u64b (x + y + c), u64b (carry x y c)]) := by
  intro w
  show (callFunc _ #[u64b x, u64b y, u64b c]).run _ w = _
  rw [run_callFunc_extern Tryz.func247 (by kernel_rfl) (by kernel_rfl) (by kernel_rfl) (e := add64Entry) (by kernel_rfl), run_add64 _ _ _ (by omega) (by omega) (by omega) (by omega)]
  simp only [Result.andThen]
  have hx := x.isLt; have hy := y.isLt; have hz := c.isLt
  have e1 : ((x + y + c).toNat : Int) = (x.toNat + y.toNat + c.toNat) % 18446744073709551616 := by simp only [BitVec.toNat_add]; omega
  have e2 : ((carry x y c).toNat : Int) = (x.toNat + y.toNat + c.toNat) / 18446744073709551616 := by simp only [carry, BitVec.toNat_ofNat]; omega
  rw [← e1, ← e2]
def sub64E : Array Value → Sem Value := fun args => do
  let (x, y, b) ← Extern.MathBitsCarry.three "Sub64" args
  pure (Extern.MathBitsCarry.pair ((x + Extern.MathBitsCarry.m64 - y - b) % Extern.MathBitsCarry.m64) (if x < y + b then 1 else 0))
theorem run_sub64E {P : Program} (x y b : Nat) (hb : b ≤ 1) (w : World) :
    (sub64E #[.int .u64 x, .int .u64 y, .int .u64 b]).run P w =
      .ok (.tuple #[.int .u64 (((x + 18446744073709551616 - y - b) % 18446744073709551616 : Nat) : Int), .int .u64 ((if x < y + b then 1 else 0 : Nat) : Int)]) w := by
  have : b = 0 ∨ b = 1 := by omega
  rcases this with rfl|rfl <;> rfl
theorem ext_sub64 (x y c : BitVec 64) (hc : c.toNat ≤ 1) : extv Tryz.prog 246 [u64b x, u64b y, u64b c] (.tuple #[u64b (x - y - c), u64b (borrow x y c)]) := by
  intro w
  show (callFunc _ #[u64b x, u64b y, u64b c]).run _ w = _
  rw [run_callFunc_extern Tryz.func246 (by kernel_rfl) (by kernel_rfl) (by kernel_rfl) (e := sub64E) (by kernel_rfl), run_sub64E _ _ _ hc]
  simp only [Result.andThen]
  have hx := x.isLt; have hy := y.isLt; have hz := c.isLt
  have e1 : (x - y - c).toNat = (x.toNat + 18446744073709551616 - y.toNat - c.toNat) % 18446744073709551616 := by simp only [BitVec.toNat_sub]; omega
  have e2 : (borrow x y c).toNat = if x.toNat < y.toNat + c.toNat then 1 else 0 := by unfold borrow; split <;> rfl
  rw [← e1, ← e2]
def wordB (b : List (BitVec 8)) : BitVec 64 := b.foldr (fun x a => a <<< 8 ||| x.setWidth 64) 0#64
theorem word_c (b : List (BitVec 8)) (hb : b.length = 8) : Con Tryz.prog 244 [.agg (b.map u8b).toArray] [] (fun v M => v = u64b (wordB b) ∧ M = []) := by
  refine fn_y Tryz.func244 Tryz.mixed ?_
  intro w0
  refine Y1 ?_
  refine Zh5 rfl ?_; intro b1
  refine V8 ?_
  refine Zgo [(3, 15)] (by kernel_rfl) (fun i : Nat => i ≤ 8) (fun _ => [cl b1 (b.map u8b).toArray 322]) (fun i => [(3, u64b (wordB (b.drop i))), (4, .int .i64 ((i : Int) - 1))]) (fun i => i) 8 (by omega) qI ⟨by rw [List.drop_of_length_le (by omega)]; rfl, rfl, trivial⟩ ?_
  intro i u hi
  refine V4 ?_
  refine Zgg rfl (fun hB => ?_) (fun hB => ?_)
  · obtain ⟨k, rfl⟩ : ∃ k, i = k + 1 := ⟨i - 1, by omega⟩
    refine Y2 ?_
    refine Zhg (Zlj (m := 8) rfl rfl) ?_
    refine Y1 ?_
    first|refine Zhg (Zl5 (n := k) rfl (int_eq (by push_cast; omega))) ?_|refine Zhg (Zl3 (n := k) rfl (int_eq (by push_cast; omega))) ?_
    refine Zhp rfl qH (getL (by omega)) ?_
    refine Zhg (Zjx rfl) ?_
    refine V8 ?_
    refine Zgl k qO qO qI ⟨?_, ?_, trivial⟩
    · rw [List.drop_eq_getElem_cons (show k < b.length by omega)]; rfl
    · show Value.int _ _ = _; congr 1; omega
  · have : i = 0 := by omega
    subst this
    refine V4 ?_
    refine rx1 (Zg9 rfl (Zg7)) ?_
    exact ⟨_, ⟨rfl, rfl⟩, by exact Imp.arr (by repeat (first|exact Arr.nil|exact Arr.stop|refine Arr.cons (by repeat constructor) ?_|refine Arr.skip ?_))⟩
theorem carry_le (x y c : BitVec 64) (hc : c.toNat ≤ 1) : (carry x y c).toNat ≤ 1 := by
  have hx := x.isLt; have hy := y.isLt
  simp only [carry, BitVec.toNat_ofNat]; omega
theorem borrow_le (x y c : BitVec 64) : (borrow x y c).toNat ≤ 1 := by
  unfold borrow; split <;> simp
def mulHi (x y : BitVec 64) : BitVec 64 := BitVec.ofNat 64 (x.toNat * y.toNat / 18446744073709551616)
theorem mulHi_eq (x y : BitVec 64) : (x >>> 32) * (y >>> 32) + (((x >>> 32) * (y &&& 4294967295#64) + ((x &&& 4294967295#64) * (y &&& 4294967295#64)) >>> 32) >>> 32) +
    ((((x >>> 32) * (y &&& 4294967295#64) + ((x &&& 4294967295#64) * (y &&& 4294967295#64)) >>> 32) &&& 4294967295#64) + (x &&& 4294967295#64) * (y >>> 32)) >>> 32 = mulHi x y := by
  have hx := x.isLt; have hy := y.isLt
  obtain ⟨h1, h2, h3, h4⟩ := Lib.mul64_hi x.toNat y.toNat hx hy
  have m : ∀ a : BitVec 64, (a &&& 4294967295#64).toNat = a.toNat % 4294967296 := fun a => by
    rw [BitVec.toNat_and]; exact Nat.and_two_pow_sub_one_eq_mod a.toNat 32
  have s : ∀ a : BitVec 64, (a >>> 32).toNat = a.toNat / 4294967296 := fun a => by
    rw [BitVec.toNat_ushiftRight, Nat.shiftRight_eq_div_pow]
  have ha := Lib.half_mul_le (a := x.toNat / 4294967296) (b := y.toNat / 4294967296) (by omega) (by omega)
  have hb := Lib.half_mul_le (a := x.toNat / 4294967296) (b := y.toNat % 4294967296) (by omega) (by omega)
  have hc := Lib.half_mul_le (a := x.toNat % 4294967296) (b := y.toNat / 4294967296) (by omega) (by omega)
  have hd := Lib.half_mul_le (a := x.toNat % 4294967296) (b := y.toNat % 4294967296) (by omega) (by omega)
  apply BitVec.eq_of_toNat_eq
  simp only [BitVec.toNat_add, BitVec.toNat_mul, m, s, mulHi, BitVec.toNat_ofNat]
  rw [← h4]
  generalize x.toNat / 4294967296 * (y.toNat / 4294967296) = a at *
  generalize x.toNat / 4294967296 * (y.toNat % 4294967296) = b at *
  generalize x.toNat % 4294967296 * (y.toNat / 4294967296) = c at *
  generalize x.toNat % 4294967296 * (y.toNat % 4294967296) = d at *
  omega
theorem mul64_c (x y : BitVec 64) : Con Tryz.prog 272 [u64b x, u64b y] [] (fun v M => v = .tuple #[u64b (mulHi x y), u64b (x * y)] ∧ M = []) := by
  refine fn_y Tryz.func272 Tryz.mixed ?_
  intro w0
  refine Y6 ?_
  refine Zhg (Zlf (y := 4294967295#64) rfl rfl) ?_
  refine Y4 ?_
  refine Zhg (Zlk (m := 32) rfl rfl) ?_
  refine Y4 ?_
  refine Zhg (Zlf (y := 4294967295#64) rfl rfl) ?_
  refine Y4 ?_
  refine Zhg (Zlk (m := 32) rfl rfl) ?_
  refine Y5 ?_
  refine Zhg (Zle rfl rfl) ?_
  refine Y5 ?_
  refine Zhg (Zle rfl rfl) ?_
  refine Y1 ?_
  refine Zhg (Zlk (m := 32) rfl rfl) ?_
  refine Y5 ?_
  refine Zhg (Zlf (y := 4294967295#64) rfl rfl) ?_
  refine Y4 ?_
  refine Zhg (Zlk (m := 32) rfl rfl) ?_
  refine Y6 ?_
  refine Zhg (Zle rfl rfl) ?_
  refine Y6 ?_
  refine Zhg (Zle rfl rfl) ?_
  refine Y3 ?_
  refine Zhg (Zlk (m := 32) rfl rfl) ?_
  refine Y6 ?_
  refine Zhg (Zle rfl rfl) ?_
  refine V2 ?_
  rw [mulHi_eq]
  refine rx2 (Zg9 rfl (Zg9 rfl (Zg7))) ?_
  exact ⟨_, ⟨rfl, rfl⟩, by exact Imp.arr (by repeat (first|exact Arr.nil|exact Arr.stop|refine Arr.cons (by repeat constructor) ?_|refine Arr.skip ?_))⟩
abbrev W128 := BitVec 64 × BitVec 64
abbrev W192 := BitVec 64 × BitVec 64 × BitVec 64
def wA (x : W128) : Array Value := #[u64b x.1, u64b x.2]
def hA (x : W192) : Array Value := #[u64b x.1, u64b x.2.1, u64b x.2.2]
def mulW (x y : BitVec 64) : W128 := (x * y, mulHi x y)
theorem mul_c (x y : BitVec 64) : Con Tryz.prog 268 [u64b x, u64b y] [] (fun v M => v = .agg (wA (mulW x y)) ∧ M = []) := by
  refine fn_y Tryz.func268 Tryz.mixed ?_
  intro w0
  refine Y1 ?_
  refine Zhz (cs := #[u64b 0#64, u64b 0#64]) rfl ?_; intro b4
  refine Y4 ?_
  refine Zor (c := mul64_c _ _) (k := ?_)
  rintro _ _ ⟨rfl, rfl⟩
  refine Y10 ?_
  refine Zhg (Zdm (cs := #[.int .u64 _, .int .u64 _]) rfl) ?_
  first|refine Zhy rfl rfl qR qZ qN qZ ?_|refine Zhx rfl rfl qR qZ qN qZ rfl ?_
  refine V1 ?_
  refine rx1 (Zhe rfl qH qZ (Zg7)) ?_
  exact ⟨_, ⟨rfl, rfl⟩, by exact Imp.arr (by repeat (first|exact Arr.nil|exact Arr.stop|refine Arr.cons (by repeat constructor) ?_|refine Arr.skip ?_))⟩
def addW (x y : W128) : W128 := (x.1 + y.1 + 0#64, x.2 + y.2 + carry x.1 y.1 0#64)
theorem add_c (x y : W128) : Con Tryz.prog 269 [.agg (wA x), .agg (wA y)] [] (fun v M => v = .agg (wA (addW x y)) ∧ M = []) := by
  refine fn_y Tryz.func269 Tryz.mixed ?_
  intro w0
  refine Y1 ?_
  refine Zh5 rfl ?_; intro b2
  refine Zh5 rfl ?_; intro b3
  refine Zhz (cs := #[u64b 0#64, u64b 0#64]) rfl ?_; intro b4
  refine Y6 ?_
  refine Zhg (Zh9 rfl (ext_add64 _ _ 0#64 (by decide)) rfl) ?_
  refine Y12 ?_
  refine Zhg (Zh9 rfl (ext_add64 _ _ _ (carry_le _ _ _ (by decide))) rfl) ?_
  refine Y9 ?_
  refine Zhg (Zdm (cs := #[.int .u64 _, .int .u64 _]) rfl) ?_
  first|refine Zhy rfl rfl qR qZ qN qZ ?_|refine Zhx rfl rfl qR qZ qN qZ rfl ?_
  refine V1 ?_
  refine rx1 (Zhe rfl qH qZ (Zg7)) ?_
  exact ⟨_, ⟨rfl, rfl⟩, by exact Imp.arr (by repeat (first|exact Arr.nil|exact Arr.stop|refine Arr.cons (by repeat constructor) ?_|refine Arr.skip ?_))⟩
def plusW (h : W192) (x : W128) : W192 := (h.1 + x.1 + 0#64, h.2.1 + x.2 + carry h.1 x.1 0#64, h.2.2 + carry h.2.1 x.2 (carry h.1 x.1 0#64))
theorem plus_c (h : W192) (x : W128) : Con Tryz.prog 270 [.agg (hA h), .agg (wA x)] [] (fun v M => v = .agg (hA (plusW h x)) ∧ M = []) := by
  refine fn_y Tryz.func270 Tryz.mixed ?_
  intro w0
  refine Y1 ?_
  refine Zh5 rfl ?_; intro b2
  refine Zh5 rfl ?_; intro b3
  refine Zhz (cs := #[u64b 0#64, u64b 0#64, u64b 0#64]) rfl ?_; intro b4
  refine Y5 ?_
  first|refine Zhg (Zl5 (n := 0) rfl rfl) ?_|refine Zhg (Zl3 (n := 0) rfl rfl) ?_
  refine Y3 ?_
  refine Zhg (Zh9 rfl (ext_add64 _ _ 0#64 (by decide)) rfl) ?_
  refine Y3 ?_
  first|refine Zhg (Zl5 (n := 0) rfl rfl) ?_|refine Zhg (Zl3 (n := 0) rfl rfl) ?_
  refine Y4 ?_
  first|refine Zhg (Zl5 (n := 1) rfl rfl) ?_|refine Zhg (Zl3 (n := 1) rfl rfl) ?_
  refine Y4 ?_
  refine Zhg (Zh9 rfl (ext_add64 _ _ _ (carry_le _ _ _ (by decide))) rfl) ?_
  refine Y3 ?_
  first|refine Zhg (Zl5 (n := 1) rfl rfl) ?_|refine Zhg (Zl3 (n := 1) rfl rfl) ?_
  refine Y4 ?_
  first|refine Zhg (Zl5 (n := 2) rfl rfl) ?_|refine Zhg (Zl3 (n := 2) rfl rfl) ?_
  refine Y3 ?_
  first|refine Zhg (Zl5 (n := 2) rfl rfl) ?_|refine Zhg (Zl3 (n := 2) rfl rfl) ?_
  refine Y4 ?_
  first|refine Zhy rfl rfl qR qZ qN qZ ?_|refine Zhx rfl rfl qR qZ qN qZ rfl ?_
  refine V1 ?_
  refine rx1 (Zhe rfl qH qZ (Zg7)) ?_
  exact ⟨_, ⟨rfl, rfl⟩, by exact Imp.arr (by repeat (first|exact Arr.nil|exact Arr.stop|refine Arr.cons (by repeat constructor) ?_|refine Arr.skip ?_))⟩
def timesW (h : W192) (r : W128) : W192 :=
  let m0 := mulW h.1 r.1
  let m1 := addW (mulW h.2.1 r.1) (mulW h.1 r.2)
  let m2 := addW (mulW h.2.2 r.1) (mulW h.2.1 r.2)
  let m3 := mulW h.2.2 r.2
  let t1 := m1.1 + m0.2 + 0#64
  let c1 := carry m1.1 m0.2 0#64
  let t2 := m2.1 + m1.2 + c1
  let c2 := carry m2.1 m1.2 c1
  let t3 := m3.1 + m2.2 + c2
  let f : W128 := (t2 &&& ~~~ 3#64, t3)
  plusW (plusW (m0.1, t1, t2 &&& 3#64) f) (f.1 >>> 2 ||| f.2 <<< 62, f.2 >>> 2)
theorem times_c (h : W192) (r : W128) : Con Tryz.prog 261 [.agg (hA h), .agg (wA r)] [] (fun v M => v = .agg (hA (timesW h r)) ∧ M = []) := by
  refine fn_y Tryz.func261 Tryz.mixed ?_
  intro w0
  refine Y1 ?_
  refine Zh5 rfl ?_; intro b2
  refine Zh5 rfl ?_; intro b3
  refine Zhz (cs := #[u64b 0#64, u64b 0#64, u64b 0#64]) rfl ?_; intro b4
  refine Y2 ?_
  first|refine Zhg (Zl5 (n := 0) rfl rfl) ?_|refine Zhg (Zl3 (n := 0) rfl rfl) ?_
  refine Y1 ?_
  first|refine Zhg (Zl5 (n := 0) rfl rfl) ?_|refine Zhg (Zl3 (n := 0) rfl rfl) ?_
  refine Y1 ?_
  refine Zor (c := mul_c _ _) (k := ?_)
  rintro _ _ ⟨rfl, rfl⟩
  refine Y1 ?_
  refine Zhz (cs := #[u64b 0#64, u64b 0#64]) rfl ?_; intro b5
  first|refine Zhy rfl rfl qR qZ qN qZ ?_|refine Zhx rfl rfl qR qZ qN qZ rfl ?_
  refine V1 ?_
  refine Zij (_) [3, 4, 6, 8, 9, 10, 11] (.q 0 (.q 2 (.q 5 (.q 7 (.r 1 (.r 3 (.r 6 (.r 8 (.e 4 true (.e 9 true (.e 10 true (.a 11 (.e 12 false .nil))))))))))))) (by kernel_rfl) (by kernel_rfl) (Imp.refl _) ?_
  first|refine Zim rfl (Zl5 (n := 1) rfl rfl) ?_|refine Zim rfl (Zl3 (n := 1) rfl rfl) ?_
  first|refine Zim rfl (Zl5 (n := 0) rfl rfl) ?_|refine Zim rfl (Zl3 (n := 0) rfl rfl) ?_
  first|refine Zim rfl (Zl5 (n := 0) rfl rfl) ?_|refine Zim rfl (Zl3 (n := 0) rfl rfl) ?_
  first|refine Zim rfl (Zl5 (n := 1) rfl rfl) ?_|refine Zim rfl (Zl3 (n := 1) rfl rfl) ?_
  refine W4 ?_
  refine Ziq rfl ?_
  refine Zor (c := mul_c _ _) (k := ?_)
  rintro _ _ ⟨rfl, rfl⟩
  refine Y1 ?_
  refine Zg3 ⟨fun _ => Imp.arr qV, ?_⟩
  refine Ziq rfl ?_
  refine Zor (c := mul_c _ _) (k := ?_)
  rintro _ _ ⟨rfl, rfl⟩
  refine Y1 ?_
  refine Zg3 ⟨fun _ => Imp.arr qV, ?_⟩
  refine Ziq rfl ?_
  refine Zor (c := add_c _ _) (k := ?_)
  rintro _ _ ⟨rfl, rfl⟩
  refine Y1 ?_
  refine Zg3 ⟨fun _ => Imp.arr qV, ?_⟩
  refine Zir rfl (cs := #[u64b 0#64, u64b 0#64]) rfl ?_; intro b6
  refine Ziq rfl ?_
  first|refine Zhy rfl rfl qR qZ qN qZ ?_|refine Zhx rfl rfl qR qZ qN qZ rfl ?_
  refine Zg3 ⟨(fun hh => Bool.noConfusion hh), ?_⟩
  refine Zik ?_
  refine Ct.o ?_
  refine Zij (_) [3, 4, 6, 8, 9, 10, 11] (.q 0 (.q 2 (.q 5 (.q 7 (.r 1 (.r 3 (.r 6 (.r 8 (.e 4 true (.e 9 true (.e 10 true (.a 11 (.e 12 false .nil))))))))))))) (by kernel_rfl) (by kernel_rfl) (Imp.refl _) ?_
  first|refine Zim rfl (Zl5 (n := 2) rfl rfl) ?_|refine Zim rfl (Zl3 (n := 2) rfl rfl) ?_
  first|refine Zim rfl (Zl5 (n := 0) rfl rfl) ?_|refine Zim rfl (Zl3 (n := 0) rfl rfl) ?_
  first|refine Zim rfl (Zl5 (n := 1) rfl rfl) ?_|refine Zim rfl (Zl3 (n := 1) rfl rfl) ?_
  first|refine Zim rfl (Zl5 (n := 1) rfl rfl) ?_|refine Zim rfl (Zl3 (n := 1) rfl rfl) ?_
  refine W4 ?_
  refine Ziq rfl ?_
  refine Zor (c := mul_c _ _) (k := ?_)
  rintro _ _ ⟨rfl, rfl⟩
  refine Y1 ?_
  refine Zg3 ⟨fun _ => Imp.arr qV, ?_⟩
  refine Ziq rfl ?_
  refine Zor (c := mul_c _ _) (k := ?_)
  rintro _ _ ⟨rfl, rfl⟩
  refine Y1 ?_
  refine Zg3 ⟨fun _ => Imp.arr qV, ?_⟩
  refine Ziq rfl ?_
  refine Zor (c := add_c _ _) (k := ?_)
  rintro _ _ ⟨rfl, rfl⟩
  refine Y1 ?_
  refine Zg3 ⟨fun _ => Imp.arr qV, ?_⟩
  refine Zir rfl (cs := #[u64b 0#64, u64b 0#64]) rfl ?_; intro b7
  refine Ziq rfl ?_
  first|refine Zhy rfl rfl qR qZ qN qZ ?_|refine Zhx rfl rfl qR qZ qN qZ rfl ?_
  refine Zg3 ⟨(fun hh => Bool.noConfusion hh), ?_⟩
  refine Zik ?_
  refine Y1 ?_
  first|refine Zhg (Zl5 (n := 2) rfl rfl) ?_|refine Zhg (Zl3 (n := 2) rfl rfl) ?_
  refine Y1 ?_
  first|refine Zhg (Zl5 (n := 1) rfl rfl) ?_|refine Zhg (Zl3 (n := 1) rfl rfl) ?_
  refine Y1 ?_
  refine Zor (c := mul_c _ _) (k := ?_)
  rintro _ _ ⟨rfl, rfl⟩
  refine Y1 ?_
  refine Zhz (cs := #[u64b 0#64, u64b 0#64]) rfl ?_; intro b8
  first|refine Zhy rfl rfl qR qZ qN qZ ?_|refine Zhx rfl rfl qR qZ qN qZ rfl ?_
  refine Y11 ?_
  refine Zhg (Zh9 rfl (ext_add64 _ _ 0#64 (by decide)) rfl) ?_
  refine Y12 ?_
  refine Zhg (Zh9 rfl (ext_add64 _ _ _ (carry_le _ _ _ (by decide))) rfl) ?_
  refine Y12 ?_
  refine Zhg (Zh9 rfl (ext_add64 _ _ _ (carry_le _ _ _ (carry_le _ _ _ (by decide)))) rfl) ?_
  refine Y10 ?_
  refine Zhg (Zlf (y := 3#64) rfl rfl) ?_
  refine Zhg (Zdn (cs := #[.int .u64 _, .int .u64 _, .int .u64 _]) rfl) ?_
  refine Zhz (cs := #[u64b 0#64, u64b 0#64, u64b 0#64]) rfl ?_; intro b15
  first|refine Zhy rfl rfl qR qZ qN qZ ?_|refine Zhx rfl rfl qR qZ qN qZ rfl ?_
  refine Y3 ?_
  refine Zhg (Zli (y := 3#64) rfl rfl) ?_
  refine Y1 ?_
  refine Zhg (Zdm (cs := #[.int .u64 _, .int .u64 _]) rfl) ?_
  refine Zhz (cs := #[u64b 0#64, u64b 0#64]) rfl ?_; intro b16
  first|refine Zhy rfl rfl qR qZ qN qZ ?_|refine Zhx rfl rfl qR qZ qN qZ rfl ?_
  refine Y4 ?_
  refine Zor (c := plus_c (_, _, _) (_, _)) (k := ?_)
  rintro _ _ ⟨rfl, rfl⟩
  refine Y1 ?_
  first|refine Zhy rfl rfl qR qZ qN qZ ?_|refine Zhx rfl rfl qR qZ qN qZ rfl ?_
  refine Y5 ?_
  refine Zhg (Zlk (m := 2) rfl rfl) ?_
  refine Y2 ?_
  refine Zhg (Zlj (m := 62) rfl rfl) ?_
  refine Y3 ?_
  refine Zhg (Zlk (m := 2) rfl rfl) ?_
  refine Zhg (Zdm (cs := #[.int .u64 _, .int .u64 _]) rfl) ?_
  refine Zor (c := plus_c _ (_, _)) (k := ?_)
  rintro _ _ ⟨rfl, rfl⟩
  refine Y1 ?_
  first|refine Zhy rfl rfl qR qZ qN qZ ?_|refine Zhx rfl rfl qR qZ qN qZ rfl ?_
  refine V1 ?_
  refine rx1 (Zhe rfl qH qZ (Zg7)) ?_
  exact ⟨_, ⟨rfl, rfl⟩, by exact Imp.arr (by repeat (first|exact Arr.nil|exact Arr.stop|refine Arr.cons (by repeat constructor) ?_|refine Arr.skip ?_))⟩
end Go.Sl
namespace Go.Sl
open Go
structure PolyS where
  r : W128
  s : W128
  h : W192
  rest : List Byte
  used : Nat
def setU (t : PolyS) (n : Nat) : PolyS := ⟨t.r, t.s, t.h, t.rest, n⟩
def setH (t : PolyS) (h : W192) : PolyS := ⟨t.r, t.s, h, t.rest, t.used⟩
def pc (t : PolyS) : Array Value :=
  (u64b t.r.1 :: u64b t.r.2 :: u64b t.s.1 :: u64b t.s.2 :: u64b t.h.1 :: u64b t.h.2.1 :: u64b t.h.2.2 :: (t.rest.map u8b ++ [.int .i64 t.used])).toArray
def takeW (h : W192) (r : W128) (b : List Byte) (top : BitVec 64) : W192 :=
  let c0 := carry h.1 (wordB (b.take 8)) 0#64
  timesW (h.1 + wordB (b.take 8) + 0#64, h.2.1 + wordB (b.drop 8) + c0, h.2.2 + (carry h.2.1 (wordB (b.drop 8)) c0 + top)) r
def newS (key : List Byte) : PolyS :=
  ⟨(wordB (key.take 8) &&& 1152921487695413247#64, wordB ((key.drop 8).take 8) &&& 1152921487695413244#64), (wordB ((key.drop 16).take 8), wordB (key.drop 24)), (0#64, 0#64, 0#64), List.replicate 16 0#8, 0⟩
def push (t : PolyS) (x : Byte) : PolyS :=
  if t.used + 1 = 16 then { t with h := takeW t.h t.r (t.rest.set t.used x) 1#64, rest := t.rest.set t.used x, used := 0 }
  else { t with rest := t.rest.set t.used x, used := t.used + 1 }
def writeS (t : PolyS) (b : List Byte) : PolyS := b.foldl push t
structure PolyOk (t : PolyS) : Prop where
  rest : t.rest.length = 16
  used : t.used < 16
theorem newS_ok (key : List Byte) : PolyOk (newS key) := ⟨by simp [newS], by simp [newS]⟩
theorem push_ok {t : PolyS} (h : PolyOk t) (x : Byte) : PolyOk (push t x) := by
  have hu := h.used
  unfold push
  split
  · exact ⟨by simp [h.rest], by simp⟩
  · exact ⟨by simp [h.rest], by show t.used + 1 < 16; omega⟩
theorem writeS_ok {b : List Byte} : ∀ {t : PolyS}, PolyOk t → PolyOk (writeS t b) := by
  induction b with
  | nil => exact fun h => h
  | cons x b ih => exact fun h => ih (push_ok h x)
theorem writeS_nil (t : PolyS) : writeS t [] = t := rfl
theorem writeS_zero (t : PolyS) (b : List Byte) : writeS t (b.take 0) = t := rfl
theorem writeS_append (t : PolyS) (a b : List Byte) : writeS t (a ++ b) = writeS (writeS t a) b := by simp [writeS, List.foldl_append]
def put1 (t : PolyS) (x : List Byte) : PolyS := { t with rest := t.rest.take t.used ++ x ++ t.rest.drop (t.used + x.length), used := t.used + x.length }
def full (t : PolyS) : PolyS := if t.used = 16 then setU (setH t (takeW t.h t.r t.rest 1#64)) 0 else t
theorem set_split {l : List Byte} {i : Nat} {x : Byte} (h : i < l.length) : l.set i x = l.take i ++ x :: l.drop (i + 1) := by
  rw [List.set_eq_take_append_cons_drop, if_pos h]
theorem write_put {x : List Byte} : ∀ {t : PolyS}, PolyOk t → t.used + x.length ≤ 16 → writeS t x = full (put1 t x) := by
  induction x with
  | nil =>
    intro t ht _
    have := ht.used
    show t = full (put1 t [])
    have e : put1 t [] = t := by simp [put1]
    rw [e, full, if_neg (by omega)]
  | cons a x ih =>
    intro t ht hl
    simp only [List.length_cons] at hl
    have hr := ht.rest
    have hu := ht.used
    show writeS (push t a) x = _
    by_cases h16 : t.used + 1 = 16
    · have hx : x = [] := List.eq_nil_of_length_eq_zero (by omega)
      subst hx
      show push t a = _
      have e : put1 t [a] = { t with rest := t.rest.set t.used a, used := t.used + 1 } := by
        simp only [put1, List.length_cons, List.length_nil, set_split (show t.used < t.rest.length by omega)]
        simp
      rw [e, full, if_pos h16, push, if_pos h16]; rfl
    · have hp : push t a = { t with rest := t.rest.set t.used a, used := t.used + 1 } := by rw [push, if_neg h16]
      rw [ih (push_ok ht a) (by rw [hp]; show t.used + 1 + x.length ≤ 16; omega)]
      congr 1
      rw [hp]
      simp only [put1, List.length_cons]
      have e : List.take (t.used + 1) (t.rest.set t.used a) = t.rest.take t.used ++ [a] := by
        rw [set_split (by omega), List.take_append, List.take_take]
        have e2 : (t.rest.take t.used).length = t.used := by simp; omega
        rw [e2]
        simp
      have e3 : List.drop (t.used + 1 + x.length) (t.rest.set t.used a) = t.rest.drop (t.used + (x.length + 1)) := by
        rw [List.drop_set_of_lt (by omega)]; congr 1; omega
      rw [e, e3]
      simp; omega
theorem put1_rest {t : PolyS} {x : List Byte} (ht : PolyOk t) (h : t.used + x.length ≤ 16) : (put1 t x).rest.length = 16 := by
  have := ht.rest
  simp [put1]; omega
theorem pc_size {t : PolyS} (h : t.rest.length = 16) : (pc t).size = 24 := by simp [pc, h]
theorem pc_used {t : PolyS} (h : t.rest.length = 16) : (pc t)[23]? = some (.int .i64 t.used) := by
  simp [pc, List.getElem?_append, h]
theorem pc_rest {t : PolyS} (h : t.rest.length = 16) : (pc t).extract 7 23 = (t.rest.map u8b).toArray := by
  apply Array.ext'
  simp only [pc, Array.toList_extract, List.extract_eq_take_drop]
  simp [h]
theorem pc_setUsed {t : PolyS} (h : t.rest.length = 16) (n : Nat) : (pc t).setIfInBounds 23 (.int .i64 n) = pc (setU t n) := by
  apply Array.ext'
  simp [pc, setU, List.set_append, h]
theorem pc_copy {t : PolyS} {x : List Byte} (h : t.rest.length = 16) (hx : t.used + x.length ≤ 16) : wr (pc t) (7 + t.used) (x.map u8b) = pc (setU (put1 t x) t.used) := by
  apply Array.ext'
  rw [wr_toList _ _ _ (by rw [pc_size h, List.length_map]; omega)]
  have e : (pc t).toList = [u64b t.r.1, u64b t.r.2, u64b t.s.1, u64b t.s.2, u64b t.h.1, u64b t.h.2.1, u64b t.h.2.2] ++ (t.rest.map u8b ++ [.int .i64 t.used]) := rfl
  rw [e, List.take_append, List.drop_append]
  have l7 : [u64b t.r.1, u64b t.r.2, u64b t.s.1, u64b t.s.2, u64b t.h.1, u64b t.h.2.1, u64b t.h.2.2].length = 7 := rfl
  rw [l7, List.take_of_length_le (by rw [l7]; omega), List.drop_of_length_le (by rw [l7, List.length_map]; omega)]
  have e1 : 7 + t.used - 7 = t.used := by omega
  have e2 : 7 + t.used + (x.map u8b).length - 7 = t.used + x.length := by rw [List.length_map]; omega
  rw [e1, e2, List.take_append_of_le_length (by simp; omega), List.drop_append_of_le_length (by simp; omega)]
  simp [pc, setU, put1, ← List.map_take, ← List.map_drop]
theorem pc_h (t : PolyS) : (pc t).extract 4 7 = hA t.h := by
  apply Array.ext'
  simp [pc, hA, List.extract_eq_take_drop]
theorem pc_r (t : PolyS) : (pc t).extract 0 2 = wA t.r := by
  apply Array.ext'
  simp [pc, wA, List.extract_eq_take_drop]
theorem pc_setH (t : PolyS) (h : W192) : wr (pc t) 4 (hA h).toList = pc (setH t h) := rfl
theorem ext_map (b : List Byte) (i j : Nat) : ((b.map u8b).toArray).extract i j = (((b.drop i).take (j - i)).map u8b).toArray := by
  apply Array.ext'
  simp [List.extract_eq_take_drop]
def lastB (t : PolyS) : List Byte := (t.rest.take t.used ++ List.replicate (16 - t.used) 0#8).set t.used 1#8
def finS (t : PolyS) : PolyS := if 0 < t.used then setH t (takeW t.h t.r (lastB t) 0#64) else t
def outW (h : W192) (s : W128) : W128 :=
  let b0 := borrow h.1 18446744073709551611#64 0#64
  let l0 := h.1 - 18446744073709551611#64 - 0#64
  let l1 := h.2.1 - 18446744073709551615#64 - b0
  let b1 := borrow h.2.1 18446744073709551615#64 b0
  let keep := - borrow h.2.2 3#64 b1
  let k0 := h.1 &&& keep ||| l0 &&& ~~~ keep
  let k1 := h.2.1 &&& keep ||| l1 &&& ~~~ keep
  (k0 + s.1 + 0#64, k1 + s.2 + carry k0 s.1 0#64)
def outB (o : W128) (i : Nat) : Byte := ((if i / 8 = 0 then o.1 else o.2) >>> (8 * (i % 8))).setWidth 8
def bytesOf (o : W128) : List Byte := (List.range 16).map (outB o)
def sumS (t : PolyS) : List Byte := bytesOf (outW (finS t).h (finS t).s)
def code (key all : List Byte) : List Byte := sumS (writeS (newS key) all)
def upto (f : Nat → Byte) (i : Nat) : List Byte := (List.range 16).map fun j => if j < i then f j else 0#8
theorem upto_set (f : Nat → Byte) (i : Nat) : (upto f i).set i (f i) = upto f (i + 1) := by
  apply List.ext_getElem (by simp [upto])
  intro j h1 h2
  simp only [upto, List.getElem_set, List.getElem_map, List.getElem_range]
  by_cases e : i = j
  · subst e; simp
  · rw [if_neg e]
    by_cases h : j < i
    · rw [if_pos h, if_pos (by omega)]
    · rw [if_neg h, if_neg (by omega)]
theorem upto_zero (f : Nat → Byte) : upto f 0 = List.replicate 16 0#8 := by simp [upto, List.range_succ]
theorem upto_end (f : Nat → Byte) : upto f 16 = (List.range 16).map f := by
  apply List.map_congr_left
  intro j hj
  rw [if_pos (by simpa using hj)]
theorem pc_restTake {t : PolyS} (h : t.rest.length = 16) (hu : t.used ≤ 16) : ((pc t).extract 7 (7 + t.used * 1)).toList = (t.rest.take t.used).map u8b := by
  simp only [pc, Array.toList_extract, List.extract_eq_take_drop, Nat.mul_one]
  have e : 7 + t.used - 7 = t.used := by omega
  rw [e]
  show List.take t.used (t.rest.map u8b ++ [.int .i64 t.used]) = _
  rw [List.take_append_of_le_length (by simp; omega), List.map_take]
theorem copy_last {t : PolyS} (h : t.rest.length = 16) (hu : t.used < 16) : wr ((List.replicate 16 0#8).map u8b).toArray 0 ((t.rest.take t.used).map u8b) = ((t.rest.take t.used ++ List.replicate (16 - t.used) 0#8).map u8b).toArray := by
  apply Array.ext'
  rw [wr_toList _ _ _ (by simp; omega)]
  have e : (0 + ((t.rest.take t.used).map u8b).length) = t.used := by simp; omega
  rw [e, List.map_replicate, List.map_append, List.map_replicate]
  show List.take 0 (List.replicate 16 (u8b 0#8)) ++ _ ++ List.drop t.used (List.replicate 16 (u8b 0#8)) = _
  rw [List.drop_replicate]; rfl
theorem pc_one (t : PolyS) : (pc t).toList.all oneC = true := by simp [pc, oneC]
theorem pc_s0 (t : PolyS) : (pc t)[2]? = some (u64b t.s.1) := rfl
theorem pc_s1 (t : PolyS) : (pc t)[3]? = some (u64b t.s.2) := rfl
theorem finS_rest (t : PolyS) : (finS t).rest = t.rest := by unfold finS; split <;> rfl
theorem lastB_len {t : PolyS} (h : t.rest.length = 16) (hu : t.used ≤ 16) : (lastB t).length = 16 := by simp [lastB, h]; omega
theorem bytesOf_len (o : W128) : (bytesOf o).length = 16 := by simp [bytesOf]
theorem code_len (key all : List Byte) : (code key all).length = 16 := bytesOf_len _
end Go.Sl
namespace Go.Sl
open Go
def padB (b : List Byte) : List Byte := List.replicate ((16 - b.length % 16) % 16) 0#8
def macB (more cover : List Byte) : List Byte := ((more ++ padB more) ++ (cover ++ padB cover)) ++ (leB (BitVec.ofNat 64 more.length) 8 ++ leB (BitVec.ofNat 64 cover.length) 8)
def oneKey (key nonce : List Byte) : List Byte := (blockB key 0#32 nonce).take 32
theorem oneKey_len (key nonce : List Byte) : (oneKey key nonce).length = 32 := by simp [oneKey, blockB_len]
def vouchB (key nonce more cover : List Byte) : List Byte := code (oneKey key nonce) (macB more cover)
theorem vouchB_len (key nonce more cover : List Byte) : (vouchB key nonce more cover).length = 16 := code_len _ _
def sealB (key nonce more text : List Byte) : List Byte := xorB key nonce 64 text ++ vouchB key nonce more (xorB key nonce 64 text)
theorem sealB_len (key nonce more text : List Byte) : (sealB key nonce more text).length = text.length + 16 := by simp [sealB, xorB_len, vouchB_len]
def coverB (box : List Byte) : List Byte := box.take (box.length - 16)
def tagB (box : List Byte) : List Byte := box.drop (box.length - 16)
def rightB (key nonce more box : List Byte) : Bool := decide (vouchB key nonce more (coverB box) = tagB box)
def textB (key nonce box : List Byte) : List Byte := xorB key nonce 64 (coverB box)
theorem textB_len (key nonce box : List Byte) : (textB key nonce box).length = box.length - 16 := by simp [textB, xorB_len, coverB]
theorem cover_seal (key nonce more text : List Byte) : coverB (sealB key nonce more text) = xorB key nonce 64 text := by
  unfold coverB; rw [sealB_len, Nat.add_sub_cancel]
  unfold sealB; rw [List.take_append_of_le_length (by rw [xorB_len]; exact Nat.le_refl _), List.take_of_length_le (by rw [xorB_len]; exact Nat.le_refl _)]
theorem tag_seal (key nonce more text : List Byte) : tagB (sealB key nonce more text) = vouchB key nonce more (xorB key nonce 64 text) := by
  unfold tagB; rw [sealB_len, Nat.add_sub_cancel]
  unfold sealB; rw [List.drop_append_of_le_length (by rw [xorB_len]; exact Nat.le_refl _), List.drop_of_length_le (by rw [xorB_len]; exact Nat.le_refl _)]; rfl
theorem right_seal (key nonce more text : List Byte) : rightB key nonce more (sealB key nonce more text) = true := by
  unfold rightB; rw [cover_seal, tag_seal]; exact decide_eq_true rfl
theorem text_seal (key nonce more text : List Byte) : textB key nonce (sealB key nonce more text) = text := by
  unfold textB; rw [cover_seal, xorB_back]
theorem seal_text (key nonce more box : List Byte) (h : rightB key nonce more box = true) : sealB key nonce more (textB key nonce box) = box := by
  unfold rightB at h
  have h := of_decide_eq_true h
  unfold sealB textB
  rw [xorB_back, h]
  unfold coverB tagB
  exact List.take_append_drop _ _
end Go.Sl
namespace Go.Sl
open Go
theorem lowB_bitn (w : Nat) : ∀ (n : Nat) (b : List Byte), b.length = n → ∀ i, i < w → (lowB w b).getLsbD i = (b.getD (i / 8) 0#8).getLsbD (i % 8) := by
  intro n
  induction n with
  | zero => intro b hb i hi; obtain rfl := List.eq_nil_of_length_eq_zero hb; simp [lowB]
  | succ n ihn =>
    intro b' hb'
    obtain ⟨b, x, rfl⟩ : ∃ b x, b' = b ++ [x] := by
      rcases List.eq_nil_or_concat b' with rfl|⟨b, x, rfl⟩
      · simp at hb'
      · exact ⟨b, x, by simp⟩
    have ih := ihn b (by simpa using hb')
    intro i hi
    rw [lowB_snoc, BitVec.getLsbD_or, BitVec.getLsbD_shiftLeft, ih i hi, BitVec.getLsbD_setWidth]
    have h8 : i = 8 * (i / 8) + i % 8 := by omega
    by_cases h1 : i / 8 < b.length
    · have h2 : i < 8 * b.length := by omega
      simp [List.getD_eq_getElem?_getD, List.getElem?_append_left h1, h2, hi]
    · by_cases h2 : i / 8 = b.length
      · have h3 : ¬ i < 8 * b.length := by omega
        have h4 : i - 8 * b.length = i % 8 := by omega
        have h5 : i % 8 < w := by omega
        simp [List.getD_eq_getElem?_getD, h2, h3, h4, h5, hi]
      · have h3 : ¬ i < 8 * b.length := by omega
        have h6 : x.getLsbD (i - 8 * b.length) = false := BitVec.getLsbD_of_ge _ _ (by omega)
        have h7 : (b ++ [x])[i / 8]? = none := List.getElem?_eq_none (by simp; omega)
        have h8 : b[i / 8]? = none := List.getElem?_eq_none (by omega)
        simp [List.getD_eq_getElem?_getD, h6, h7, h8]
theorem lowB_bit (w : Nat) (b : List Byte) (i : Nat) (hi : i < w) : (lowB w b).getLsbD i = (b.getD (i / 8) 0#8).getLsbD (i % 8) := lowB_bitn w _ b rfl i hi
theorem leB_get {w : Nat} (x : BitVec w) (n j : Nat) (h : j < n) : (leB x n).getD j 0#8 = (x >>> (8 * j)).setWidth 8 := by
  simp [leB, List.getD_eq_getElem?_getD, h]
theorem low_le {w n : Nat} (x : BitVec w) (h : w = 8 * n) : lowB w (leB x n) = x := by
  apply BitVec.eq_of_getLsbD_eq
  intro i hi
  rw [lowB_bit _ _ _ hi, leB_get _ _ _ (by omega), BitVec.getLsbD_setWidth, BitVec.getLsbD_ushiftRight]
  rw [show 8 * (i / 8) + i % 8 = i from by omega]
  simp; omega
theorem le_low {w n : Nat} (b : List Byte) (h : w = 8 * n) (hb : b.length = n) : leB (lowB w b) n = b := by
  apply List.ext_getElem (by rw [leB_len, hb])
  intro j h1 h2
  rw [leB_len] at h1
  have e := leB_get (lowB w b) n j h1
  rw [List.getD_eq_getElem?_getD, List.getElem?_eq_getElem (by rw [leB_len]; exact h1), Option.getD_some] at e
  rw [e]
  apply BitVec.eq_of_getLsbD_eq
  intro i hi
  rw [BitVec.getLsbD_setWidth, BitVec.getLsbD_ushiftRight, lowB_bit _ _ _ (by omega), show (8 * j + i) / 8 = j from by omega, show (8 * j + i) % 8 = i from by omega, List.getD_eq_getElem?_getD, List.getElem?_eq_getElem h2]
  simp [hi]
structure Plc where
  round : BitVec 64
  counter : BitVec 32
  page : BitVec 32
  version : BitVec 32
theorem Plc.eq_iff (a b : Plc) : (a.round = b.round ∧ a.counter = b.counter ∧ a.page = b.page ∧ a.version = b.version) ↔ a = b := by
  constructor
  · rintro ⟨h1, h2, h3, h4⟩
    cases a; cases b
    simp only at h1 h2 h3 h4
    rw [h1, h2, h3, h4]
  · rintro rfl
    exact ⟨rfl, rfl, rfl, rfl⟩
instance : DecidableEq Plc := fun a b => decidable_of_iff _ (Plc.eq_iff a b)
def headB (p : Plc) : List Byte := leB p.round 8 ++ leB p.counter 4
def moreB (p : Plc) : List Byte := leB p.page 4 ++ leB p.version 4
theorem headB_len (p : Plc) : (headB p).length = 12 := by simp [headB, leB_len]
theorem moreB_len (p : Plc) : (moreB p).length = 8 := by simp [moreB, leB_len]
def pgSealB (key : List Byte) (p : Plc) (text : List Byte) : List Byte := headB p ++ sealB key (headB p) (moreB p) text
theorem pgSealB_len (key : List Byte) (p : Plc) (text : List Byte) : (pgSealB key p text).length = text.length + 28 := by simp [pgSealB, headB_len, sealB_len]; omega
def pgSealR (key : List Byte) (p : Plc) (text : List Byte) : List Byte × Nat := if 4096 < text.length then ([], 3) else (pgSealB key p text, 0)
def pgHeadR (b : List Byte) : BitVec 64 × BitVec 32 × Nat := if b.length < 28 then (0#64, 0#32, 20) else (lowB 64 (b.take 8), lowB 32 ((b.drop 8).take 4), 0)
def pgFits (p : Plc) (box : List Byte) : Prop := 28 ≤ box.length ∧ box.length ≤ 4124 ∧ box.take 12 = headB p
instance (p : Plc) (box : List Byte) : Decidable (pgFits p box) := inferInstanceAs (Decidable (_ ∧ _))
def pgOpens (key : List Byte) (p : Plc) (box : List Byte) : Prop := pgFits p box ∧ rightB key (headB p) (moreB p) (box.drop 12) = true
instance (key : List Byte) (p : Plc) (box : List Byte) : Decidable (pgOpens key p box) := inferInstanceAs (Decidable (_ ∧ _))
def pgOpenR (key : List Byte) (p : Plc) (box : List Byte) : List Byte × Nat := if pgOpens key p box then (textB key (headB p) (box.drop 12), 0) else ([], 120)
theorem head_is (p : Plc) (box : List Byte) (h : 12 ≤ box.length) : box.take 12 = headB p ↔ lowB 64 (box.take 8) = p.round ∧ lowB 32 ((box.drop 8).take 4) = p.counter := by
  have e : box.take 12 = box.take 8 ++ (box.drop 8).take 4 := by
    rw [show (12 : Nat) = 8 + 4 from rfl, List.take_add]
  have l8 : (box.take 8).length = 8 := by simp; omega
  have l4 : ((box.drop 8).take 4).length = 4 := by simp; omega
  rw [e]
  constructor
  · intro hh
    unfold headB at hh
    have h2 := List.append_inj hh (by rw [l8, leB_len])
    rw [h2.1, h2.2, low_le (n := 8) _ rfl, low_le (n := 4) _ rfl]
    exact ⟨rfl, rfl⟩
  · rintro ⟨h1, h2⟩
    unfold headB
    rw [← h1, ← h2, le_low (n := 8) _ rfl l8, le_low (n := 4) _ rfl l4]
theorem pgSeal_head (key : List Byte) (p : Plc) (text : List Byte) : (pgSealB key p text).take 12 = headB p := by
  unfold pgSealB
  rw [List.take_append_of_le_length (by rw [headB_len]; exact Nat.le_refl _), List.take_of_length_le (by rw [headB_len]; exact Nat.le_refl _)]
theorem pgSeal_drop (key : List Byte) (p : Plc) (text : List Byte) : (pgSealB key p text).drop 12 = sealB key (headB p) (moreB p) text := by
  unfold pgSealB
  rw [List.drop_append_of_le_length (by rw [headB_len]; exact Nat.le_refl _), List.drop_of_length_le (by rw [headB_len]; exact Nat.le_refl _)]; rfl
theorem pg_back (key : List Byte) (p : Plc) (text : List Byte) (h : text.length ≤ 4096) : pgOpenR key p (pgSealB key p text) = (text, 0) := by
  unfold pgOpenR
  rw [if_pos ⟨⟨by rw [pgSealB_len]; omega, by rw [pgSealB_len]; omega, pgSeal_head key p text⟩, by rw [pgSeal_drop]; exact right_seal _ _ _ _⟩, pgSeal_drop, text_seal]
theorem pg_form (key : List Byte) (p : Plc) (box : List Byte) (h : pgOpens key p box) : pgSealB key p (pgOpenR key p box).1 = box ∧ (pgOpenR key p box).1.length + 28 = box.length := by
  obtain ⟨⟨h1, h2, h3⟩, h4⟩ := h
  unfold pgOpenR
  rw [if_pos ⟨⟨h1, h2, h3⟩, h4⟩]
  constructor
  · unfold pgSealB
    dsimp only
    rw [seal_text _ _ _ _ h4, ← h3, List.take_append_drop]
  · dsimp only
    rw [textB_len, List.length_drop]; omega
theorem pgSealR_ok (key : List Byte) (p : Plc) (text : List Byte) (h : ¬ 4096 < text.length) : pgSealR key p text = (pgSealB key p text, 0) := by unfold pgSealR; rw [if_neg h]
theorem pgOpenR_not (key : List Byte) (p : Plc) (box : List Byte) (h : ¬ pgOpens key p box) : pgOpenR key p box = ([], 120) := by unfold pgOpenR; rw [if_neg h]
theorem pgOpenR_yes (key : List Byte) (p : Plc) (box : List Byte) (h : pgOpens key p box) : pgOpenR key p box = ((pgOpenR key p box).1, 0) := by unfold pgOpenR; rw [if_pos h]
end Go.Sl
namespace Go.Sl.PagerS
open Go Go.Sl Go.Sl.HostS
structure Fr where
  page : Int
  text : Bytes
  is : Nat
structure PS where
  key : Bytes
  round : BitVec 64
  window : Nat
  pages : Int
  text : Nat
  held : List Fr
  last : Int → Option Plc
  most : Nat
  writes : Nat
  err : Nat
def frOf (s : PS) (n : Int) : Option Fr := s.held.find? fun f => f.page == n
def verOf (s : PS) (n : Int) : BitVec 32 := ((s.last n).map Plc.version).getD 0#32
def nextPl (s : PS) (n : Int) : Plc := ⟨s.round, BitVec.ofNat 32 s.writes, BitVec.ofInt 32 n, verOf s n + 1#32⟩
def die (s : PS) (e : Nat) : PS := { s with err := e }
def cleaned (l : List Fr) (n : Int) : List Fr := l.map fun f => if f.page = n then { f with is := 1 } else f
def wroteP (s : PS) (n : Int) : PS := { s with last := setF s.last n (some (nextPl s n)), writes := s.writes + 1, held := cleaned s.held n }
def textOf (s : PS) (n : Int) : Bytes := ((frOf s n).map Fr.text).getD []
def boxOf (s : PS) (n : Int) : Bytes := pgSealB s.key (nextPl s n) (textOf s n)
abbrev PH := PS × HS
def writeP (s : PS) (h : HS) (n : Int) : Nat × PH :=
  if s.writes = 4294967295 then (130, die s 130, h)
  else
    let r := writeR h n (boxOf s n)
    if r.1 = 0 then (0, wroteP s n, r.2) else (r.1, die s r.1, r.2)
def changedAt (s : PS) (n : Int) : Bool := ((frOf s n).map Fr.is).getD 0 == 2
def roomP (s : PS) (h : HS) : Nat × PH :=
  if s.held.length < s.window then (0, s, h)
  else
    let n := (s.held.head?.map Fr.page).getD 0
    if changedAt s n then
      let r := writeP s h n
      if r.1 = 0 then (0, { r.2.1 with held := r.2.1.held.tail }, r.2.2) else r
    else (0, { s with held := s.held.tail }, h)
def useP (s : PS) (f : Fr) : PS :=
  { s with held := (s.held.filter fun g => !(g.page == f.page)) ++ [f], most := max s.most ((s.held.filter fun g => !(g.page == f.page)) ++ [f]).length }
def rightP (s : PS) (n : Int) : Nat := if s.err ≠ 0 then s.err else if n < 0 ∨ s.pages ≤ n then 2 else 0
def fetchP (s : PS) (h : HS) (n : Int) : (Bytes × Nat) × PH :=
  match s.last n with
  | some pl =>
    let r := readR h n
    if r.2.1 = 0 then
      let o := pgOpenR s.key pl r.1
      if o.2 = 0 then ((o.1, 0), useP s ⟨n, o.1, 1⟩, r.2.2) else (([], o.2), die s o.2, r.2.2)
    else (([], r.2.1), die s r.2.1, r.2.2)
  | none => ((List.replicate s.text 0#8, 0), useP s ⟨n, List.replicate s.text 0#8, 0⟩, h)
def loadP (s : PS) (h : HS) (n : Int) : (Bytes × Nat) × PH :=
  if rightP s n = 0 then
    match frOf s n with
    | some f => ((f.text, 0), useP s f, h)
    | none =>
      let r := roomP s h
      if r.1 = 0 then fetchP r.2.1 r.2.2 n else (([], r.1), r.2)
  else (([], rightP s n), s, h)
def saveP (s : PS) (h : HS) (n : Int) (t : Bytes) : Nat × PH :=
  if rightP s n = 0 then
    if t.length = s.text then
      match frOf s n with
      | some _ => (0, useP s ⟨n, t, 2⟩, h)
      | none =>
        let r := roomP s h
        if r.1 = 0 then (0, useP r.2.1 ⟨n, t, 2⟩, r.2.2) else r
    else (4, s, h)
  else (rightP s n, s, h)
def numbers (s : PS) : List Int := s.held.map Fr.page
def freshP (key : Bytes) (round : BitVec 64) (window : Nat) (pages : Int) (text : Nat) : PS := ⟨key, round, window, pages, text, [], fun _ => none, 0, 0, 0⟩
structure Ok (s : PS) : Prop where
  key : s.key.length = 32
  w0 : 2 ≤ s.window
  w1 : s.window ≤ 16
  p0 : 0 ≤ s.pages
  p1 : s.pages ≤ 65536
  t0 : 1 ≤ s.text
  t1 : s.text ≤ 4096
  once : (numbers s).Nodup
  there : ∀ f ∈ s.held, 0 ≤ f.page ∧ f.page < s.pages
  len : ∀ f ∈ s.held, f.text.length = s.text
  is : ∀ f ∈ s.held, f.is ≤ 2
  many : s.held.length ≤ s.window
  most : s.most ≤ s.window
  writes : s.writes ≤ 4294967295
  err : s.err ≤ 1000
structure Over (s : PS) (h : HS) : Prop where
  pages : h.pages = s.pages
  size : h.size = s.text + 28
theorem frOf_mem {s : PS} {n : Int} {f : Fr} (h : frOf s n = some f) : f ∈ s.held ∧ f.page = n := by
  unfold frOf at h
  exact ⟨List.mem_of_find?_eq_some h, by have := List.find?_some h; simpa using this⟩
theorem frOf_none {s : PS} {n : Int} (h : frOf s n = none) : n ∉ numbers s := by
  unfold frOf at h
  rw [List.find?_eq_none] at h
  unfold numbers
  rw [List.mem_map]
  rintro ⟨f, hf, rfl⟩
  exact h f hf (by simp)
theorem frOf_of {s : PS} {n : Int} (h : n ∈ numbers s) : ∃ f, frOf s n = some f := by
  cases hf : frOf s n with
  | some f => exact ⟨f, rfl⟩
  | none => exact absurd h (frOf_none hf)
theorem ok_die {s : PS} (h : Ok s) (e : Nat) (he : e ≤ 1000) : Ok (die s e) := ⟨h.key, h.w0, h.w1, h.p0, h.p1, h.t0, h.t1, h.once, h.there, h.len, h.is, h.many, h.most, h.writes, he⟩
theorem cleaned_pages (l : List Fr) (n : Int) : (cleaned l n).map Fr.page = l.map Fr.page := by
  unfold cleaned
  rw [List.map_map]
  apply List.map_congr_left
  intro f _
  simp only [Function.comp]
  split <;> rfl
theorem cleaned_mem {l : List Fr} {n : Int} {f : Fr} (h : f ∈ cleaned l n) : ∃ g ∈ l, f.page = g.page ∧ f.text = g.text ∧ (f.is = 1 ∨ f.is = g.is) := by
  unfold cleaned at h
  obtain ⟨g, hg, rfl⟩ := List.mem_map.1 h
  refine ⟨g, hg, ?_⟩
  split
  · exact ⟨rfl, rfl, .inl rfl⟩
  · exact ⟨rfl, rfl, .inr rfl⟩
theorem ok_wrote {s : PS} (h : Ok s) (n : Int) (hw : s.writes < 4294967295) : Ok (wroteP s n) := by
  refine ⟨h.key, h.w0, h.w1, h.p0, h.p1, h.t0, h.t1, ?_, ?_, ?_, ?_, ?_, h.most, by show s.writes + 1 ≤ _; omega, h.err⟩
  · show ((cleaned s.held n).map Fr.page).Nodup
    rw [cleaned_pages]; exact h.once
  · intro f hf
    obtain ⟨g, hg, e, _⟩ := cleaned_mem hf
    rw [e]; exact h.there g hg
  · intro f hf
    obtain ⟨g, hg, _, e, _⟩ := cleaned_mem hf
    rw [e]; exact h.len g hg
  · intro f hf
    obtain ⟨g, hg, _, _, e⟩ := cleaned_mem hf
    rcases e with e|e
    · omega
    · rw [e]; exact h.is g hg
  · show (cleaned s.held n).length ≤ _
    unfold cleaned; rw [List.length_map]; exact h.many
theorem ok_tail {s : PS} (h : Ok s) : Ok { s with held := s.held.tail } := by
  refine ⟨h.key, h.w0, h.w1, h.p0, h.p1, h.t0, h.t1, ?_, fun f hf => h.there f (List.mem_of_mem_tail hf), fun f hf => h.len f (List.mem_of_mem_tail hf), fun f hf => h.is f (List.mem_of_mem_tail hf), ?_, h.most, h.writes, h.err⟩
  · show (s.held.tail.map Fr.page).Nodup
    rw [List.map_tail]
    exact h.once.sublist (List.tail_sublist _)
  · show s.held.tail.length ≤ s.window
    have := h.many
    rw [List.length_tail]; omega
theorem use_len {s : PS} {f : Fr} (h : Ok s) (hr : (frOf s f.page).isSome = true ∨ s.held.length < s.window) : ((s.held.filter fun g => !(g.page == f.page)) ++ [f]).length ≤ s.window := by
  rw [List.length_append, List.length_singleton]
  have hle := List.length_filter_le (fun g : Fr => !(g.page == f.page)) s.held
  have hm := h.many
  rcases hr with hr|hr
  · obtain ⟨g, hg⟩ := Option.isSome_iff_exists.1 hr
    obtain ⟨hg1, hg2⟩ := frOf_mem hg
    have : (s.held.filter fun g => !(g.page == f.page)).length < s.held.length := by
      refine List.length_filter_lt_length_iff_exists.2 ⟨g, hg1, by simp [hg2]⟩
    omega
  · omega
theorem ok_use {s : PS} {f : Fr} (h : Ok s) (hr : (frOf s f.page).isSome = true ∨ s.held.length < s.window) (hp : 0 ≤ f.page ∧ f.page < s.pages) (hl : f.text.length = s.text) (hi : f.is ≤ 2) : Ok (useP s f) := by
  have hlen := use_len h hr
  refine ⟨h.key, h.w0, h.w1, h.p0, h.p1, h.t0, h.t1, ?_, ?_, ?_, ?_, hlen, ?_, h.writes, h.err⟩
  · show (((s.held.filter fun g => !(g.page == f.page)) ++ [f]).map Fr.page).Nodup
    rw [List.map_append, List.nodup_append]
    refine ⟨h.once.sublist (List.filter_sublist.map _), by simp, ?_⟩
    intro a ha b hb
    simp only [List.map_cons, List.map_nil, List.mem_singleton] at hb
    subst hb
    obtain ⟨g, hg, rfl⟩ := List.mem_map.1 ha
    have := (List.mem_filter.1 hg).2
    intro e
    rw [e] at this
    simp at this
  · intro g hg
    simp only [useP, List.mem_append, List.mem_singleton] at hg
    rcases hg with hg|rfl
    · exact h.there g (List.mem_filter.1 hg).1
    · exact hp
  · intro g hg
    simp only [useP, List.mem_append, List.mem_singleton] at hg
    rcases hg with hg|rfl
    · exact h.len g (List.mem_filter.1 hg).1
    · exact hl
  · intro g hg
    simp only [useP, List.mem_append, List.mem_singleton] at hg
    rcases hg with hg|rfl
    · exact h.is g (List.mem_filter.1 hg).1
    · exact hi
  · show max s.most _ ≤ s.window
    have := h.most
    omega
theorem ok_fresh {key : Bytes} {round : BitVec 64} {window : Nat} {pages : Int} {text : Nat} (hk : key.length = 32) (hw : 2 ≤ window ∧ window ≤ 16) (hp : 0 ≤ pages ∧ pages ≤ 65536) (ht : 1 ≤ text ∧ text ≤ 4096) : Ok (freshP key round window pages text) :=
  ⟨hk, hw.1, hw.2, hp.1, hp.2, ht.1, ht.2, List.nodup_nil, fun f hf => (by cases hf), fun f hf => (by cases hf), fun f hf => (by cases hf), Nat.zero_le _, Nat.zero_le _, Nat.zero_le _, Nat.zero_le _⟩
end Go.Sl.PagerS
namespace Go.Sl.PagerS
open Go Go.Sl Go.Sl.HostS
attribute [local irreducible] pgSealB pgOpenR
def Mild (h : HS) : Prop := ∀ k, ∀ f ∈ h.coming k, 3 ≤ f.kind
theorem spoil1_mild (h : HS) (n : Int) (b : Bytes) (f : Fault) (hk : 3 ≤ f.kind) : spoil1 h n b f = b := by
  unfold spoil1
  rw [if_neg (by omega), if_neg (by omega), if_neg (by omega)]
theorem spoilt_mild {h : HS} (hm : Mild h) (n : Int) : spoilt h n (h.coming h.ops) = back h n 0 := by
  unfold spoilt
  have : ∀ (l : List Fault) (b : Bytes), (∀ f ∈ l, 3 ≤ f.kind) → l.foldl (spoil1 h n) b = b := by
    intro l
    induction l with
    | nil => intro b _; rfl
    | cons f r ih =>
      intro b hl
      rw [List.foldl_cons, spoil1_mild _ _ _ _ (hl f (List.mem_cons_self ..))]
      exact ih b fun g hg => hl g (List.mem_cons_of_mem _ hg)
  exact this _ _ (hm h.ops)
theorem mild_taken {h : HS} (hm : Mild h) (c : Int → List Fault) (hc : c = setF h.coming h.ops []) (g : HS) (hg : g.coming = c) : Mild g := by
  intro k f hf
  rw [hg, hc] at hf
  unfold setF at hf
  split at hf
  · cases hf
  · exact hm k f hf
theorem does_coming (h : HS) (op n : Int) (b : Bytes) (act : HS → HS) (ha : ∀ g, (act g).coming = g.coming) : (does h op n b act).1.coming = h.coming ∨ (does h op n b act).1.coming = setF h.coming h.ops [] := by
  unfold does
  split
  · exact .inl rfl
  · dsimp only
    split
    · exact .inr rfl
    · split
      · exact .inr (ha _)
      · exact .inr (ha _)
theorem does_mild {h : HS} (hm : Mild h) (op n : Int) (b : Bytes) (act : HS → HS) (ha : ∀ g, (act g).coming = g.coming) : Mild (does h op n b act).1 := by
  rcases does_coming h op n b act ha with e|e
  · intro k f hf; rw [e] at hf; exact hm k f hf
  · exact mild_taken hm _ rfl _ e
theorem writeR_mild {h : HS} (hm : Mild h) (n : Int) (b : Bytes) : Mild (writeR h n b).2 := by
  unfold writeR
  split
  · split
    · exact does_mild hm _ _ _ _ fun _ => rfl
    · exact hm
  · exact hm
theorem readR_mild {h : HS} (hm : Mild h) (n : Int) : Mild (readR h n).2.2 := by
  have := does_mild hm 0 n [] id fun _ => rfl
  unfold readR
  split
  · dsimp only
    split
    · exact this
    · exact this
  · exact hm
theorem does_zero {h : HS} {op n : Int} {b : Bytes} {act : HS → HS} (he : (does h op n b act).2 = 0) : (does h op n b act).1 = act (logged h op n b) := by
  unfold does at he ⊢
  split at he
  · cases he
  · rename_i hd
    rw [if_neg hd]
    dsimp only at he ⊢
    split at he
    · cases he
    · rename_i hb
      rw [if_neg hb]
      split at he
      · cases he
      · rename_i hb2
        rw [if_neg hb2]
theorem does_back {h : HS} {op n : Int} {b : Bytes} (m : Int) : back (does h op n b id).1 m 0 = back h m 0 := by
  unfold does
  split
  · rfl
  · dsimp only
    split
    · rfl
    · split <;> rfl
theorem readR_back (h : HS) (n m : Int) : back (readR h n).2.2 m 0 = back h m 0 := by
  unfold readR
  split
  · dsimp only
    split
    · exact does_back m
    · exact does_back m
  · rfl
theorem writeR_zero {h : HS} {n : Int} {b : Bytes} (he : (writeR h n b).1 = 0) : (writeR h n b).2 = wrote n b (logged h 1 n b) := by
  unfold writeR at he ⊢
  split at he
  · rename_i ht
    rw [if_pos ht]
    split at he
    · rename_i hl
      rw [if_pos hl]
      exact does_zero he
    · cases he
  · cases he
theorem wrote_back (h : HS) (n : Int) (b : Bytes) (m : Int) : back (wrote n b (logged h 1 n b)) m 0 = if m = n then b else back h m 0 := by
  have e0 : (wrote n b (logged h 1 n b)).lay m = setF h.lay n (h.lay n ++ [b]) m := rfl
  have ez : (wrote n b (logged h 1 n b)).size = h.size := rfl
  unfold back
  rw [e0, ez]
  by_cases e : m = n
  · subst e
    rw [if_pos rfl]
    have e1 : setF h.lay m (h.lay m ++ [b]) m = h.lay m ++ [b] := by unfold setF; rw [if_pos rfl]
    simp only [e1, List.length_append, List.length_singleton]
    rw [if_pos (by omega), show (((h.lay m).length + 1 : Nat) : Int) - 1 - max 0 0 = ((h.lay m).length : Int) from by omega, Int.toNat_natCast, List.getD_eq_getElem?_getD, List.getElem?_append_right (Nat.le_refl _)]
    simp
  · rw [if_neg e]
    have e1 : setF h.lay n (h.lay n ++ [b]) m = h.lay m := by unfold setF; rw [if_neg e]
    simp only [e1]
theorem readR_zero {h : HS} (hm : Mild h) {n : Int} (he : (readR h n).2.1 = 0) : (readR h n).1 = back h n 0 := by
  unfold readR at he ⊢
  split at he
  · rename_i ht
    rw [if_pos ht]
    dsimp only at he ⊢
    split at he
    · rename_i h0
      rw [if_pos h0]
      exact spoilt_mild hm n
    · rename_i h0; exact absurd he h0
  · cases he
theorem readR_err (h : HS) (n : Int) : (readR h n).2.1 ≤ 1000 := by
  unfold readR
  split
  · dsimp only
    split
    · dsimp only; omega
    · dsimp only
      unfold does
      split
      · (dsimp only; omega)
      · dsimp only
        split
        · (dsimp only; omega)
        · split <;> (dsimp only; omega)
  · dsimp only; omega
def Lain (s : PS) (h : HS) (n : Int) (t : Bytes) : Prop := (s.last n = none → t = List.replicate s.text 0#8) ∧ ∀ pl, s.last n = some pl → back h n 0 = pgSealB s.key pl t
def Right (s : PS) (h : HS) (n : Int) (t : Bytes) : Prop := (∀ f, frOf s n = some f → f.text = t) ∧ (changedAt s n = false → Lain s h n t)
structure Sound (s : PS) (h : HS) (b : Int → Bytes) : Prop where
  ok : Ok s
  over : Over s h
  mild : Mild h
  len : ∀ n, (b n).length = s.text
  right : s.err = 0 → ∀ n, Right s h n (b n)
theorem frOf_cleaned (s : PS) (n m : Int) : (cleaned s.held n).find? (fun f => f.page == m) = (frOf s m).map fun f => if f.page = n then { f with is := 1 } else f := by
  unfold cleaned frOf
  rw [List.find?_map]
  congr 1
  congr 1
  funext f
  simp only [Function.comp]
  split <;> rfl
theorem frOf_wrote (s : PS) (n m : Int) : frOf (wroteP s n) m = (frOf s m).map fun f => if f.page = n then { f with is := 1 } else f := frOf_cleaned s n m
theorem changed_wrote (s : PS) (n m : Int) : changedAt (wroteP s n) m = if m = n then false else changedAt s m := by
  unfold changedAt
  rw [frOf_wrote]
  cases hf : frOf s m with
  | none => simp
  | some f =>
    have hp := (frOf_mem hf).2
    simp only [Option.map_some, Option.getD_some]
    rw [hp]
    split
    · rfl
    · rfl
theorem frOf_use (s : PS) (f : Fr) (m : Int) : frOf (useP s f) m = if m = f.page then some f else frOf s m := by
  unfold frOf useP
  dsimp only
  rw [List.find?_append]
  by_cases e : m = f.page
  · rw [if_pos e, List.find?_eq_none.2 (by
      intro x hx
      have := (List.mem_filter.1 hx).2
      simp only [Bool.not_eq_true', beq_eq_false_iff_ne, ne_eq] at this
      simp [e, this])]
    simp [e]
  · rw [if_neg e]
    have e1 : (s.held.filter fun g => !(g.page == f.page)).find? (fun g => g.page == m) = s.held.find? fun g => g.page == m := by
      rw [List.find?_filter]
      congr 1
      funext x
      by_cases hx : x.page = m
      · simp [hx, e]
      · simp [hx]
    rw [e1]
    cases s.held.find? (fun g => g.page == m) with
    | some x => rfl
    | none =>
      have : ¬ f.page = m := fun hh => e hh.symm
      simp [this]
theorem changed_use (s : PS) (f : Fr) (m : Int) : changedAt (useP s f) m = if m = f.page then f.is == 2 else changedAt s m := by
  unfold changedAt
  rw [frOf_use]
  split <;> rfl
theorem frOf_tail {s : PS} (hk : Ok s) {x : Fr} {r : List Fr} (hh : s.held = x :: r) (m : Int) : frOf { s with held := s.held.tail } m = if m = x.page then none else frOf s m := by
  unfold frOf
  dsimp only
  rw [hh, List.tail_cons]
  have hn := hk.once
  unfold numbers at hn
  rw [hh, List.map_cons, List.nodup_cons] at hn
  by_cases e : m = x.page
  · rw [if_pos e, List.find?_eq_none]
    intro f hf
    simp only [beq_iff_eq]
    intro e2
    exact hn.1 (by rw [← e, ← e2]; exact List.mem_map.2 ⟨f, hf, rfl⟩)
  · rw [if_neg e, List.find?_cons_of_neg (by simp only [beq_iff_eq]; exact fun hh => e hh.symm)]
theorem changed_tail {s : PS} (hk : Ok s) {x : Fr} {r : List Fr} (hh : s.held = x :: r) (m : Int) : changedAt { s with held := s.held.tail } m = if m = x.page then false else changedAt s m := by
  unfold changedAt
  rw [frOf_tail hk hh]
  split <;> rfl
section
variable {s : PS} {h : HS} {b : Int → Bytes}
theorem writeP_errs (s : PS) (h : HS) (n : Int) : (writeP s h n).1 ≠ 0 → (writeP s h n).1 ≤ 1000 ∧ (writeP s h n).2.1 = die s (writeP s h n).1 := by
  unfold writeP
  split
  · intro _; exact ⟨by dsimp only; omega, rfl⟩
  · dsimp only
    split
    · intro hh; exact absurd rfl hh
    · intro _
      refine ⟨?_, rfl⟩
      dsimp only
      unfold writeR
      split
      · split
        · unfold does
          split
          · (dsimp only; omega)
          · dsimp only
            split
            · (dsimp only; omega)
            · split <;> (dsimp only; omega)
        · (dsimp only; omega)
      · (dsimp only; omega)
theorem writeP_zero {n : Int} (he : (writeP s h n).1 = 0) : s.writes ≠ 4294967295 ∧ (writeR h n (boxOf s n)).1 = 0 ∧ writeP s h n = (0, wroteP s n, (writeR h n (boxOf s n)).2) := by
  unfold writeP at he ⊢
  split at he
  · cases he
  · rename_i hw
    rw [if_neg hw]
    dsimp only at he ⊢
    split at he
    · rename_i h0; rw [if_pos h0]; exact ⟨hw, h0, rfl⟩
    · rename_i h0; exact absurd he h0
theorem writeP_host (n : Int) : (writeP s h n).2.2 = h ∨ (writeP s h n).2.2 = (writeR h n (boxOf s n)).2 := by
  unfold writeP
  split
  · exact .inl rfl
  · dsimp only
    split
    · exact .inr rfl
    · exact .inr rfl
theorem does_same (h : HS) (op page : Int) (b : Bytes) (act : HS → HS) (ha : ∀ s, (act s).pages = s.pages ∧ (act s).size = s.size) : (does h op page b act).1.pages = h.pages ∧ (does h op page b act).1.size = h.size := by
  have h2 := ha (logged h op page b)
  unfold does
  split
  · exact ⟨rfl, rfl⟩
  · dsimp only
    split
    · exact ⟨rfl, rfl⟩
    · split
      · exact h2
      · exact h2
theorem writeR_same (h : HS) (page : Int) (b : Bytes) : (writeR h page b).2.pages = h.pages ∧ (writeR h page b).2.size = h.size := by
  unfold writeR
  split
  · split
    · exact does_same h 1 page b _ (fun _ => ⟨rfl, rfl⟩)
    · exact ⟨rfl, rfl⟩
  · exact ⟨rfl, rfl⟩
theorem readR_same (h : HS) (page : Int) : (readR h page).2.2.pages = h.pages ∧ (readR h page).2.2.size = h.size := by
  have d := does_same h 0 page [] id (fun _ => ⟨rfl, rfl⟩)
  unfold readR
  split
  · dsimp only
    split
    · exact d
    · exact d
  · exact ⟨rfl, rfl⟩
theorem Sound.dead (hs : Sound s h b) (e : Nat) (h0 : e ≠ 0) (he : e ≤ 1000) {h' : HS} (hm : Mild h') (hp : h'.pages = h.pages ∧ h'.size = h.size) : Sound (die s e) h' b :=
  ⟨ok_die hs.ok e he, ⟨hp.1.trans hs.over.pages, hp.2.trans hs.over.size⟩, hm, hs.len, fun hh => absurd hh h0⟩
theorem Sound.write (hs : Sound s h b) (h0 : s.err = 0) {n : Int} (hn : n ∈ numbers s) : Sound (writeP s h n).2.1 (writeP s h n).2.2 b := by
  by_cases he : (writeP s h n).1 = 0
  · obtain ⟨hw, hz, e⟩ := writeP_zero he
    rw [e, writeR_zero hz]
    have hwl := hs.ok.writes
    refine ⟨ok_wrote hs.ok n (by omega), ⟨hs.over.pages, hs.over.size⟩, mild_taken hs.mild _ rfl _ rfl, hs.len, fun _ m => ?_⟩
    obtain ⟨r1, r2⟩ := hs.right h0 m
    refine ⟨?_, ?_⟩
    · intro f hf
      rw [frOf_wrote] at hf
      obtain ⟨g, hg, rfl⟩ := Option.map_eq_some_iff.1 hf
      have := r1 g hg
      split
      · exact this
      · exact this
    · intro hc
      rw [changed_wrote] at hc
      by_cases e1 : m = n
      · subst e1
        obtain ⟨f, hf⟩ := frOf_of hn
        refine ⟨fun hh => ?_, fun pl hh => ?_⟩
        · have : (wroteP s m).last m = some (nextPl s m) := by unfold wroteP setF; simp
          rw [this] at hh; cases hh
        · have : (wroteP s m).last m = some (nextPl s m) := by unfold wroteP setF; simp
          rw [this] at hh
          obtain rfl := Option.some.inj hh
          dsimp only
          rw [wrote_back, if_pos rfl]
          show boxOf s m = _
          unfold boxOf
          have : textOf s m = b m := by unfold textOf; rw [hf]; exact r1 f hf
          rw [this]; rfl
      · rw [if_neg e1] at hc
        obtain ⟨l1, l2⟩ := r2 hc
        have hl : (wroteP s n).last m = s.last m := by unfold wroteP setF; simp [e1]
        refine ⟨fun hh => l1 (hl ▸ hh), fun pl hh => ?_⟩
        dsimp only
        rw [wrote_back, if_neg e1]
        exact l2 pl (hl ▸ hh)
  · obtain ⟨e1, e2⟩ := writeP_errs s h n he
    rw [e2]
    rcases writeP_host (s := s) (h := h) n with e|e
    · rw [e]; exact hs.dead _ he e1 hs.mild ⟨rfl, rfl⟩
    · rw [e]; exact hs.dead _ he e1 (writeR_mild hs.mild _ _) (writeR_same _ _ _)
theorem writeP_numbers (s : PS) (h : HS) (n : Int) : numbers (writeP s h n).2.1 = numbers s ∧ (writeP s h n).2.1.window = s.window ∧ (writeP s h n).2.1.pages = s.pages ∧ (writeP s h n).2.1.text = s.text ∧ (writeP s h n).2.1.key = s.key ∧ (writeP s h n).2.1.round = s.round := by
  by_cases he : (writeP s h n).1 = 0
  · obtain ⟨_, _, e⟩ := writeP_zero he
    rw [e]
    exact ⟨cleaned_pages _ _, rfl, rfl, rfl, rfl, rfl⟩
  · obtain ⟨_, e⟩ := writeP_errs s h n he
    rw [e]
    exact ⟨rfl, rfl, rfl, rfl, rfl, rfl⟩
theorem Sound.tail (hs : Sound s h b) (hc : ∀ x r, s.held = x :: r → changedAt s x.page = false) : Sound { s with held := s.held.tail } h b := by
  cases hh : s.held with
  | nil =>
    have : ({ s with held := ([] : List Fr).tail } : PS) = s := by rw [List.tail_nil, ← hh]
    rw [this]; exact hs
  | cons x r =>
    rw [← hh]
    refine ⟨ok_tail hs.ok, ⟨hs.over.pages, hs.over.size⟩, hs.mild, hs.len, fun h0 m => ?_⟩
    obtain ⟨r1, r2⟩ := hs.right h0 m
    refine ⟨fun f hf => ?_, fun hcm => ?_⟩
    · rw [frOf_tail hs.ok hh] at hf
      split at hf
      · cases hf
      · exact r1 f hf
    · rw [changed_tail hs.ok hh] at hcm
      by_cases e : m = x.page
      · subst e
        exact r2 (hc x r hh)
      · rw [if_neg e] at hcm
        exact r2 hcm
theorem Sound.room (hs : Sound s h b) (h0 : s.err = 0) : Sound (roomP s h).2.1 (roomP s h).2.2 b ∧ ((roomP s h).1 = 0 → (roomP s h).2.1.err = 0) ∧ ((roomP s h).1 ≠ 0 → (roomP s h).2.1.err = (roomP s h).1) := by
  unfold roomP
  split
  · exact ⟨hs, fun _ => h0, fun hh => absurd rfl hh⟩
  · rename_i hl
    dsimp only
    have hw0 := hs.ok.w0
    obtain ⟨x, r, hh⟩ : ∃ x r, s.held = x :: r := by
      cases hh : s.held with
      | nil => rw [hh] at hl; simp at hl; omega
      | cons x r => exact ⟨x, r, rfl⟩
    have hd : (s.held.head?.map Fr.page).getD 0 = x.page := by rw [hh]; rfl
    rw [hd]
    have hx : x.page ∈ numbers s := by unfold numbers; rw [hh]; simp
    by_cases hc : changedAt s x.page = true
    · rw [if_pos hc]
      have hw := hs.write h0 hx
      split
      · rename_i hz
        obtain ⟨_, hz2, e⟩ := writeP_zero hz
        refine ⟨hw.tail ?_, fun _ => ?_, fun hh => absurd rfl hh⟩
        · intro y t ht
          have e2 : numbers (writeP s h x.page).2.1 = numbers s := (writeP_numbers s h x.page).1
          unfold numbers at e2
          rw [ht, hh, List.map_cons, List.map_cons] at e2
          obtain ⟨e3, _⟩ := List.cons.inj e2
          rw [e3, e]
          dsimp only
          rw [changed_wrote, if_pos rfl]
        · rw [e]; exact h0
      · rename_i hz
        refine ⟨hw, fun hh => absurd hh hz, fun _ => ?_⟩
        rw [(writeP_errs s h x.page hz).2]; rfl
    · rw [if_neg hc]
      refine ⟨?_, fun _ => h0, fun hh => absurd rfl hh⟩
      refine hs.tail ?_
      intro y t ht
      rw [hh] at ht
      obtain ⟨e3, _⟩ := List.cons.inj ht
      rw [← e3]
      simpa using hc
theorem Sound.use (hs : Sound s h b) (f : Fr) (b' : Int → Bytes) (hf : f.text = b' f.page) (hb : ∀ m, m ≠ f.page → b' m = b m) (hlen : f.text.length = s.text) (hr : (frOf s f.page).isSome = true ∨ s.held.length < s.window) (hp : 0 ≤ f.page ∧ f.page < s.pages) (hi : f.is ≤ 2)
    (hl : s.err = 0 → f.is ≠ 2 → Lain s h f.page f.text) : Sound (useP s f) h b' := by
  refine ⟨ok_use hs.ok hr hp hlen hi, ⟨hs.over.pages, hs.over.size⟩, hs.mild, fun n => ?_, fun h0 m => ?_⟩
  · by_cases e : n = f.page
    · rw [e, ← hf]; exact hlen
    · rw [hb n e]; exact hs.len n
  · obtain ⟨r1, r2⟩ := hs.right h0 m
    refine ⟨fun g hg => ?_, fun hc => ?_⟩
    · rw [frOf_use] at hg
      split at hg
      · rename_i e
        obtain rfl := Option.some.inj hg
        rw [e]; exact hf
      · rename_i e
        rw [hb m e]; exact r1 g hg
    · rw [changed_use] at hc
      split at hc
      · rename_i e
        rw [e, ← hf]
        exact hl h0 (by simpa using hc)
      · rename_i e
        rw [hb m e]; exact r2 hc
theorem Sound.read (hs : Sound s h b) (n : Int) : Sound s (readR h n).2.2 b := by
  obtain ⟨p1, p2⟩ := readR_same h n
  refine ⟨hs.ok, ⟨p1.trans hs.over.pages, p2.trans hs.over.size⟩, readR_mild hs.mild n, hs.len, fun h0 m => ?_⟩
  obtain ⟨r1, r2⟩ := hs.right h0 m
  refine ⟨r1, fun hc => ?_⟩
  obtain ⟨l1, l2⟩ := r2 hc
  exact ⟨l1, fun pl hh => by rw [readR_back]; exact l2 pl hh⟩
theorem changed_no {s : PS} {n : Int} (hn : n ∉ numbers s) : changedAt s n = false := by
  unfold changedAt
  cases hf : frOf s n with
  | none => rfl
  | some f => exact absurd (by obtain ⟨h1, h2⟩ := frOf_mem hf; rw [← h2]; exact List.mem_map.2 ⟨f, h1, rfl⟩) hn
theorem Sound.fetch (hs : Sound s h b) (h0 : s.err = 0) {n : Int} (hn : n ∉ numbers s) (hw : s.held.length < s.window) (hp : 0 ≤ n ∧ n < s.pages) :
    ∃ e, (fetchP s h n).1 = (if e = 0 then b n else [], e) ∧ Sound (fetchP s h n).2.1 (fetchP s h n).2.2 b ∧ (fetchP s h n).2.1.err = e := by
  obtain ⟨l1, l2⟩ := (hs.right h0 n).2 (changed_no hn)
  have hbl := hs.len n
  have ht1 := hs.ok.t1
  unfold fetchP
  cases hl : s.last n with
  | none =>
    dsimp only
    have e := l1 hl
    refine ⟨0, by rw [if_pos rfl, e], ?_, h0⟩
    exact hs.use _ b (by dsimp only; exact e.symm) (fun _ _ => rfl) (by simp) (.inr hw) hp (by dsimp only; omega) (fun _ _ => ⟨fun _ => rfl, fun pl hh => (by dsimp only at hh; rw [hl] at hh; cases hh)⟩)
  | some pl =>
    dsimp only
    have hs' := hs.read n
    by_cases hz : (readR h n).2.1 = 0
    · rw [if_pos hz, readR_zero hs.mild hz, l2 pl hl, pg_back _ _ _ (by omega)]
      refine ⟨0, rfl, ?_, h0⟩
      refine hs'.use _ b (by dsimp only) (fun _ _ => rfl) hbl (.inr hw) hp (by dsimp only; omega) (fun _ _ => ⟨fun hh => (by dsimp only at hh; rw [hl] at hh; cases hh), fun pl' hh => ?_⟩)
      dsimp only at hh ⊢
      rw [hl] at hh
      obtain rfl := Option.some.inj hh
      rw [readR_back]; exact l2 pl hl
    · rw [if_neg hz]
      have he := readR_err h n
      refine ⟨(readR h n).2.1, by rw [if_neg hz], hs.dead _ hz he (readR_mild hs.mild n) (readR_same h n), rfl⟩
theorem roomP_leaves (hk : Ok s) : (∀ n, n ∉ numbers s → n ∉ numbers (roomP s h).2.1) ∧ (roomP s h).2.1.window = s.window ∧ (roomP s h).2.1.pages = s.pages ∧ (roomP s h).2.1.text = s.text ∧ ((roomP s h).1 = 0 → (roomP s h).2.1.held.length < s.window) := by
  have tl : ∀ (x : PS) n, n ∉ numbers x → n ∉ numbers { x with held := x.held.tail } := fun x n hn hh => hn (by
    unfold numbers at hh ⊢
    obtain ⟨f, hf, e⟩ := List.mem_map.1 hh
    exact List.mem_map.2 ⟨f, List.mem_of_mem_tail hf, e⟩)
  have hw0 := hk.w0
  have hm := hk.many
  unfold roomP
  split
  · rename_i hl; exact ⟨fun _ h => h, rfl, rfl, rfl, fun _ => hl⟩
  · rename_i hl
    dsimp only
    obtain ⟨w1, w2, w3, w4, w5⟩ := writeP_numbers s h ((s.held.head?.map Fr.page).getD 0)
    have hlen : (writeP s h ((s.held.head?.map Fr.page).getD 0)).2.1.held.length = s.held.length := by
      have := congrArg List.length w1
      unfold numbers at this
      rwa [List.length_map, List.length_map] at this
    split
    · split
      · refine ⟨fun n hn => tl _ n (by rw [w1]; exact hn), w2, w3, w4, fun _ => ?_⟩
        show (writeP s h _).2.1.held.tail.length < _
        rw [List.length_tail, hlen]; omega
      · rename_i h0
        exact ⟨fun n hn => by rw [w1]; exact hn, w2, w3, w4, fun hh => absurd hh h0⟩
    · refine ⟨fun n hn => tl s n hn, rfl, rfl, rfl, fun _ => ?_⟩
      show s.held.tail.length < _
      rw [List.length_tail]; omega
theorem right_zero {n : Int} (h : rightP s n = 0) : s.err = 0 ∧ 0 ≤ n ∧ n < s.pages := by
  unfold rightP at h
  split at h
  · rename_i he; exact absurd h he
  · rename_i he
    split at h
    · cases h
    · rename_i hp; exact ⟨by omega, by omega, by omega⟩
theorem Sound.load (hs : Sound s h b) (n : Int) : ∃ e, (loadP s h n).1 = (if e = 0 then b n else [], e) ∧ Sound (loadP s h n).2.1 (loadP s h n).2.2 b ∧ (e = 0 → (loadP s h n).2.1.err = 0) ∧ (rightP s n = 0 → (loadP s h n).2.1.err = e) ∧ (rightP s n ≠ 0 → e = rightP s n) := by
  unfold loadP
  by_cases hr : rightP s n = 0
  · rw [if_pos hr]
    obtain ⟨h0, hp⟩ := right_zero hr
    cases hf : frOf s n with
    | some f =>
      dsimp only
      obtain ⟨f1, f2⟩ := frOf_mem hf
      obtain ⟨r1, r2⟩ := hs.right h0 n
      have htx := r1 f hf
      refine ⟨0, by rw [if_pos rfl, htx], ?_, fun _ => h0, fun _ => h0, fun hh => absurd hr hh⟩
      subst f2
      refine hs.use f b htx (fun _ _ => rfl) (hs.ok.len f f1) (.inl (by rw [hf]; rfl)) hp (hs.ok.is f f1) (fun _ hi => ?_)
      rw [htx]
      refine r2 ?_
      unfold changedAt
      rw [hf]
      simpa using hi
    | none =>
      dsimp only
      have hn := frOf_none hf
      obtain ⟨q1, q2, q3⟩ := hs.room h0
      obtain ⟨v1, v2, v3, v4, v5⟩ := roomP_leaves (h := h) hs.ok
      by_cases hz : (roomP s h).1 = 0
      · rw [if_pos hz]
        obtain ⟨e, e1, e2, e3⟩ := q1.fetch (q2 hz) (v1 n hn) (by rw [v2]; exact v5 hz) (by rw [v3]; exact hp)
        exact ⟨e, e1, e2, fun hh => e3.trans hh, fun _ => e3, fun hh => absurd hr hh⟩
      · rw [if_neg hz]
        exact ⟨(roomP s h).1, by rw [if_neg hz], q1, fun hh => absurd hh hz, fun _ => q3 hz, fun hh => absurd hr hh⟩
  · rw [if_neg hr]
    exact ⟨rightP s n, by rw [if_neg hr], hs, fun hh => absurd hh hr, fun hh => absurd hh hr, fun _ => rfl⟩
theorem Sound.save (hs : Sound s h b) (n : Int) (t : Bytes) : Sound (saveP s h n t).2.1 (saveP s h n t).2.2 (if (saveP s h n t).1 = 0 then setF b n t else b) ∧ ((saveP s h n t).1 = 0 → t.length = s.text ∧ rightP s n = 0 ∧ (saveP s h n t).2.1.err = 0) ∧ (rightP s n = 0 → t.length = s.text → (saveP s h n t).2.1.err = (saveP s h n t).1) ∧ (rightP s n ≠ 0 → (saveP s h n t).1 = rightP s n) ∧ (rightP s n = 0 → t.length ≠ s.text → (saveP s h n t).1 = 4) := by
  unfold saveP
  by_cases hr : rightP s n = 0
  · rw [if_pos hr]
    obtain ⟨h0, hp⟩ := right_zero hr
    by_cases ht : t.length = s.text
    · rw [if_pos ht]
      have put : ∀ (s1 : PS) (h1 : HS), Sound s1 h1 b → s1.text = s.text → s1.pages = s.pages → ((frOf s1 n).isSome = true ∨ s1.held.length < s1.window) → Sound (useP s1 ⟨n, t, 2⟩) h1 (setF b n t) := by
        intro s1 h1 hs1 e1 e2 e3
        refine hs1.use ⟨n, t, 2⟩ _ (by unfold setF; simp) (fun m hm => by unfold setF; rw [if_neg hm]) (by rw [e1]; exact ht) e3 (by rw [e2]; exact hp) (Nat.le_refl _) (fun _ hh => absurd rfl hh)
      cases hf : frOf s n with
      | some f =>
        dsimp only
        rw [if_pos rfl]
        exact ⟨put s h hs rfl rfl (.inl (by rw [hf]; rfl)), fun _ => ⟨ht, hr, h0⟩, fun _ _ => h0, fun hh => absurd hr hh, fun _ hh => absurd ht hh⟩
      | none =>
        dsimp only
        have hn := frOf_none hf
        obtain ⟨q1, q2, q3⟩ := hs.room h0
        obtain ⟨v1, v2, v3, v4, v5⟩ := roomP_leaves (h := h) hs.ok
        by_cases hz : (roomP s h).1 = 0
        · simp only [if_pos hz, if_true]
          exact ⟨put _ _ q1 v4 v3 (.inr (by rw [v2]; exact v5 hz)), fun _ => ⟨ht, hr, q2 hz⟩, fun _ _ => q2 hz, fun hh => absurd hr hh, fun _ hh => absurd ht hh⟩
        · simp only [if_neg hz]
          exact ⟨q1, fun hh => absurd hh hz, fun _ _ => q3 hz, fun hh => absurd hr hh, fun _ hh => absurd ht hh⟩
    · rw [if_neg ht]
      dsimp only
      rw [if_neg (by omega)]
      exact ⟨hs, fun hh => by omega, fun _ hh => absurd hh ht, fun hh => absurd hr hh, fun _ _ => rfl⟩
  · rw [if_neg hr]
    dsimp only
    rw [if_neg hr]
    exact ⟨hs, fun hh => absurd hh hr, fun hh => absurd hh hr, fun _ => rfl, fun hh => absurd hh hr⟩
theorem sound_fresh {key : Bytes} {round : BitVec 64} {window : Nat} {pages : Int} {text : Nat} (hk : Ok (freshP key round window pages text)) {h : HS} (hp : h.pages = pages) (hz : h.size = text + 28) (hm : Mild h) : Sound (freshP key round window pages text) h (fun _ => List.replicate text 0#8) :=
  ⟨hk, ⟨hp, hz⟩, hm, fun _ => by simp [freshP], fun _ n => ⟨fun f hf => (by unfold frOf freshP at hf; cases hf), fun _ => ⟨fun _ => rfl, fun pl hh => by cases hh⟩⟩⟩
end
end Go.Sl.PagerS
namespace Go.Sl.PagerS
open Go Go.Sl Go.Sl.HostS
attribute [local irreducible] pgSealB pgOpenR
theorem does_ops (h : HS) (op page : Int) (b : Bytes) (act : HS → HS) (ha : ∀ s, (act s).ops = s.ops) : (does h op page b act).1.ops ≤ h.ops + 1 := by
  have h2 := ha (logged h op page b)
  unfold does
  split
  · exact Nat.le_succ _
  · dsimp only
    split
    · exact Nat.le_refl _
    · split
      · exact Nat.le_of_eq h2
      · exact Nat.le_of_eq h2
theorem writeR_ops (h : HS) (page : Int) (b : Bytes) : (writeR h page b).2.ops ≤ h.ops + 1 := by
  unfold writeR
  split
  · split
    · exact does_ops h 1 page b _ fun _ => rfl
    · exact Nat.le_succ _
  · exact Nat.le_succ _
theorem readR_ops (h : HS) (page : Int) : (readR h page).2.2.ops ≤ h.ops + 1 := by
  have d := does_ops h 0 page [] id fun _ => rfl
  unfold readR
  split
  · dsimp only
    split <;> exact d
  · exact Nat.le_succ _
structure Near (k m : Nat) (s : PS) (h : HS) (s' : PS) (h' : HS) : Prop where
  ops : h'.ops ≤ h.ops + k
  writes : s'.writes ≤ s.writes + m
  pages : h'.pages = h.pages
  size : h'.size = h.size
  spages : s'.pages = s.pages
  text : s'.text = s.text
  key : s'.key = s.key
  round : s'.round = s.round
  window : s'.window = s.window
theorem Near.refl (k m : Nat) (s : PS) (h : HS) : Near k m s h s h := ⟨Nat.le_add_right _ _, Nat.le_add_right _ _, rfl, rfl, rfl, rfl, rfl, rfl, rfl⟩
theorem Near.trans {k m k' m' k2 m2 : Nat} {s s' s2 : PS} {h h' h2 : HS} (a : Near k m s h s' h') (b : Near k' m' s' h' s2 h2) (hk : k + k' ≤ k2) (hm : m + m' ≤ m2) : Near k2 m2 s h s2 h2 :=
  ⟨by have := a.ops; have := b.ops; omega, by have := a.writes; have := b.writes; omega, b.pages.trans a.pages, b.size.trans a.size, b.spages.trans a.spages, b.text.trans a.text, b.key.trans a.key, b.round.trans a.round, b.window.trans a.window⟩
theorem Near.over {k m : Nat} {s s' : PS} {h h' : HS} (a : Near k m s h s' h') (ho : Over s h) : Over s' h' := ⟨a.pages.trans (ho.pages.trans a.spages.symm), by rw [a.size, ho.size, a.text]⟩
theorem near_write (s : PS) (h : HS) (n : Int) : Near 1 1 s h (writeP s h n).2.1 (writeP s h n).2.2 := by
  have w1 := writeR_same h n (boxOf s n)
  have w2 := writeR_ops h n (boxOf s n)
  unfold writeP
  split
  · exact ⟨Nat.le_add_right _ _, Nat.le_add_right _ _, rfl, rfl, rfl, rfl, rfl, rfl, rfl⟩
  · dsimp only
    split
    · exact ⟨w2, Nat.le_refl _, w1.1, w1.2, rfl, rfl, rfl, rfl, rfl⟩
    · exact ⟨w2, Nat.le_add_right _ _, w1.1, w1.2, rfl, rfl, rfl, rfl, rfl⟩
theorem near_held {k m : Nat} {s : PS} {h : HS} {s' : PS} {h' : HS} (a : Near k m s h s' h') (l : List Fr) (n : Nat) : Near k m s h { s' with held := l, most := n } h' := ⟨a.ops, a.writes, a.pages, a.size, a.spages, a.text, a.key, a.round, a.window⟩
theorem near_room (s : PS) (h : HS) : Near 1 1 s h (roomP s h).2.1 (roomP s h).2.2 := by
  unfold roomP
  split
  · exact Near.refl ..
  · dsimp only
    have w := near_write s h ((s.held.head?.map Fr.page).getD 0)
    split
    · split
      · exact near_held w _ _
      · exact w
    · exact near_held (Near.refl 1 1 s h) _ _
theorem near_use {k m : Nat} {s : PS} {h : HS} {s' : PS} {h' : HS} (a : Near k m s h s' h') (f : Fr) : Near k m s h (useP s' f) h' := near_held a _ _
theorem near_fetch (s : PS) (h : HS) (n : Int) : Near 1 0 s h (fetchP s h n).2.1 (fetchP s h n).2.2 := by
  have r1 := readR_same h n
  have r2 := readR_ops h n
  have r : Near 1 0 s h s (readR h n).2.2 := ⟨r2, Nat.le_refl _, r1.1, r1.2, rfl, rfl, rfl, rfl, rfl⟩
  unfold fetchP
  split
  · dsimp only
    split
    · split
      · exact near_use r _
      · exact ⟨r.ops, r.writes, r.pages, r.size, rfl, rfl, rfl, rfl, rfl⟩
    · exact ⟨r.ops, r.writes, r.pages, r.size, rfl, rfl, rfl, rfl, rfl⟩
  · exact near_use (Near.refl 1 0 s h) _
theorem near_load (s : PS) (h : HS) (n : Int) : Near 2 1 s h (loadP s h n).2.1 (loadP s h n).2.2 := by
  unfold loadP
  split
  · split
    · exact near_use (Near.refl 2 1 s h) _
    · have a := near_room s h
      have b := near_fetch (roomP s h).2.1 (roomP s h).2.2 n
      dsimp only
      split
      · exact a.trans b (by omega) (by omega)
      · exact a.trans (Near.refl 0 0 _ _) (by omega) (by omega)
  · exact Near.refl ..
theorem near_save (s : PS) (h : HS) (n : Int) (t : Bytes) : Near 1 1 s h (saveP s h n t).2.1 (saveP s h n t).2.2 := by
  unfold saveP
  split
  · split
    · split
      · exact near_use (Near.refl 1 1 s h) _
      · have a := near_room s h
        dsimp only
        split
        · exact near_use a _
        · exact a
    · exact Near.refl ..
  · exact Near.refl ..
structure Calm (h : HS) : Prop where
  up : h.down = false
  calm : ∀ k, h.coming k = []
theorem does_calm {h : HS} (hc : Calm h) (op n : Int) (b : Bytes) (act : HS → HS) : does h op n b act = (act (logged h op n b), 0) := by
  unfold does
  rw [if_neg (by rw [hc.up]; simp), hc.calm h.ops]
  rfl
theorem calm_logged {h : HS} (hc : Calm h) (op n : Int) (b : Bytes) : Calm (logged h op n b) := ⟨hc.up, fun k => by
  show setF h.coming h.ops [] k = []
  unfold setF
  split
  · rfl
  · exact hc.calm k⟩
theorem writeR_calm {h : HS} (hc : Calm h) {n : Int} {b : Bytes} (ht : there h n) (hl : b.length = h.size) : writeR h n b = (0, wrote n b (logged h 1 n b)) := by
  unfold writeR
  rw [if_pos ht, if_pos hl, does_calm hc]
theorem readR_calm {h : HS} (hc : Calm h) {n : Int} (ht : there h n) : readR h n = (back h n 0, 0, logged h 0 n []) := by
  unfold readR
  rw [if_pos ht, does_calm hc]
  dsimp only
  rw [if_pos rfl, hc.calm]; rfl
structure Quiet (s : PS) (h : HS) (b : Int → Bytes) : Prop where
  sound : Sound s h b
  calm : Calm h
  err : s.err = 0
section
variable {s : PS} {h : HS} {b : Int → Bytes}
theorem Quiet.write (hq : Quiet s h b) (hw : s.writes < 4294967295) {n : Int} (hn : n ∈ numbers s) : (writeP s h n).1 = 0 ∧ Quiet (writeP s h n).2.1 (writeP s h n).2.2 b := by
  obtain ⟨f, hf⟩ := frOf_of hn
  obtain ⟨f1, f2⟩ := frOf_mem hf
  obtain ⟨p1, p2⟩ := hq.sound.ok.there f f1
  have ht : there h n := ⟨by omega, by rw [hq.sound.over.pages]; omega⟩
  have hl : (boxOf s n).length = h.size := by
    unfold boxOf textOf
    rw [pgSealB_len, hf, hq.sound.over.size]
    have := hq.sound.ok.len f f1
    simp [this]
  have hr := writeR_calm hq.calm ht hl
  have h0 : (writeP s h n).1 = 0 := by
    unfold writeP
    rw [if_neg (by omega), hr]
    rfl
  obtain ⟨_, hz, e⟩ := writeP_zero h0
  refine ⟨h0, hq.sound.write hq.err hn, ?_, ?_⟩
  · rw [e, hr]
    have := calm_logged hq.calm 1 n (boxOf s n)
    exact ⟨this.up, this.calm⟩
  · rw [e]; exact hq.err
theorem Quiet.room (hq : Quiet s h b) (hw : s.writes < 4294967295) : (roomP s h).1 = 0 ∧ Quiet (roomP s h).2.1 (roomP s h).2.2 b := by
  have key : (roomP s h).1 = 0 ∧ Calm (roomP s h).2.2 := by
    unfold roomP
    split
    · exact ⟨rfl, hq.calm⟩
    · rename_i hl
      dsimp only
      split
      · rename_i hc
        have hn : (s.held.head?.map Fr.page).getD 0 ∈ numbers s := by
          by_cases hh : (s.held.head?.map Fr.page).getD 0 ∈ numbers s
          · exact hh
          · rw [changed_no hh] at hc; cases hc
        obtain ⟨w1, w2⟩ := hq.write hw hn
        rw [if_pos w1]
        exact ⟨rfl, w2.calm⟩
      · exact ⟨rfl, hq.calm⟩
  obtain ⟨q1, q2, q3⟩ := hq.sound.room hq.err
  exact ⟨key.1, q1, key.2, q2 key.1⟩
theorem Quiet.load (hq : Quiet s h b) (hw : s.writes < 4294967295) {n : Int} (h0 : 0 ≤ n) (h1 : n < s.pages) : (loadP s h n).1 = (b n, 0) ∧ Quiet (loadP s h n).2.1 (loadP s h n).2.2 b := by
  have hr : rightP s n = 0 := by
    unfold rightP
    rw [if_neg (by rw [hq.err]; simp), if_neg (by omega)]
  have key : (loadP s h n).1.2 = 0 ∧ Calm (loadP s h n).2.2 := by
    unfold loadP
    rw [if_pos hr]
    cases hf : frOf s n with
    | some f => exact ⟨rfl, hq.calm⟩
    | none =>
      dsimp only
      obtain ⟨r1, r2⟩ := hq.room hw
      obtain ⟨v1, v2, v3, v4, v5⟩ := roomP_leaves (h := h) hq.sound.ok
      rw [if_pos r1]
      have hn1 := v1 n (frOf_none hf)
      have hl1 := v5 r1
      rw [← v2] at hl1
      have hp1 : n < (roomP s h).2.1.pages := by rw [v3]; exact h1
      generalize (roomP s h).2.1 = s1 at *
      generalize (roomP s h).2.2 = h1 at *
      obtain ⟨e, e1, e2, e3⟩ := r2.sound.fetch r2.err hn1 hl1 ⟨h0, hp1⟩
      have ht : there h1 n := ⟨h0, by rw [r2.sound.over.pages]; exact hp1⟩
      have hrd := readR_calm r2.calm ht
      obtain ⟨_, l2⟩ := (r2.sound.right r2.err n).2 (changed_no hn1)
      have hbl := r2.sound.len n
      have ht1 := r2.sound.ok.t1
      unfold fetchP
      cases hl : s1.last n with
      | none => exact ⟨rfl, r2.calm⟩
      | some pl =>
        dsimp only
        rw [hrd]
        dsimp only
        rw [if_pos rfl, l2 pl hl, pg_back _ _ _ (by omega)]
        exact ⟨rfl, calm_logged r2.calm _ _ _⟩
  obtain ⟨e, e1, e2, e3, e4, e5⟩ := hq.sound.load n
  have h2 : (loadP s h n).1.2 = e := by rw [e1]
  rw [key.1] at h2
  subst h2
  exact ⟨by rw [e1, if_pos rfl], e2, key.2, e3 rfl⟩
theorem Quiet.save (hq : Quiet s h b) (hw : s.writes < 4294967295) {n : Int} (h0 : 0 ≤ n) (h1 : n < s.pages) {t : Bytes} (ht : t.length = s.text) : (saveP s h n t).1 = 0 ∧ Quiet (saveP s h n t).2.1 (saveP s h n t).2.2 (setF b n t) := by
  have hr : rightP s n = 0 := by
    unfold rightP
    rw [if_neg (by rw [hq.err]; simp), if_neg (by omega)]
  have key : (saveP s h n t).1 = 0 ∧ Calm (saveP s h n t).2.2 := by
    unfold saveP
    rw [if_pos hr, if_pos ht]
    cases hf : frOf s n with
    | some f => exact ⟨rfl, hq.calm⟩
    | none =>
      dsimp only
      obtain ⟨r1, r2⟩ := hq.room hw
      rw [if_pos r1]
      exact ⟨rfl, r2.calm⟩
  obtain ⟨q1, q2, q3, q4, q5⟩ := hq.sound.save n t
  rw [if_pos key.1] at q1
  exact ⟨key.1, q1, key.2, (q2 key.1).2.2⟩
theorem quiet_fresh {key : Bytes} {round : BitVec 64} {window : Nat} {pages : Int} {text : Nat} (hk : Ok (freshP key round window pages text)) {h : HS} (hp : h.pages = pages) (hz : h.size = text + 28) (hc : Calm h) : Quiet (freshP key round window pages text) h (fun _ => List.replicate text 0#8) :=
  ⟨sound_fresh hk hp hz (fun k f hf => by rw [hc.calm k] at hf; cases hf), hc, rfl⟩
end
theorem calm_fresh (pages : Int) (size : Nat) : Calm (fresh pages size []) := ⟨rfl, fun _ => rfl⟩
end Go.Sl.PagerS
namespace Go.Sl.PagerS
open Go Go.Sl Go.Sl.HostS
attribute [local irreducible] pgSealB pgOpenR
def chg (s : PS) : Nat := s.held.countP fun f => f.is == 2
section
variable {s : PS} {h : HS}
theorem room_err (hk : Ok s) (h0 : s.err = 0) (hz : (roomP s h).1 = 0) : (roomP s h).2.1.err = 0 := by
  unfold roomP at hz ⊢
  split
  · exact h0
  · rename_i hl
    rw [if_neg hl] at hz
    dsimp only at hz ⊢
    split
    · rename_i hc
      rw [if_pos hc] at hz
      split
      · rename_i hw
        obtain ⟨_, _, e⟩ := writeP_zero hw
        rw [e]; exact h0
      · rename_i hw; rw [if_neg hw] at hz; exact absurd hz hw
    · exact h0
end
end Go.Sl.PagerS
namespace Go.Sl.PagerS
open Go Go.Sl Go.Sl.HostS
attribute [local irreducible] pgSealB pgOpenR
def wrs (l : List HostS.Touch) : Nat := l.countP fun t => t.op == 1
def Entry (r : BitVec 64) (pages : Int) (size : Nat) (was : List HostS.Touch) (t : HostS.Touch) : Prop :=
  t.len = size ∧ 0 ≤ t.page ∧ t.page < pages ∧ ((t.op = 0 ∧ t.head = List.replicate 12 0#8 ∧ ∃ u ∈ was, u.op = 1 ∧ u.page = t.page) ∨ (t.op = 1 ∧ t.head = leB r 8 ++ leB (BitVec.ofNat 32 (wrs was)) 4))
def Heads (r : BitVec 64) (pages : Int) (size : Nat) (l : List HostS.Touch) : Prop := ∀ i (hi : i < l.length), Entry r pages size (l.take i) l[i]
theorem Heads.snoc {r : BitVec 64} {pages : Int} {size : Nat} {l : List HostS.Touch} {t : HostS.Touch} (h : Heads r pages size l) (ht : Entry r pages size l t) : Heads r pages size (l ++ [t]) := by
  intro i hi
  by_cases e : i < l.length
  · rw [List.getElem_append_left e, List.take_append_of_le_length (Nat.le_of_lt e)]
    exact h i e
  · have e : i = l.length := by rw [List.length_append, List.length_singleton] at hi; omega
    subst e
    rw [List.getElem_append_right (Nat.le_refl _), List.take_left]
    simpa using ht
structure HI (s : PS) (h : HS) : Prop where
  heads : Heads s.round s.pages h.size h.log
  now : s.err = 0 → wrs h.log = s.writes
  then_ : wrs h.log = s.writes ∨ (wrs h.log = s.writes + 1 ∧ s.err = 110)
  last : ∀ n pl, s.last n = some pl → ∃ u ∈ h.log, u.op = 1 ∧ u.page = n
  over : Over s h
theorem does_log (h : HS) (op n : Int) (b : Bytes) (act : HS → HS) (ha : ∀ g, (act g).log = g.log) : ((does h op n b act).1.log = h.log ∧ (does h op n b act).2 = 110) ∨ ((does h op n b act).1.log = h.log ++ [touchOf h op n b] ∧ ((does h op n b act).2 = 0 ∨ (does h op n b act).2 = 110)) := by
  unfold does
  split
  · exact .inl ⟨rfl, rfl⟩
  · dsimp only
    split
    · exact .inl ⟨rfl, rfl⟩
    · split
      · exact .inr ⟨ha _, .inr rfl⟩
      · exact .inr ⟨ha _, .inl rfl⟩
theorem headOf_box (key : Bytes) (p : Plc) (t : Bytes) : headOf (pgSealB key p t) = headB p := by
  unfold headOf
  rw [pgSeal_head, pgSealB_len, show 12 - (t.length + 28) = 0 by omega]; simp
section
variable {s : PS} {h : HS}
theorem HI.there (hi : HI s h) {n : Int} (h0 : 0 ≤ n) (h1 : n < s.pages) : there h n := ⟨h0, by rw [hi.over.pages]; exact h1⟩
theorem box_len (hk : Ok s) {n : Int} (hn : n ∈ numbers s) : (boxOf s n).length = s.text + 28 ∧ 0 ≤ n ∧ n < s.pages := by
  obtain ⟨f, hf⟩ := frOf_of hn
  obtain ⟨f1, f2⟩ := frOf_mem hf
  have := hk.len f f1
  have hp := hk.there f f1
  refine ⟨?_, by omega, by omega⟩
  unfold boxOf textOf
  rw [pgSealB_len, hf]
  simp [this]
theorem HI.write (hi : HI s h) (hk : Ok s) (h0 : s.err = 0) {n : Int} (hn : n ∈ numbers s) : HI (writeP s h n).2.1 (writeP s h n).2.2 := by
  obtain ⟨b1, b2, b3⟩ := box_len hk hn
  have ht := hi.there b2 b3
  have hnow := hi.now h0
  have ho' := (near_write s h n).over hi.over
  have hw : writeR h n (boxOf s n) = ((does h 1 n (boxOf s n) (wrote n (boxOf s n))).2, (does h 1 n (boxOf s n) (wrote n (boxOf s n))).1) := by
    unfold writeR
    rw [if_pos ht, if_pos (b1.trans hi.over.size.symm)]
  have htouch : touchOf h 1 n (boxOf s n) = ⟨1, n, h.size, headB (nextPl s n)⟩ := by
    unfold touchOf
    rw [if_pos rfl]
    unfold boxOf
    rw [headOf_box]
  have hent : Entry s.round s.pages h.size h.log (touchOf h 1 n (boxOf s n)) := by
    rw [htouch]
    refine ⟨rfl, b2, b3, .inr ⟨rfl, ?_⟩⟩
    rw [hnow]; rfl
  have hlw : ∀ l, l = h.log ++ [touchOf h 1 n (boxOf s n)] → wrs l = wrs h.log + 1 := by
    intro l hl
    rw [hl, htouch]
    unfold wrs
    rw [List.countP_append]
    simp
  have hz : (writeP s h n).2.2.size = h.size := (near_write s h n).size
  have hlg := does_log h 1 n (boxOf s n) (wrote n (boxOf s n)) fun _ => rfl
  by_cases he : (writeP s h n).1 = 0
  · obtain ⟨hwn, hwz, e⟩ := writeP_zero he
    rw [hw] at hwz
    dsimp only at hwz
    have hl : (writeP s h n).2.2.log = h.log ++ [touchOf h 1 n (boxOf s n)] := by
      rw [e, hw]
      rcases hlg with ⟨_, hx⟩|⟨hx, _⟩
      · rw [hwz] at hx; cases hx
      · exact hx
    refine ⟨?_, ?_, ?_, ?_, ho'⟩
    · rw [hz, hl, e]; exact hi.heads.snoc hent
    · intro _; rw [hlw _ hl, hnow, e]; rfl
    · left; rw [hlw _ hl, hnow, e]; rfl
    · intro m pl hm
      rw [hl]
      by_cases em : m = n
      · exact ⟨touchOf h 1 n (boxOf s n), by simp, by rw [htouch], by rw [htouch, em]⟩
      · rw [e] at hm
        have : (wroteP s n).last m = s.last m := by unfold wroteP setF; simp [em]
        dsimp only at hm
        rw [this] at hm
        obtain ⟨u, u1, u2⟩ := hi.last m pl hm
        exact ⟨u, List.mem_append_left _ u1, u2⟩
  · obtain ⟨_, e⟩ := writeP_errs s h n he
    have hlast : ∀ L : List HostS.Touch, (∀ u ∈ h.log, u ∈ L) → ∀ m pl, (writeP s h n).2.1.last m = some pl → ∃ u ∈ L, u.op = 1 ∧ u.page = m := by
      intro L hL m pl hm
      rw [e] at hm
      obtain ⟨u, u1, u2⟩ := hi.last m pl hm
      exact ⟨u, hL u u1, u2⟩
    have hwr : (writeP s h n).2.1.writes = s.writes := by rw [e]; rfl
    have herr : (writeP s h n).2.1.err = (writeP s h n).1 := by rw [e]; rfl
    have hro : (writeP s h n).2.1.round = s.round ∧ (writeP s h n).2.1.pages = s.pages := by rw [e]; exact ⟨rfl, rfl⟩
    have hcase : ((writeP s h n).2.2.log = h.log) ∨ ((writeP s h n).2.2.log = h.log ++ [touchOf h 1 n (boxOf s n)] ∧ (writeP s h n).1 = 110) := by
      by_cases hwn : s.writes = 4294967295
      · left
        unfold writeP
        rw [if_pos hwn]
      · have e3 : writeP s h n = if (writeR h n (boxOf s n)).1 = 0 then (0, wroteP s n, (writeR h n (boxOf s n)).2) else ((writeR h n (boxOf s n)).1, die s (writeR h n (boxOf s n)).1, (writeR h n (boxOf s n)).2) := by
          unfold writeP
          rw [if_neg hwn]
        rw [e3] at he ⊢
        rw [hw] at he ⊢
        dsimp only at he ⊢
        split at he
        · exact absurd rfl he
        · rename_i hne
          rw [if_neg hne]
          rcases hlg with ⟨hx, _⟩|⟨hx, hy⟩
          · exact .inl hx
          · rcases hy with hy|hy
            · exact absurd hy hne
            · exact .inr ⟨hx, hy⟩
    rcases hcase with hl|⟨hl, h110⟩
    · refine ⟨by rw [hz, hl, hro.1, hro.2]; exact hi.heads, fun hh => absurd (herr ▸ hh) he, .inl (by rw [hl, hwr]; exact hnow), by rw [hl]; exact hlast _ fun _ h => h, ho'⟩
    · refine ⟨by rw [hz, hl, hro.1, hro.2]; exact hi.heads.snoc hent, fun hh => absurd (herr ▸ hh) he, .inr ⟨by rw [hlw _ hl, hwr, hnow], by rw [herr]; exact h110⟩, by rw [hl]; exact hlast _ fun _ h => List.mem_append_left _ h, ho'⟩
theorem HI.held (hi : HI s h) (l : List Fr) (m : Nat) : HI { s with held := l, most := m } h := ⟨hi.heads, hi.now, hi.then_, hi.last, ⟨hi.over.pages, hi.over.size⟩⟩
theorem HI.room (hi : HI s h) (hk : Ok s) (h0 : s.err = 0) : HI (roomP s h).2.1 (roomP s h).2.2 := by
  unfold roomP
  split
  · exact hi
  · dsimp only
    split
    · rename_i hc
      have hn : (s.held.head?.map Fr.page).getD 0 ∈ numbers s := by
        by_cases hh : (s.held.head?.map Fr.page).getD 0 ∈ numbers s
        · exact hh
        · rw [changed_no hh] at hc; cases hc
      have hw := hi.write hk h0 hn
      split
      · exact hw.held _ _
      · exact hw
    · exact hi.held _ _
theorem readR_log (h : HS) (n : Int) (ht : HostS.there h n) : (readR h n).2.2.log = h.log ∨ (readR h n).2.2.log = h.log ++ [⟨0, n, h.size, List.replicate 12 0#8⟩] := by
  have e : (readR h n).2.2 = (does h 0 n [] id).1 := by
    unfold readR
    rw [if_pos ht]
    dsimp only
    split <;> rfl
  rw [e]
  rcases does_log h 0 n [] id fun _ => rfl with ⟨hx, _⟩|⟨hx, _⟩
  · exact .inl hx
  · exact .inr hx
theorem readR_err3 (h : HS) (n : Int) (ht : HostS.there h n) : (readR h n).2.1 = 0 ∨ (readR h n).2.1 = 110 := by
  have e : (readR h n).2.1 = (does h 0 n [] id).2 := by
    unfold readR
    rw [if_pos ht]
    dsimp only
    split
    · rename_i hz; exact hz.symm
    · rfl
  rw [e]
  rcases does_log h 0 n [] id fun _ => rfl with ⟨_, hx⟩|⟨_, hx⟩
  · exact .inr hx
  · exact hx
theorem HI.read (hi : HI s h) {n : Int} (h0 : 0 ≤ n) (h1 : n < s.pages) {pl : Plc} (hl : s.last n = some pl) : HI s (readR h n).2.2 := by
  have hs := readR_same h n
  have ho : Over s (readR h n).2.2 := ⟨hs.1.trans hi.over.pages, hs.2.trans hi.over.size⟩
  rcases readR_log h n (hi.there h0 h1) with e|e
  · exact ⟨by rw [e, hs.2]; exact hi.heads, by rw [e]; exact hi.now, by rw [e]; exact hi.then_, by rw [e]; exact hi.last, ho⟩
  · have hw : wrs (h.log ++ [⟨0, n, h.size, List.replicate 12 0#8⟩]) = wrs h.log := by unfold wrs; rw [List.countP_append]; simp
    refine ⟨?_, by rw [e, hw]; exact hi.now, by rw [e, hw]; exact hi.then_, ?_, ho⟩
    · rw [e, hs.2]
      exact hi.heads.snoc ⟨rfl, h0, h1, .inl ⟨rfl, rfl, hi.last n pl hl⟩⟩
    · intro m pl hm
      rw [e]
      obtain ⟨u, u1, u2⟩ := hi.last m pl hm
      exact ⟨u, List.mem_append_left _ u1, u2⟩
theorem HI.die (hi : HI s h) (h0 : s.err = 0) (e : Nat) : HI (die s e) h := by
  exact ⟨hi.heads, fun _ => hi.now h0, .inl (hi.now h0), hi.last, ⟨hi.over.pages, hi.over.size⟩⟩
theorem open_err (key : Bytes) (pl : Plc) (b : Bytes) : (pgOpenR key pl b).2 = 0 ∨ (pgOpenR key pl b).2 = 120 := by
  by_cases hh : pgOpens key pl b
  · left; rw [pgOpenR_yes _ _ _ hh]
  · right; rw [pgOpenR_not _ _ _ hh]
theorem HI.use (hi : HI s h) (f : Fr) : HI (useP s f) h := hi.held _ _
theorem HI.fetch (hi : HI s h) (h0 : s.err = 0) {n : Int} (hp : 0 ≤ n ∧ n < s.pages) : HI (fetchP s h n).2.1 (fetchP s h n).2.2 := by
  unfold fetchP
  split
  · rename_i pl hl
    have hr := hi.read hp.1 hp.2 hl
    dsimp only
    split
    · split
      · exact hr.use _
      · exact hr.die h0 _
    · exact hr.die h0 _
  · exact hi.use _
theorem HI.load (hi : HI s h) (hk : Ok s) (n : Int) : HI (loadP s h n).2.1 (loadP s h n).2.2 := by
  unfold loadP
  split
  · rename_i hr
    obtain ⟨h0, hp⟩ := right_zero hr
    split
    · exact hi.use _
    · have a := hi.room hk h0
      dsimp only
      split
      · rename_i hz
        exact a.fetch (room_err hk h0 hz) (by rw [(near_room s h).spages]; exact hp)
      · exact a
  · exact hi
theorem HI.save (hi : HI s h) (hk : Ok s) (n : Int) (t : Bytes) : HI (saveP s h n t).2.1 (saveP s h n t).2.2 := by
  unfold saveP
  split
  · rename_i hr
    obtain ⟨h0, hp⟩ := right_zero hr
    split
    · split
      · exact hi.use _
      · have a := hi.room hk h0
        dsimp only
        split
        · exact a.use _
        · exact a
    · exact hi
  · exact hi
theorem hi_fresh {key : Bytes} {round : BitVec 64} {window : Nat} {pages : Int} {text : Nat} {h : HS} (hl : h.log = []) (ho : Over (freshP key round window pages text) h) : HI (freshP key round window pages text) h :=
  ⟨(by rw [hl]; intro i hi; simp at hi), fun _ => (by rw [hl]; rfl), .inl (by rw [hl]; rfl), fun n pl hh => (by cases hh), ho⟩
end
end Go.Sl.PagerS
namespace Go.Sl.PagerS
open Go Go.Sl Go.Sl.HostS
attribute [local irreducible] pgSealB pgOpenR
structure HRel (h g : HS) : Prop where
  pages : h.pages = g.pages
  size : h.size = g.size
  ops : h.ops = g.ops
  log : h.log = g.log
  down : h.down = g.down
  coming : ∀ k, before (h.coming k) = before (g.coming k) ∧ behind (h.coming k) = behind (g.coming k)
abbrev pi (f : Fr) : Int × Nat := (f.page, f.is)
structure SRel (s t : PS) : Prop where
  held : s.held.map pi = t.held.map pi
  round : s.round = t.round
  window : s.window = t.window
  pages : s.pages = t.pages
  text : s.text = t.text
  most : s.most = t.most
  writes : s.writes = t.writes
  err : s.err = t.err
  last : s.last = t.last
section
variable {s t : PS} {h g : HS}
theorem SRel.len (r : SRel s t) : s.held.length = t.held.length := by
  have := congrArg List.length r.held
  rwa [List.length_map, List.length_map] at this
theorem SRel.numbers (r : SRel s t) : numbers s = numbers t := by
  have := congrArg (List.map Prod.fst) r.held
  rw [List.map_map, List.map_map] at this
  exact this
theorem find_pi (l : List Fr) (n : Int) : (l.find? fun f => f.page == n).map pi = (l.map pi).find? fun x => x.1 == n := by
  rw [List.find?_map]; rfl
theorem changed_pi (s : PS) (n : Int) : changedAt s n = ((((s.held.map pi).find? fun x => x.1 == n).map Prod.snd).getD 0 == 2) := by
  unfold changedAt frOf
  rw [← find_pi, Option.map_map]
  rfl
theorem SRel.changed (r : SRel s t) (n : Int) : changedAt s n = changedAt t n := by rw [changed_pi, changed_pi, r.held]
theorem SRel.right (r : SRel s t) (n : Int) : rightP s n = rightP t n := by unfold rightP; rw [r.err, r.pages]
theorem SRel.frOf (r : SRel s t) (n : Int) : (frOf s n).map pi = (frOf t n).map pi := by unfold PagerS.frOf; rw [find_pi, find_pi, r.held]
theorem SRel.next (r : SRel s t) (n : Int) : nextPl s n = nextPl t n := by
  unfold nextPl verOf
  rw [r.round, r.writes, r.last]
theorem cleaned_pi (l : List Fr) (n : Int) : (cleaned l n).map pi = (l.map pi).map fun x => if x.1 = n then (x.1, 1) else x := by
  unfold cleaned
  rw [List.map_map, List.map_map]
  apply List.map_congr_left
  intro f _
  simp only [Function.comp]
  split
  · rename_i e; rfl
  · rfl
theorem SRel.wrote (r : SRel s t) (n : Int) : SRel (wroteP s n) (wroteP t n) :=
  ⟨by show (cleaned s.held n).map pi = (cleaned t.held n).map pi; rw [cleaned_pi, cleaned_pi, r.held], r.round, r.window, r.pages, r.text, r.most, by show s.writes + 1 = t.writes + 1; rw [r.writes], r.err,
    by show setF s.last n (some (nextPl s n)) = setF t.last n (some (nextPl t n)); rw [r.next, r.last]⟩
theorem SRel.die (r : SRel s t) (e : Nat) : SRel (die s e) (die t e) := ⟨r.held, r.round, r.window, r.pages, r.text, r.most, r.writes, rfl, r.last⟩
theorem filter_pi (l : List Fr) (n : Int) : (l.filter fun f => !(f.page == n)).map pi = (l.map pi).filter fun x => !(x.1 == n) := by
  rw [List.filter_map]; rfl
theorem SRel.use (r : SRel s t) {f f' : Fr} (e : pi f = pi f') : SRel (useP s f) (useP t f') := by
  have e1 : f.page = f'.page := congrArg Prod.fst e
  have hh : ((s.held.filter fun g => !(g.page == f.page)) ++ [f]).map pi = ((t.held.filter fun g => !(g.page == f'.page)) ++ [f']).map pi := by
    rw [List.map_append, List.map_append, filter_pi, filter_pi, r.held, e1]
    simp only [List.map_cons, List.map_nil, e]
  have hl := congrArg List.length hh
  rw [List.length_map, List.length_map] at hl
  exact ⟨hh, r.round, r.window, r.pages, r.text, by show max s.most _ = max t.most _; rw [r.most, hl], r.writes, r.err, r.last⟩
theorem SRel.tail (r : SRel s t) : SRel { s with held := s.held.tail } { t with held := t.held.tail } :=
  ⟨by show s.held.tail.map pi = t.held.tail.map pi; rw [List.map_tail, List.map_tail, r.held], r.round, r.window, r.pages, r.text, r.most, r.writes, r.err, r.last⟩
theorem does_rel (r : HRel h g) (op n : Int) {b b' : Bytes} (hb : headOf b = headOf b') (act act' : HS → HS)
    (ha : ∀ x y : HS, HRel x y → HRel (act x) (act' y)) : (does h op n b act).2 = (does g op n b' act').2 ∧ HRel (does h op n b act).1 (does g op n b' act').1 := by
  obtain ⟨c1, c2⟩ := r.coming h.ops
  have ht : touchOf h op n b = touchOf g op n b' := by unfold touchOf; rw [r.size, hb]
  have htk : ∀ k, before ((taken h).coming k) = before ((taken g).coming k) ∧ behind ((taken h).coming k) = behind ((taken g).coming k) := by
    intro k
    show before (setF h.coming h.ops [] k) = before (setF g.coming g.ops [] k) ∧ behind (setF h.coming h.ops [] k) = behind (setF g.coming g.ops [] k)
    rw [r.ops]
    unfold setF
    split
    · exact ⟨rfl, rfl⟩
    · exact r.coming k
  have hlg : HRel (logged h op n b) (logged g op n b') := ⟨r.pages, r.size, by show h.ops + 1 = g.ops + 1; rw [r.ops], by show h.log ++ [touchOf h op n b] = g.log ++ [touchOf g op n b']; rw [r.log, ht], r.down, htk⟩
  have ha2 := ha _ _ hlg
  unfold does
  rw [← r.down]
  split
  · exact ⟨rfl, r⟩
  · dsimp only
    rw [← r.ops, c1]
    split
    · exact ⟨rfl, ⟨r.pages, r.size, by show h.ops + 1 = g.ops + 1; rw [r.ops], r.log, rfl, htk⟩⟩
    · rw [c2]
      split
      · exact ⟨rfl, ⟨ha2.pages, ha2.size, ha2.ops, ha2.log, rfl, ha2.coming⟩⟩
      · exact ⟨rfl, ha2⟩
theorem write_rel (r : SRel s t) (q : HRel h g) (ks : Ok s) (kt : Ok t) (hos : Over s h) (hot : Over t g) {n : Int} (hn : n ∈ numbers s) : (writeP s h n).1 = (writeP t g n).1 ∧ SRel (writeP s h n).2.1 (writeP t g n).2.1 ∧ HRel (writeP s h n).2.2 (writeP t g n).2.2 := by
  obtain ⟨a1, a2, a3⟩ := box_len ks hn
  obtain ⟨b1, b2, b3⟩ := box_len kt (r.numbers ▸ hn)
  have hts : there h n := ⟨a2, by rw [hos.pages]; exact a3⟩
  have htt : there g n := ⟨b2, by rw [hot.pages]; exact b3⟩
  have hb : headOf (boxOf s n) = headOf (boxOf t n) := by
    unfold boxOf
    rw [headOf_box, headOf_box, r.next]
  obtain ⟨d1, d2⟩ := does_rel q 1 n hb (wrote n (boxOf s n)) (wrote n (boxOf t n)) fun x y hh => ⟨hh.pages, hh.size, hh.ops, hh.log, hh.down, hh.coming⟩
  have w1 : writeR h n (boxOf s n) = ((does h 1 n (boxOf s n) (wrote n (boxOf s n))).2, (does h 1 n (boxOf s n) (wrote n (boxOf s n))).1) := by
    unfold writeR
    rw [if_pos hts, if_pos (a1.trans hos.size.symm)]
  have w2 : writeR g n (boxOf t n) = ((does g 1 n (boxOf t n) (wrote n (boxOf t n))).2, (does g 1 n (boxOf t n) (wrote n (boxOf t n))).1) := by
    unfold writeR
    rw [if_pos htt, if_pos (b1.trans hot.size.symm)]
  unfold writeP
  rw [w1, w2, r.writes]
  split
  · exact ⟨rfl, r.die 130, q⟩
  · dsimp only
    rw [d1]
    split
    · exact ⟨rfl, r.wrote n, d2⟩
    · exact ⟨rfl, r.die _, d2⟩
theorem room_rel (r : SRel s t) (q : HRel h g) (ks : Ok s) (kt : Ok t) (hos : Over s h) (hot : Over t g) : (roomP s h).1 = (roomP t g).1 ∧ SRel (roomP s h).2.1 (roomP t g).2.1 ∧ HRel (roomP s h).2.2 (roomP t g).2.2 := by
  have hd : (s.held.head?.map Fr.page).getD 0 = (t.held.head?.map Fr.page).getD 0 := by
    have := congrArg List.head? r.held
    rw [List.head?_map, List.head?_map] at this
    have := congrArg (Option.map Prod.fst) this
    rw [Option.map_map, Option.map_map] at this
    exact congrArg (fun x => x.getD 0) this
  unfold roomP
  rw [r.len, r.window]
  split
  · exact ⟨rfl, r, q⟩
  · dsimp only
    rw [hd, r.changed]
    split
    · rename_i hc
      have hn : (t.held.head?.map Fr.page).getD 0 ∈ numbers s := by
        by_cases hh : (t.held.head?.map Fr.page).getD 0 ∈ numbers s
        · exact hh
        · rw [← r.changed, changed_no hh] at hc; cases hc
      obtain ⟨w1, w2, w3⟩ := write_rel r q ks kt hos hot hn
      rw [w1]
      split
      · exact ⟨rfl, SRel.tail w2, w3⟩
      · rename_i hne; exact ⟨w1, w2, w3⟩
    · exact ⟨rfl, ⟨(SRel.tail r).held, r.round, rfl, r.pages, r.text, r.most, r.writes, r.err, r.last⟩, q⟩
theorem read_rel (q : HRel h g) {n : Int} (hts : there h n) : (readR h n).2.1 = (readR g n).2.1 ∧ HRel (readR h n).2.2 (readR g n).2.2 := by
  have htt : there g n := ⟨hts.1, q.pages ▸ hts.2⟩
  obtain ⟨d1, d2⟩ := does_rel q 0 n (b := []) (b' := []) rfl id id fun x y hh => hh
  unfold readR
  rw [if_pos hts, if_pos htt]
  dsimp only
  rw [d1]
  split
  · exact ⟨rfl, d2⟩
  · exact ⟨rfl, d2⟩
def Alike (e0 : Nat) (x : (Bytes × Nat) × PH) (y : (Bytes × Nat) × PH) : Prop :=
  (x.1.2 = y.1.2 ∧ SRel x.2.1 y.2.1 ∧ HRel x.2.2 y.2.2) ∨ (e0 = 0 ∧ x.1.2 = 120 ∧ x.2.1.err = 120 ∧ y.1.2 = 0 ∧ x.2.2.log = y.2.2.log)
end
section
variable {s t : PS} {h g : HS} {b : Int → Bytes}
theorem Sound.fetch_err (hs : Sound s h b) (h0 : s.err = 0) {n : Int} (hn : n ∉ numbers s) (hp : 0 ≤ n ∧ n < s.pages) : (fetchP s h n).1.2 = 0 ∨ (fetchP s h n).1.2 = 110 := by
  obtain ⟨l1, l2⟩ := (hs.right h0 n).2 (changed_no hn)
  have hbl := hs.len n
  have ht1 := hs.ok.t1
  have ht : there h n := ⟨hp.1, by rw [hs.over.pages]; exact hp.2⟩
  unfold fetchP
  cases hl : s.last n with
  | none => exact .inl rfl
  | some pl =>
    dsimp only
    by_cases hz : (readR h n).2.1 = 0
    · rw [if_pos hz, readR_zero hs.mild hz, l2 pl hl, pg_back _ _ _ (by omega)]
      exact .inl rfl
    · rw [if_neg hz]
      rcases readR_err3 h n ht with e|e
      · exact absurd e hz
      · exact .inr e
theorem fetch_rel (r : SRel s t) (q : HRel h g) (hst : Sound t g b) (hos : Over s h) (h0 : t.err = 0) {n : Int} (hn : n ∉ numbers t) (hp : 0 ≤ n ∧ n < t.pages) : Alike 0 (fetchP s h n) (fetchP t g n) := by
  have hts : there h n := ⟨hp.1, by rw [hos.pages, r.pages]; exact hp.2⟩
  obtain ⟨d1, d2⟩ := read_rel q hts
  have he := hst.fetch_err h0 hn hp
  unfold fetchP at he ⊢
  rw [r.last]
  cases hl : t.last n with
  | none =>
    dsimp only
    exact .inl ⟨rfl, r.use rfl, q⟩
  | some pl =>
    rw [hl] at he
    dsimp only at he ⊢
    rw [d1]
    by_cases hz : (readR g n).2.1 = 0
    · rw [if_pos hz, if_pos hz]
      rw [if_pos hz] at he
      have h2 : (pgOpenR t.key pl (readR g n).1).2 = 0 := by
        rcases open_err t.key pl (readR g n).1 with e|e
        · exact e
        · rw [if_neg (by rw [e]; omega)] at he
          dsimp only at he
          rcases he with he|he <;> omega
      rw [if_pos h2]
      by_cases h1 : (pgOpenR s.key pl (readR h n).1).2 = 0
      · rw [if_pos h1]
        exact .inl ⟨rfl, r.use rfl, d2⟩
      · rw [if_neg h1]
        have h120 : (pgOpenR s.key pl (readR h n).1).2 = 120 := (open_err _ _ _).resolve_left h1
        exact .inr ⟨rfl, h120, h120, rfl, d2.log⟩
    · rw [if_neg hz, if_neg hz]
      exact .inl ⟨rfl, r.die _, d2⟩
theorem load_rel (r : SRel s t) (q : HRel h g) (ks : Ok s) (hst : Sound t g b) (hos : Over s h) (n : Int) : Alike s.err (loadP s h n) (loadP t g n) := by
  unfold loadP
  rw [r.right]
  by_cases hr : rightP t n = 0
  · rw [if_pos hr, if_pos hr]
    obtain ⟨h0, hp⟩ := right_zero hr
    have hfr := r.frOf n
    cases hf : frOf t n with
    | some f' =>
      rw [hf] at hfr
      cases hf2 : frOf s n with
      | none => rw [hf2] at hfr; cases hfr
      | some f =>
        rw [hf2] at hfr
        exact .inl ⟨rfl, r.use (Option.some.inj hfr), q⟩
    | none =>
      rw [hf] at hfr
      cases hf2 : frOf s n with
      | some f => rw [hf2] at hfr; cases hfr
      | none =>
        dsimp only
        obtain ⟨w1, w2, w3⟩ := room_rel r q ks hst.ok hos hst.over
        rw [w1]
        obtain ⟨q1, q2, q3⟩ := hst.room h0
        obtain ⟨v1, v2, v3, v4, v5⟩ := roomP_leaves (h := g) hst.ok
        by_cases hz : (roomP t g).1 = 0
        · rw [if_pos hz, if_pos hz]
          have := fetch_rel w2 w3 q1 ((near_room s h).over hos) (q2 hz) (v1 n (frOf_none hf)) (by rw [v3]; exact hp)
          rcases this with hh|⟨_, hh⟩
          · exact .inl hh
          · exact .inr ⟨r.err.trans h0, hh⟩
        · rw [if_neg hz, if_neg hz]
          exact .inl ⟨rfl, w2, w3⟩
  · rw [if_neg hr, if_neg hr]
    exact .inl ⟨rfl, r, q⟩
theorem save_rel (r : SRel s t) (q : HRel h g) (ks : Ok s) (kt : Ok t) (hos : Over s h) (hot : Over t g) (n : Int) {x y : Bytes} (hxy : x.length = y.length) : (saveP s h n x).1 = (saveP t g n y).1 ∧ SRel (saveP s h n x).2.1 (saveP t g n y).2.1 ∧ HRel (saveP s h n x).2.2 (saveP t g n y).2.2 := by
  unfold saveP
  rw [r.right, hxy, r.text]
  by_cases hr : rightP t n = 0
  · rw [if_pos hr, if_pos hr]
    by_cases hl : y.length = t.text
    · rw [if_pos hl, if_pos hl]
      have hfr := r.frOf n
      cases hf : frOf t n with
      | some f' =>
        rw [hf] at hfr
        cases hf2 : frOf s n with
        | none => rw [hf2] at hfr; cases hfr
        | some f => exact ⟨rfl, r.use rfl, q⟩
      | none =>
        rw [hf] at hfr
        cases hf2 : frOf s n with
        | some f => rw [hf2] at hfr; cases hfr
        | none =>
          dsimp only
          obtain ⟨w1, w2, w3⟩ := room_rel r q ks kt hos hot
          rw [w1]
          split
          · exact ⟨rfl, w2.use rfl, w3⟩
          · exact ⟨w1, w2, w3⟩
    · rw [if_neg hl, if_neg hl]
      exact ⟨rfl, r, q⟩
  · rw [if_neg hr, if_neg hr]
    exact ⟨rfl, r, q⟩
theorem load_rel2 {b' : Int → Bytes} (r : SRel s t) (q : HRel h g) (hss : Sound s h b') (hst : Sound t g b) (n : Int) : (loadP s h n).1.2 = (loadP t g n).1.2 ∧ SRel (loadP s h n).2.1 (loadP t g n).2.1 ∧ HRel (loadP s h n).2.2 (loadP t g n).2.2 := by
  rcases load_rel r q hss.ok hst hss.over n with hh|⟨h0s, h1, h2, h3, _⟩
  · exact hh
  · exfalso
    unfold loadP at h1
    by_cases hr : rightP s n = 0
    · rw [if_pos hr] at h1
      obtain ⟨h0, hp⟩ := right_zero hr
      cases hf : frOf s n with
      | some f => rw [hf] at h1; cases h1
      | none =>
        rw [hf] at h1
        dsimp only at h1
        obtain ⟨q1, q2, q3⟩ := hss.room h0
        obtain ⟨v1, v2, v3, v4, v5⟩ := roomP_leaves (h := h) hss.ok
        by_cases hz : (roomP s h).1 = 0
        · rw [if_pos hz] at h1
          rcases q1.fetch_err (q2 hz) (v1 n (frOf_none hf)) (by rw [v3]; exact hp) with e|e <;> omega
        · rw [if_neg hz] at h1
          dsimp only at h1
          have : (roomP s h).1 = 110 ∨ (roomP s h).1 = 130 := by
            unfold roomP at hz ⊢
            split
            · rename_i hl; rw [if_pos hl] at hz; exact absurd rfl hz
            · rename_i hl
              rw [if_neg hl] at hz
              dsimp only at hz ⊢
              split
              · rename_i hc
                rw [if_pos hc] at hz
                split
                · rename_i hw; rw [if_pos hw] at hz; exact absurd rfl hz
                · rename_i hw
                  have hn : (s.held.head?.map Fr.page).getD 0 ∈ numbers s := by
                    by_cases hh : (s.held.head?.map Fr.page).getD 0 ∈ numbers s
                    · exact hh
                    · rw [changed_no hh] at hc; cases hc
                  obtain ⟨a1, a2, a3⟩ := box_len hss.ok hn
                  have hts : there h ((s.held.head?.map Fr.page).getD 0) := ⟨a2, by rw [hss.over.pages]; exact a3⟩
                  unfold writeP at hw ⊢
                  split
                  · exact .inr rfl
                  · rename_i hwn
                    rw [if_neg hwn] at hw
                    dsimp only at hw ⊢
                    split
                    · rename_i h9; rw [if_pos h9] at hw; exact absurd rfl hw
                    · rename_i h9
                      dsimp only
                      have w1 : (writeR h ((s.held.head?.map Fr.page).getD 0) (boxOf s ((s.held.head?.map Fr.page).getD 0))).1 = (does h 1 ((s.held.head?.map Fr.page).getD 0) (boxOf s ((s.held.head?.map Fr.page).getD 0)) (wrote ((s.held.head?.map Fr.page).getD 0) (boxOf s ((s.held.head?.map Fr.page).getD 0)))).2 := by
                        unfold writeR
                        rw [if_pos hts, if_pos (a1.trans hss.over.size.symm)]
                      rw [w1] at h9 ⊢
                      rcases does_log h 1 _ (boxOf s ((s.held.head?.map Fr.page).getD 0)) (wrote ((s.held.head?.map Fr.page).getD 0) (boxOf s ((s.held.head?.map Fr.page).getD 0))) fun _ => rfl with ⟨_, e⟩|⟨_, e|e⟩
                      · exact .inl e
                      · exact absurd e h9
                      · exact .inl e
              · rename_i hc; rw [if_neg hc] at hz; exact absurd rfl hz
          omega
    · rw [if_neg hr] at h1
      dsimp only at h1
      unfold rightP at h1
      rw [if_neg (by rw [h0s]; simp)] at h1
      split at h1 <;> omega
end
end Go.Sl.PagerS
namespace Go.Sl.SlotS
open Go Go.Sl Go.Sl.HostS Go.Sl.PagerS
attribute [local irreducible] pgSealB pgOpenR
abbrev Acc := Int × Int × Int
structure SL where
  first : Nat
  n : Nat
  size : Nat
  per : Nat
  log : List Acc
def takeN (n per : Nat) : Nat := n / per + if n % per = 0 then 0 else 1
structure Fit (s : SL) (p : PS) : Prop where
  size : 1 ≤ s.size
  le : s.size ≤ p.text
  per : s.per = p.text / s.size
  room : ((s.first + takeN s.n s.per : Nat) : Int) ≤ p.pages
def pg (s : SL) (i : Nat) : Nat := s.first + i / s.per
def fr (s : SL) (i : Nat) : Nat := i % s.per * s.size
def part (t : Bytes) (a n : Nat) : Bytes := (t.drop a).take n
def lay (t : Bytes) (a : Nat) (b : Bytes) : Bytes := t.take a ++ (b ++ t.drop (a + b.length))
def touch (s : SL) (k i j : Int) : SL := { s with log := s.log ++ [(k, i, j)] }
section
variable {s : SL} {p : PS} {i j : Nat}
theorem Fit.per1 (f : Fit s p) : 1 ≤ s.per := by rw [f.per]; exact Nat.div_pos f.le f.size
theorem Fit.page (f : Fit s p) (hi : i < s.n) : ((pg s i : Nat) : Int) < p.pages := by
  have h1 := f.per1
  have hr := f.room
  have h2 : i / s.per < takeN s.n s.per := by
    unfold takeN
    have e1 := Nat.div_add_mod s.n s.per
    have e2 := Nat.mod_lt s.n h1
    by_cases h0 : s.n % s.per = 0
    · rw [if_pos h0, Nat.add_zero]
      exact Nat.div_lt_of_lt_mul (by omega)
    · rw [if_neg h0]
      have : i / s.per ≤ s.n / s.per := Nat.div_le_div_right (by omega)
      omega
  unfold pg
  omega
theorem Fit.from (f : Fit s p) (i : Nat) : fr s i + s.size ≤ p.text := by
  have h1 := f.per1
  have h2 := Nat.mod_lt i h1
  have h3 : (i % s.per + 1) * s.size ≤ s.per * s.size := Nat.mul_le_mul_right _ h2
  have h4 : s.per * s.size ≤ p.text := by rw [f.per]; exact Nat.div_mul_le_self _ _
  unfold fr
  rw [Nat.succ_mul] at h3
  omega
theorem Fit.small (f : Fit s p) (hi : i < s.n) (hp : p.pages ≤ 65536) (ht : p.text ≤ 4096) : i ≤ 268435456 := by
  have h1 := f.per1
  have hp2 := f.page hi
  have h2 : i / s.per ≤ 65535 := by unfold pg at hp2; omega
  have h3 : s.per ≤ 4096 := by rw [f.per]; exact Nat.le_trans (Nat.div_le_self _ _) ht
  have e1 := Nat.div_add_mod i s.per
  have e2 := Nat.mod_lt i h1
  have h4 : s.per * (i / s.per) ≤ 4096 * 65535 := Nat.mul_le_mul h3 h2
  omega
theorem Fit.touch (f : Fit s p) (k i j : Int) : Fit (touch s k i j) p := ⟨f.size, f.le, f.per, f.room⟩
theorem Fit.same {q : PS} (f : Fit s p) (h1 : q.text = p.text) (h2 : q.pages = p.pages) : Fit s q := ⟨f.size, by rw [h1]; exact f.le, by rw [h1]; exact f.per, by rw [h2]; exact f.room⟩
theorem part_len {t : Bytes} {a n : Nat} (h : a + n ≤ t.length) : (part t a n).length = n := by unfold part; rw [List.length_take, List.length_drop]; omega
theorem lay_len {t b : Bytes} {a : Nat} (h : a + b.length ≤ t.length) : (lay t a b).length = t.length := by
  unfold lay; rw [List.length_append, List.length_append, List.length_take, List.length_drop]; omega
theorem part_lay {t b : Bytes} {a : Nat} (h : a + b.length ≤ t.length) : part (lay t a b) a b.length = b := by
  unfold part lay
  rw [List.drop_append_of_le_length (by rw [List.length_take]; omega), List.drop_of_length_le (by rw [List.length_take]; omega), List.nil_append, List.take_left]
theorem lay_get {t b : Bytes} {a k : Nat} (h : a + b.length ≤ t.length) (hk : k < a ∨ a + b.length ≤ k) : (lay t a b)[k]? = t[k]? := by
  unfold lay
  have hl : (t.take a).length = a := by rw [List.length_take]; omega
  by_cases hka : k < a
  · rw [List.getElem?_append_left (by omega), List.getElem?_take_of_lt hka]
  · rw [List.getElem?_append_right (by omega), List.getElem?_append_right (by omega), List.getElem?_drop]
    congr 1; omega
theorem part_other {t b : Bytes} {a c n : Nat} (h : a + b.length ≤ t.length) (hd : c + n ≤ a ∨ a + b.length ≤ c) : part (lay t a b) c n = part t c n := by
  apply List.ext_getElem?
  intro k
  unfold part
  by_cases hk : k < n
  · rw [List.getElem?_take_of_lt hk, List.getElem?_take_of_lt hk, List.getElem?_drop, List.getElem?_drop]
    exact lay_get h (by omega)
  · rw [List.getElem?_eq_none (by rw [List.length_take]; omega), List.getElem?_eq_none (by rw [List.length_take]; omega)]
theorem fr_apart (hij : i ≠ j) (hp : pg s i = pg s j) : fr s i + s.size ≤ fr s j ∨ fr s j + s.size ≤ fr s i := by
  have e1 := Nat.div_add_mod i s.per
  have e2 := Nat.div_add_mod j s.per
  have hd : i / s.per = j / s.per := by unfold pg at hp; omega
  have hne : i % s.per ≠ j % s.per := by
    intro h
    rw [hd, h] at e1
    omega
  unfold fr
  rcases Nat.lt_or_gt_of_ne hne with h|h
  · left
    have := Nat.mul_le_mul_right s.size (show i % s.per + 1 ≤ j % s.per from h)
    rw [Nat.succ_mul] at this
    omega
  · right
    have := Nat.mul_le_mul_right s.size (show j % s.per + 1 ≤ i % s.per from h)
    rw [Nat.succ_mul] at this
    omega
end
def has (s : SL) (i : Int) : Prop := 0 ≤ i ∧ i < s.n
instance (s : SL) (i : Int) : Decidable (has s i) := by unfold has; infer_instance
abbrev St3 := SL × PS × HS
def getS (s : SL) (p : PS) (h : HS) (i : Int) : (Bytes × Nat) × St3 :=
  if has s i then
    let r := loadP p h (pg s i.toNat)
    (if r.1.2 = 0 then (part r.1.1 (fr s i.toNat) s.size, 0) else ([], r.1.2), touch s 0 i 0, r.2)
  else (([], 2), s, p, h)
def setS (s : SL) (p : PS) (h : HS) (i : Int) (b : Bytes) : Nat × St3 :=
  if has s i then
    if b.length = s.size then
      let r := loadP p h (pg s i.toNat)
      if r.1.2 = 0 then
        let q := saveP r.2.1 r.2.2 (pg s i.toNat) (lay r.1.1 (fr s i.toNat) b)
        (q.1, touch s 1 i 0, q.2)
      else (r.1.2, touch s 1 i 0, r.2)
    else (4, s, p, h)
  else (2, s, p, h)
def pairL (s : SL) (p : PS) (h : HS) (i j : Nat) : (Nat × Bytes × Bytes) × PH :=
  let r := loadP p h (pg s i)
  if r.1.2 = 0 then
    if pg s j = pg s i then ((0, r.1.1, r.1.1), r.2)
    else
      let q := loadP r.2.1 r.2.2 (pg s j)
      if q.1.2 = 0 then ((0, r.1.1, q.1.1), q.2) else ((q.1.2, [], []), q.2)
  else ((r.1.2, [], []), r.2)
def pairE (s : SL) (p : PS) (h : HS) (i j : Nat) (tI tJ a b : Bytes) : Nat × PH :=
  if pg s j = pg s i then saveP p h (pg s i) (lay (lay tI (fr s i) a) (fr s j) b)
  else
    let q := saveP p h (pg s i) (lay tI (fr s i) a)
    if q.1 = 0 then saveP q.2.1 q.2.2 (pg s j) (lay tJ (fr s j) b) else q
def newS (first n size : Int) (p : PS) : Nat :=
  if first < 0 ∨ n < 0 ∨ size < 1 then 2
  else if (p.text : Int) < size then 4
  else if p.pages < first ∨ p.pages - first < takeN n.toNat (p.text / size.toNat) then 5
  else 0
def freshS (first n size : Int) (p : PS) : SL := ⟨first.toNat, n.toNat, size.toNat, p.text / size.toNat, []⟩
theorem fit_fresh {first n size : Int} {p : PS} (h : newS first n size p = 0) : Fit (freshS first n size p) p := by
  unfold newS at h
  split at h
  · cases h
  · split at h
    · cases h
    · split at h
      · cases h
      · refine ⟨?_, ?_, rfl, ?_⟩
        · show 1 ≤ size.toNat; omega
        · show size.toNat ≤ p.text; omega
        · show ((first.toNat + takeN n.toNat (p.text / size.toNat) : Nat) : Int) ≤ p.pages
          omega
def pagesS (n size text : Int) : Int × Nat :=
  if n < 0 ∨ size < 1 then (0, 2)
  else if text < size then (0, 4)
  else if 65536 < takeN n.toNat (text.toNat / size.toNat) then (0, 5)
  else ((takeN n.toNat (text.toNat / size.toNat) : Nat), 0)
theorem mem_use (s : PS) (f : PagerS.Fr) : f ∈ (useP s f).held := List.mem_append.2 (.inr (List.mem_singleton.2 rfl))
theorem load_held {p : PS} {h : HS} {n : Int} (he : (loadP p h n).1.2 = 0) : ∃ f ∈ (loadP p h n).2.1.held, f.text = (loadP p h n).1.1 := by
  unfold loadP at he ⊢
  split
  · rename_i hr
    rw [if_pos hr] at he
    split
    · rename_i f hf
      exact ⟨f, mem_use _ _, rfl⟩
    · rename_i hf
      rw [hf] at he
      dsimp only at he ⊢
      split
      · rename_i hz
        rw [if_pos hz] at he
        generalize (roomP p h).2.1 = p1 at *
        generalize (roomP p h).2.2 = h1 at *
        unfold fetchP at he ⊢
        split
        · rename_i pl hl
          rw [hl] at he
          try dsimp only at he
          try dsimp only
          split
          · rename_i h0
            rw [if_pos h0] at he
            try dsimp only at he
            try dsimp only
            split
            · exact ⟨_, mem_use _ _, rfl⟩
            · rename_i ho
              rw [if_neg ho] at he
              exact absurd he ho
          · rename_i h0
            rw [if_neg h0] at he
            exact absurd he h0
        · exact ⟨_, mem_use _ _, rfl⟩
      · rename_i hz
        rw [if_neg hz] at he
        exact absurd he hz
  · rename_i hr
    rw [if_neg hr] at he
    exact absurd he hr
theorem load_text {p : PS} {h : HS} {n : Int} (he : (loadP p h n).1.2 = 0) (hk : Ok (loadP p h n).2.1) : (loadP p h n).1.1.length = p.text := by
  obtain ⟨f, hf, e⟩ := load_held he
  rw [← e, hk.len f hf]
  exact (near_load p h n).text
end Go.Sl.SlotS
namespace Go.Sl.SlotS
open Go Go.Sl Go.Sl.HostS Go.Sl.PagerS
attribute [local irreducible] pgSealB pgOpenR PagerS.loadP PagerS.saveP
section
variable {s : SL} {p : PS} {h : HS} {b : Int → Bytes} {i j : Nat}
theorem has_nat (hi : i < s.n) : has s (i : Int) := ⟨by omega, by omega⟩
def slotB (s : SL) (b : Int → Bytes) (i : Nat) : Bytes := part (b (pg s i)) (fr s i) s.size
theorem slotB_len (f : Fit s p) (hb : ∀ n : Int, (b n).length = p.text) (i : Nat) : (slotB s b i).length = s.size := part_len (by rw [hb]; exact f.from i)
def putB (s : SL) (b : Int → Bytes) (i : Nat) (x : Bytes) : Int → Bytes := setF b (pg s i) (lay (b (pg s i)) (fr s i) x)
theorem putB_at (f : Fit s p) (hb : ∀ n : Int, (b n).length = p.text) {x : Bytes} (hx : x.length = s.size) (i j : Nat) : slotB s (putB s b i x) j = if j = i then x else slotB s b j := by
  have h1 := f.from i
  have h2 := f.from j
  unfold slotB putB setF
  by_cases e : j = i
  · subst e
    rw [if_pos rfl, if_pos rfl, ← hx]
    exact part_lay (by rw [hb, hx]; exact h1)
  · rw [if_neg e]
    by_cases hp : ((pg s j : Nat) : Int) = (pg s i : Nat)
    · rw [if_pos hp]
      have hpn : pg s i = pg s j := by omega
      have := fr_apart (s := s) (i := i) (j := j) (fun hh => e hh.symm) hpn
      rw [hpn]
      exact part_other (by rw [hb, hx]; exact h1) (by rw [hx]; omega)
    · rw [if_neg hp]
theorem putB_len (f : Fit s p) (hb : ∀ n : Int, (b n).length = p.text) {x : Bytes} (hx : x.length = s.size) (i : Nat) (n : Int) : (putB s b i x n).length = p.text := by
  have h1 := f.from i
  unfold putB setF
  split
  · rw [lay_len (by rw [hb, hx]; exact h1), hb]
  · exact hb n
theorem get_q (q : Quiet p h b) (f : Fit s p) (hi : i < s.n) (hw : p.writes < 4294967295) : (getS s p h i).1 = (slotB s b i, 0) ∧ (getS s p h i).2.1 = touch s 0 i 0 ∧ Quiet (getS s p h i).2.2.1 (getS s p h i).2.2.2 b := by
  obtain ⟨a1, a2⟩ := q.load hw (n := ((pg s i : Nat) : Int)) (by omega) (f.page hi)
  unfold getS
  rw [if_pos (has_nat hi), Int.toNat_natCast]
  dsimp only
  rw [a1, if_pos rfl]
  exact ⟨rfl, rfl, a2⟩
theorem set_q (q : Quiet p h b) (f : Fit s p) (hi : i < s.n) (hw : p.writes + 1 < 4294967295) {x : Bytes} (hx : x.length = s.size) : (setS s p h i x).1 = 0 ∧ (setS s p h i x).2.1 = touch s 1 i 0 ∧ Quiet (setS s p h i x).2.2.1 (setS s p h i x).2.2.2 (putB s b i x) := by
  obtain ⟨a1, a2⟩ := q.load (by omega) (n := ((pg s i : Nat) : Int)) (by omega) (f.page hi)
  have n1 := near_load p h ((pg s i : Nat) : Int)
  have h1 := f.from i
  have hb := q.sound.len
  unfold setS
  rw [if_pos (has_nat hi), if_pos hx, Int.toNat_natCast]
  dsimp only
  rw [a1, if_pos rfl]
  have hw2 := n1.writes
  have hpg : (loadP p h (pg s i)).2.1.pages = p.pages := n1.spages
  have htx : (loadP p h (pg s i)).2.1.text = p.text := n1.text
  have hll : (lay (b (pg s i)) (fr s i) x).length = (loadP p h (pg s i)).2.1.text := by rw [lay_len (by rw [hb, hx]; exact h1), hb, htx]
  obtain ⟨c1, c2⟩ := a2.save (by omega) (n := ((pg s i : Nat) : Int)) (by omega) (by rw [hpg]; exact f.page hi) hll
  exact ⟨c1, rfl, c2⟩
theorem pairL_q (q : Quiet p h b) (f : Fit s p) (hi : i < s.n) (hj : j < s.n) (hw : p.writes + 1 < 4294967295) : (pairL s p h i j).1 = (0, b (pg s i), b (pg s j)) ∧ Quiet (pairL s p h i j).2.1 (pairL s p h i j).2.2 b ∧ Near 4 2 p h (pairL s p h i j).2.1 (pairL s p h i j).2.2 := by
  obtain ⟨a1, a2⟩ := q.load (by omega) (n := ((pg s i : Nat) : Int)) (by omega) (f.page hi)
  have n1 := near_load p h ((pg s i : Nat) : Int)
  have hw2 := n1.writes
  unfold pairL
  dsimp only
  rw [a1, if_pos rfl]
  by_cases e : pg s j = pg s i
  · rw [if_pos e, e]
    exact ⟨rfl, a2, n1.trans (Near.refl 2 1 _ _) (by omega) (by omega)⟩
  · rw [if_neg e]
    obtain ⟨c1, c2⟩ := a2.load (by omega) (n := ((pg s j : Nat) : Int)) (by omega) (by rw [n1.spages]; exact f.page hj)
    have n2 := near_load (loadP p h (pg s i)).2.1 (loadP p h (pg s i)).2.2 ((pg s j : Nat) : Int)
    rw [c1, if_pos rfl]
    exact ⟨rfl, c2, n1.trans n2 (by omega) (by omega)⟩
theorem pairE_q (q : Quiet p h b) (f : Fit s p) (hi : i < s.n) (hj : j < s.n) (hw : p.writes + 1 < 4294967295) {x y : Bytes} (hx : x.length = s.size) (hy : y.length = s.size) : (pairE s p h i j (b (pg s i)) (b (pg s j)) x y).1 = 0 ∧ Quiet (pairE s p h i j (b (pg s i)) (b (pg s j)) x y).2.1 (pairE s p h i j (b (pg s i)) (b (pg s j)) x y).2.2 (putB s (putB s b i x) j y) := by
  have h1 := f.from i
  have h2 := f.from j
  have hb := q.sound.len
  have hl1 : (lay (b (pg s i)) (fr s i) x).length = p.text := by rw [lay_len (by rw [hb, hx]; exact h1), hb]
  unfold pairE
  by_cases e : pg s j = pg s i
  · rw [if_pos e]
    have hll : (lay (lay (b (pg s i)) (fr s i) x) (fr s j) y).length = p.text := by rw [lay_len (by rw [hl1, hy]; exact h2), hl1]
    obtain ⟨c1, c2⟩ := q.save (by omega) (n := ((pg s i : Nat) : Int)) (by omega) (f.page hi) hll
    refine ⟨c1, ?_⟩
    have : putB s (putB s b i x) j y = setF b ((pg s i : Nat) : Int) (lay (lay (b (pg s i)) (fr s i) x) (fr s j) y) := by
      funext n
      unfold putB setF
      rw [e, if_pos rfl]
      split <;> rfl
    rw [this]; exact c2
  · rw [if_neg e]
    obtain ⟨c1, c2⟩ := q.save (by omega) (n := ((pg s i : Nat) : Int)) (by omega) (f.page hi) hl1
    have n1 := near_save p h ((pg s i : Nat) : Int) (lay (b (pg s i)) (fr s i) x)
    have hw2 := n1.writes
    dsimp only
    rw [c1, if_pos rfl]
    have hl2 : (lay (b (pg s j)) (fr s j) y).length = (saveP p h (pg s i) (lay (b (pg s i)) (fr s i) x)).2.1.text := by rw [lay_len (by rw [hb, hy]; exact h2), hb, n1.text]
    obtain ⟨d1, d2⟩ := c2.save (by omega) (n := ((pg s j : Nat) : Int)) (by omega) (by rw [n1.spages]; exact f.page hj) hl2
    refine ⟨d1, ?_⟩
    have : putB s (putB s b i x) j y = setF (setF b ((pg s i : Nat) : Int) (lay (b (pg s i)) (fr s i) x)) ((pg s j : Nat) : Int) (lay (b (pg s j)) (fr s j) y) := by
      have e2 : putB s b i x ((pg s j : Nat) : Int) = b (pg s j) := by
        unfold putB setF
        rw [if_neg (by omega)]
      unfold putB at e2 ⊢
      rw [e2]
    rw [this]; exact d2
theorem get_near (s : SL) (p : PS) (h : HS) (i : Int) : Near 2 1 p h (getS s p h i).2.2.1 (getS s p h i).2.2.2 := by
  unfold getS
  split
  · exact near_load p h _
  · exact Near.refl 2 1 p h
theorem set_near (s : SL) (p : PS) (h : HS) (i : Int) (b : Bytes) : Near 3 2 p h (setS s p h i b).2.2.1 (setS s p h i b).2.2.2 := by
  unfold setS
  split
  · split
    · have n1 := near_load p h ((pg s i.toNat : Nat) : Int)
      dsimp only
      split
      · exact n1.trans (near_save _ _ _ _) (by omega) (by omega)
      · exact n1.trans (Near.refl 1 1 _ _) (by omega) (by omega)
    · exact Near.refl 3 2 p h
  · exact Near.refl 3 2 p h
theorem pairE_near (s : SL) (p : PS) (h : HS) (i j : Nat) (tI tJ a b : Bytes) : Near 2 2 p h (pairE s p h i j tI tJ a b).2.1 (pairE s p h i j tI tJ a b).2.2 := by
  unfold pairE
  split
  · exact (near_save p h _ _).trans (Near.refl 0 0 _ _) (by omega) (by omega)
  · dsimp only
    split
    · exact (near_save p h _ _).trans (near_save _ _ _ _) (by omega) (by omega)
    · exact (near_save p h _ _).trans (Near.refl 0 0 _ _) (by omega) (by omega)
end
end Go.Sl.SlotS
namespace Go.Sl.PagerS
open Go Go.Sl Go.Sl.HostS
attribute [local irreducible] pgSealB pgOpenR
abbrev is2 (f : Fr) : Bool := f.is == 2
def ch (l : List Fr) (m : Int) : Bool := ((l.find? fun f => f.page == m).map Fr.is).getD 0 == 2
theorem ch_is (s : PS) (m : Int) : changedAt s m = ch s.held m := rfl
theorem ch_cons (x : Fr) (r : List Fr) (m : Int) : ch (x :: r) m = if x.page = m then is2 x else ch r m := by
  unfold ch
  rw [List.find?_cons]
  by_cases e : x.page = m
  · rw [if_pos e]; simp [e]
  · rw [if_neg e, beq_eq_false_iff_ne.2 e]
theorem ch_none {l : List Fr} {m : Int} (h : m ∉ l.map Fr.page) : ch l m = false := by
  induction l with
  | nil => rfl
  | cons x r ih =>
    rw [List.map_cons, List.mem_cons, not_or] at h
    rw [ch_cons, if_neg (fun hh => h.1 hh.symm)]
    exact ih h.2
theorem filter_none {l : List Fr} {n : Int} (h : n ∉ l.map Fr.page) : (l.filter fun g => !(g.page == n)) = l := by
  rw [List.filter_eq_self]
  intro g hg
  have : g.page ≠ n := fun hh => h (by rw [← hh]; exact List.mem_map.2 ⟨g, hg, rfl⟩)
  simp [this]
theorem cnt_filter (n : Int) : ∀ {l : List Fr}, (l.map Fr.page).Nodup → l.countP is2 ≤ (l.filter fun g => !(g.page == n)).countP is2 + (if ch l n then 1 else 0)
  | [], _ => Nat.zero_le _
  | x :: r, hn => by
    rw [List.map_cons, List.nodup_cons] at hn
    rw [ch_cons]
    by_cases e : x.page = n
    · rw [List.filter_cons_of_neg (by simp [e]), filter_none (by rw [← e]; exact hn.1), List.countP_cons, if_pos e]
      exact Nat.le_refl _
    · have := cnt_filter n hn.2
      rw [List.filter_cons_of_pos (by simp [e]), List.countP_cons, List.countP_cons, if_neg e]
      omega
theorem cnt_cleaned (n : Int) : ∀ {l : List Fr}, (l.map Fr.page).Nodup → l.countP is2 ≤ (cleaned l n).countP is2 + 1
  | [], _ => Nat.zero_le _
  | x :: r, hn => by
    rw [List.map_cons, List.nodup_cons] at hn
    show _ ≤ List.countP is2 ((if x.page = n then { x with is := 1 } else x) :: cleaned r n) + 1
    by_cases e : x.page = n
    · have : cleaned r n = r := by
        unfold cleaned
        conv => rhs; rw [← List.map_id r]
        apply List.map_congr_left
        intro g hg
        rw [if_neg (fun hh => hn.1 (by rw [e, ← hh]; exact List.mem_map.2 ⟨g, hg, rfl⟩))]; rfl
      rw [this, List.countP_cons, List.countP_cons]
      split <;> omega
    · have := cnt_cleaned n hn.2
      rw [if_neg e, List.countP_cons, List.countP_cons]
      omega
theorem ch_cleaned {l : List Fr} {n m : Int} (h : ch (cleaned l n) m = true) : ch l m = true := by
  induction l with
  | nil => exact h
  | cons x r ih =>
    change ch ((if x.page = n then { x with is := 1 } else x) :: cleaned r n) m = true at h
    rw [ch_cons] at h ⊢
    by_cases e : x.page = n
    · rw [if_pos e] at h
      by_cases e2 : x.page = m
      · rw [if_pos (show ({ x with is := 1 } : Fr).page = m from e2)] at h; cases h
      · rw [if_neg e2]; rw [if_neg (show ¬ ({ x with is := 1 } : Fr).page = m from e2)] at h; exact ih h
    · rw [if_neg e] at h
      by_cases e2 : x.page = m
      · rw [if_pos e2] at h ⊢; exact h
      · rw [if_neg e2] at h ⊢; exact ih h
theorem ch_tail {l : List Fr} {m : Int} (hn : (l.map Fr.page).Nodup) (h : ch l.tail m = true) : ch l m = true := by
  cases l with
  | nil => exact h
  | cons x r =>
    rw [List.map_cons, List.nodup_cons] at hn
    change ch r m = true at h
    rw [ch_cons]
    by_cases e : x.page = m
    · rw [ch_none (by rw [← e]; exact hn.1)] at h; cases h
    · rw [if_neg e]; exact h
theorem ch_filter {l : List Fr} {n m : Int} {f : Fr} (hf : f.page = n) : ch ((l.filter fun g => !(g.page == n)) ++ [f]) m = if m = n then is2 f else ch l m := by
  induction l with
  | nil =>
    show ch [f] m = _
    rw [ch_cons, hf]
    by_cases e : m = n
    · rw [if_pos e, if_pos e.symm]
    · rw [if_neg e, if_neg (fun hh => e hh.symm)]
  | cons x r ih =>
    by_cases e : x.page = n
    · rw [List.filter_cons_of_neg (by simp [e]), ih, ch_cons]
      by_cases e2 : m = n
      · rw [if_pos e2, if_pos e2]
      · rw [if_neg e2, if_neg e2, if_neg (fun hh => e2 (hh.symm.trans e))]
    · rw [List.filter_cons_of_pos (by simp [e]), List.cons_append, ch_cons, ih, ch_cons]
      by_cases e2 : m = n
      · rw [if_pos e2, if_pos e2, if_neg (fun hh => e (hh.trans e2))]
      · rw [if_neg e2, if_neg e2]
def dE (s : PS) : Nat := if s.err = 0 then 0 else 8
def Cost (k : Nat) (s : PS) (h : HS) (s' : PS) (h' : HS) : Prop := h'.ops + 2 * s.writes + chg s + dE s ≤ h.ops + 2 * s'.writes + chg s' + dE s' + k
section
variable {s : PS} {h : HS}
theorem Cost.refl (s : PS) (h : HS) : Cost 0 s h s h := by unfold Cost; omega
theorem Cost.trans {k m : Nat} {a b c : PS} {x y z : HS} (p : Cost k a x b y) (q : Cost m b y c z) : Cost (k + m) a x c z := by unfold Cost at *; omega
theorem Cost.mono {k m : Nat} {a b : PS} {x y : HS} (p : Cost k a x b y) (h : k ≤ m) : Cost m a x b y := by unfold Cost at *; omega
theorem cost_write (hk : Ok s) (h0 : s.err = 0) (n : Int) : Cost 0 s h (writeP s h n).2.1 (writeP s h n).2.2 := by
  have ho := (near_write s h n).ops
  by_cases he : (writeP s h n).1 = 0
  · obtain ⟨_, _, e⟩ := writeP_zero he
    have e1 : chg s ≤ chg (writeP s h n).2.1 + 1 := by rw [e]; exact cnt_cleaned n hk.once
    have e2 : (writeP s h n).2.1.err = s.err := by rw [e]; rfl
    have e3 : (writeP s h n).2.1.writes = s.writes + 1 := by rw [e]; rfl
    unfold Cost dE
    rw [e2, e3]
    omega
  · obtain ⟨_, e⟩ := writeP_errs s h n he
    have e1 : chg (writeP s h n).2.1 = chg s := by rw [e]; rfl
    have e2 : (writeP s h n).2.1.err = (writeP s h n).1 := by rw [e]; rfl
    have e3 : (writeP s h n).2.1.writes = s.writes := by rw [e]; rfl
    unfold Cost dE
    rw [e1, e2, e3, if_neg he, if_pos h0]
    omega
theorem cost_tail (hc : ch s.held ((s.held.head?.map Fr.page).getD 0) = false) : Cost 0 s h { s with held := s.held.tail } h := by
  have : s.held.countP is2 ≤ s.held.tail.countP is2 := by
    cases hl : s.held with
    | nil => exact Nat.le_refl _
    | cons x r =>
      rw [hl] at hc
      have hx : is2 x = false := by rw [ch_cons] at hc; simpa using hc
      rw [List.countP_cons, hx]
      exact Nat.le_refl _
  unfold Cost dE chg
  dsimp only
  change s.held.countP (fun f => f.is == 2) ≤ s.held.tail.countP (fun f => f.is == 2) at this
  omega
theorem cost_room (hk : Ok s) (h0 : s.err = 0) : Cost 0 s h (roomP s h).2.1 (roomP s h).2.2 := by
  unfold roomP
  split
  · exact Cost.refl s h
  · dsimp only
    split
    · rename_i hc
      have hw := cost_write (h := h) hk h0 ((s.held.head?.map Fr.page).getD 0)
      split
      · rename_i hz
        refine hw.trans (cost_tail ?_)
        obtain ⟨_, _, e⟩ := writeP_zero hz
        rw [e]
        show ch (cleaned s.held _) (((cleaned s.held _).head?.map Fr.page).getD 0) = false
        cases hl : s.held with
        | nil => rfl
        | cons x r =>
          have hh : ∀ (y : Fr) (r' : List Fr), ch (y :: r') (((y :: r').head?.map Fr.page).getD 0) = is2 y := fun y r' => by rw [ch_cons]; exact if_pos rfl
          exact (hh (if x.page = x.page then { x with is := 1 } else x) _).trans (by rw [if_pos rfl]; rfl)
      · exact hw
    · rename_i hc
      exact cost_tail (by rw [← ch_is]; simpa using hc)
theorem chg_use (f : Fr) : chg (useP s f) = (s.held.filter fun g => !(g.page == f.page)).countP is2 + (if is2 f then 1 else 0) := by
  unfold chg useP
  dsimp only
  rw [List.countP_append, List.countP_cons, List.countP_nil, Nat.zero_add]
theorem cost_use (f : Fr) (hk : (numbers s).Nodup) (hf : changedAt s f.page = true → is2 f = true) : Cost 0 s h (useP s f) h := by
  have := cnt_filter f.page hk
  have e := chg_use (s := s) f
  have e1 : (useP s f).writes = s.writes := rfl
  have e2 : dE (useP s f) = dE s := rfl
  unfold Cost
  rw [e1, e2, e]
  change chg s ≤ _ at this
  rw [← ch_is] at this
  by_cases hc : changedAt s f.page = true
  · rw [if_pos hc] at this; rw [if_pos (hf hc)]; omega
  · rw [if_neg hc] at this; omega
theorem cost_fetch (hk : (numbers s).Nodup) (h0 : s.err = 0) {n : Int} (hn : n ∉ numbers s) : Cost (if (fetchP s h n).1.2 = 0 then 1 else 0) s h (fetchP s h n).2.1 (fetchP s h n).2.2 := by
  have ho := readR_ops h n
  have hcn : changedAt s n = false := ch_none hn
  have hd : ∀ e, e ≠ 0 → Cost 0 s h (die s e) (readR h n).2.2 := fun e he => by
    unfold Cost dE die chg
    dsimp only
    rw [if_neg he, if_pos h0]
    omega
  unfold fetchP
  split
  · dsimp only
    split
    · split
      · have : Cost 1 s h s (readR h n).2.2 := by unfold Cost; omega
        rw [if_pos rfl]
        exact this.trans (cost_use _ hk (fun hc => by rw [show changedAt s n = true from hc] at hcn; cases hcn))
      · rename_i hz; exact hd _ hz
    · rename_i hz; exact hd _ hz
  · exact (cost_use _ hk (fun hc => by rw [show changedAt s n = true from hc] at hcn; cases hcn)).mono (Nat.zero_le _)
theorem room_once (hk : Ok s) : (numbers (roomP s h).2.1).Nodup ∧ (∀ n, n ∉ numbers s → n ∉ numbers (roomP s h).2.1) ∧ ∀ m, changedAt (roomP s h).2.1 m = true → changedAt s m = true := by
  have hcl : ∀ n, (cleaned s.held n).map Fr.page = s.held.map Fr.page := fun n => by
    unfold cleaned
    rw [List.map_map]
    apply List.map_congr_left
    intro f _
    simp only [Function.comp]
    split <;> rfl
  have htl : ∀ (l : List Fr) (n : Int), n ∉ l.map Fr.page → n ∉ l.tail.map Fr.page := fun l n hn hh => hn (by
    obtain ⟨f, hf, e⟩ := List.mem_map.1 hh
    exact List.mem_map.2 ⟨f, List.mem_of_mem_tail hf, e⟩)
  have hnt : ∀ l : List Fr, (l.map Fr.page).Nodup → (l.tail.map Fr.page).Nodup := fun l hl => by
    cases l with
    | nil => exact hl
    | cons x r => rw [List.map_cons, List.nodup_cons] at hl; exact hl.2
  unfold roomP
  split
  · exact ⟨hk.once, fun n hn => hn, fun m hm => hm⟩
  · dsimp only
    split
    · split
      · rename_i hz
        obtain ⟨_, _, e⟩ := writeP_zero hz
        rw [e]
        refine ⟨hnt _ ?_, fun n hn => htl _ n ?_, fun m hm => ch_cleaned (ch_tail ?_ hm)⟩
        · show ((cleaned s.held _).map Fr.page).Nodup; rw [hcl]; exact hk.once
        · show n ∉ (cleaned s.held _).map Fr.page; rw [hcl]; exact hn
        · show ((cleaned s.held _).map Fr.page).Nodup; rw [hcl]; exact hk.once
      · rename_i hz
        obtain ⟨_, e⟩ := writeP_errs s h _ hz
        rw [e]
        exact ⟨hk.once, fun n hn => hn, fun m hm => hm⟩
    · exact ⟨hnt _ hk.once, fun n hn => htl _ n hn, fun m hm => ch_tail hk.once hm⟩
theorem frOf_not {n : Int} (h : frOf s n = none) : n ∉ numbers s := by
  unfold frOf at h
  rw [List.find?_eq_none] at h
  intro hh
  obtain ⟨f, hf, e⟩ := List.mem_map.1 hh
  exact h f hf (by simp [e])
theorem chu (f : Fr) (m : Int) : changedAt (useP s f) m = if m = f.page then is2 f else changedAt s m := ch_filter rfl
theorem cost_load (hk : Ok s) (n : Int) : Cost 1 s h (loadP s h n).2.1 (loadP s h n).2.2 ∧ (∀ m, changedAt (loadP s h n).2.1 m = true → changedAt s m = true) ∧ (Cost 0 s h (loadP s h n).2.1 (loadP s h n).2.2 ∨ changedAt s n = false) ∧ ((loadP s h n).1.2 ≠ 0 → Cost 0 s h (loadP s h n).2.1 (loadP s h n).2.2) := by
  unfold loadP
  split
  · rename_i hr
    have h0 := (right_zero hr).1
    split
    · rename_i f hf
      obtain ⟨f1, f2⟩ := frOf_mem hf
      have e : changedAt s f.page = is2 f := by rw [f2]; unfold changedAt; rw [hf]; rfl
      have c := cost_use (h := h) f hk.once (fun hc => by rw [← e]; exact hc)
      refine ⟨c.mono (Nat.zero_le _), fun m hm => ?_, .inl c, fun _ => c⟩
      rw [chu] at hm
      by_cases em : m = f.page
      · rw [if_pos em] at hm; rw [em, e]; exact hm
      · rw [if_neg em] at hm; exact hm
    · rename_i hf
      have hn := frOf_not hf
      obtain ⟨r1, r2, r3⟩ := room_once (h := h) hk
      have a := cost_room (h := h) hk h0
      have hcn : changedAt s n = false := ch_none hn
      dsimp only
      split
      · rename_i hz
        have hz0 := room_err hk h0 hz
        have c := cost_fetch (h := (roomP s h).2.2) r1 hz0 (r2 n hn)
        refine ⟨(a.trans c).mono (by split <;> omega), fun m hm => ?_, .inr hcn, fun hne => by rw [if_neg hne] at c; exact a.trans c⟩
        refine r3 m ?_
        have hu : ∀ t i, i ≠ 2 → changedAt (useP (roomP s h).2.1 ⟨n, t, i⟩) m = true → changedAt (roomP s h).2.1 m = true := fun t i hi hh => by
          rw [chu] at hh
          split at hh
          · exact absurd (by simpa [is2] using hh) hi
          · exact hh
        unfold fetchP at hm
        split at hm
        · dsimp only at hm
          split at hm
          · split at hm
            · exact hu _ _ (by omega) hm
            · exact hm
          · exact hm
        · exact hu _ _ (by omega) hm
      · exact ⟨a.mono (Nat.zero_le _), r3, .inr hcn, fun _ => a⟩
  · exact ⟨(Cost.refl s h).mono (Nat.zero_le _), fun m hm => hm, .inl (Cost.refl s h), fun _ => Cost.refl s h⟩
theorem room_fail (h0 : s.err = 0) (hz : (roomP s h).1 ≠ 0) : (roomP s h).2.2.ops + 2 * s.writes + chg s + dE s + 1 ≤ h.ops + 2 * (roomP s h).2.1.writes + chg (roomP s h).2.1 + dE (roomP s h).2.1 := by
  unfold roomP at hz ⊢
  split
  · rename_i hl; rw [if_pos hl] at hz; exact absurd rfl hz
  · rename_i hl
    rw [if_neg hl] at hz
    dsimp only at hz ⊢
    split
    · rename_i hc
      rw [if_pos hc] at hz
      split
      · rename_i hw; rw [if_pos hw] at hz; exact absurd rfl hz
      · rename_i hw
        rw [if_neg hw] at hz
        have ho := (near_write s h ((s.held.head?.map Fr.page).getD 0)).ops
        obtain ⟨_, e⟩ := writeP_errs s h _ hw
        have e1 : chg (writeP s h ((s.held.head?.map Fr.page).getD 0)).2.1 = chg s := by rw [e]; rfl
        have e2 : dE (writeP s h ((s.held.head?.map Fr.page).getD 0)).2.1 = 8 := by rw [e]; unfold dE; exact if_neg hw
        have e3 : (writeP s h ((s.held.head?.map Fr.page).getD 0)).2.1.writes = s.writes := by rw [e]; rfl
        have e4 : dE s = 0 := if_pos h0
        rw [e1, e2, e3, e4]
        omega
    · rename_i hc; rw [if_neg hc] at hz; exact absurd rfl hz
theorem cost_save (hk : Ok s) (n : Int) (t : Bytes) : Cost 0 s h (saveP s h n t).2.1 (saveP s h n t).2.2 ∧ (rightP s n = 0 → t.length = s.text → changedAt s n = false → (saveP s h n t).2.2.ops + 2 * s.writes + chg s + dE s + 1 ≤ h.ops + 2 * (saveP s h n t).2.1.writes + chg (saveP s h n t).2.1 + dE (saveP s h n t).2.1) := by
  have gain : ∀ {s : PS} {h : HS}, (numbers s).Nodup → changedAt s n = false → h.ops + 2 * s.writes + chg s + dE s + 1 ≤ h.ops + 2 * (useP s ⟨n, t, 2⟩).writes + chg (useP s ⟨n, t, 2⟩) + dE (useP s ⟨n, t, 2⟩) := fun {s h} hk hc => by
    have := cnt_filter n hk
    have e : chg (useP s ⟨n, t, 2⟩) = (s.held.filter fun g => !(g.page == n)).countP is2 + 1 := chg_use (s := s) ⟨n, t, 2⟩
    have e1 : (useP s ⟨n, t, 2⟩).writes = s.writes := rfl
    have e2 : dE (useP s ⟨n, t, 2⟩) = dE s := rfl
    rw [e1, e2, e]
    change chg s ≤ _ at this
    rw [← ch_is, hc] at this
    change chg s ≤ _ + 0 at this
    omega
  unfold saveP
  split
  · rename_i hr
    have h0 := (right_zero hr).1
    split
    · split
      · exact ⟨cost_use _ hk.once (fun _ => rfl), fun _ _ hc => gain hk.once hc⟩
      · rename_i hf
        have hn := frOf_not hf
        obtain ⟨r1, r2, r3⟩ := room_once (h := h) hk
        have a := cost_room (h := h) hk h0
        dsimp only
        split
        · have hc2 : changedAt (roomP s h).2.1 n = false := ch_none (r2 n hn)
          refine ⟨(a.trans (cost_use _ r1 (fun _ => rfl))).mono (Nat.le_refl _), fun _ _ _ => ?_⟩
          have := gain (h := (roomP s h).2.2) r1 hc2
          unfold Cost at a
          dsimp only at this ⊢
          omega
        · rename_i hz
          refine ⟨a, fun _ _ _ => ?_⟩
          exact room_fail h0 hz
    · rename_i hl; exact ⟨Cost.refl s h, fun _ hh => absurd hh hl⟩
  · rename_i hr; exact ⟨Cost.refl s h, fun hh => absurd hh hr⟩
end
end Go.Sl.PagerS
namespace Go.Sl.SlotS
open Go Go.Sl Go.Sl.HostS Go.Sl.PagerS
attribute [local irreducible] pgSealB pgOpenR PagerS.loadP PagerS.saveP
structure Two (p t : PS) (h g : HS) : Prop where
  q1 : ∃ b, Sound p h b
  q2 : ∃ b, Sound t g b
  s : SRel p t
  hr : HRel h g
  i : HI p h
section
variable {s : SL} {p t : PS} {h g : HS}
theorem Two.load (k : Two p t h g) (n : Int) : Two (loadP p h n).2.1 (loadP t g n).2.1 (loadP p h n).2.2 (loadP t g n).2.2 ∧ (loadP p h n).1.2 = (loadP t g n).1.2 ∧ ((loadP p h n).1.2 = 0 → (loadP p h n).1.1.length = p.text ∧ (loadP t g n).1.1.length = p.text ∧ (loadP p h n).2.1.err = 0) := by
  obtain ⟨b, q1⟩ := k.q1
  obtain ⟨b', q2⟩ := k.q2
  obtain ⟨e1, a1, a2, a3, _⟩ := q1.load n
  obtain ⟨e2, c1, c2, c3, _⟩ := q2.load n
  obtain ⟨r1, r2, r3⟩ := load_rel2 k.s k.hr q1 q2 n
  refine ⟨⟨⟨b, a2⟩, ⟨b', c2⟩, r2, r3, k.i.load q1.ok n⟩, r1, fun h0 => ?_⟩
  have h0' := h0
  rw [r1] at h0'
  rw [a1] at h0
  rw [c1] at h0'
  dsimp only at h0 h0'
  rw [a1, c1]
  dsimp only
  rw [if_pos h0, if_pos h0', k.s.text]
  exact ⟨by rw [← k.s.text]; exact q1.len n, q2.len n, a3 h0⟩
theorem Two.save (k : Two p t h g) (n : Int) {x y : Bytes} (hxy : x.length = y.length) : Two (saveP p h n x).2.1 (saveP t g n y).2.1 (saveP p h n x).2.2 (saveP t g n y).2.2 ∧ (saveP p h n x).1 = (saveP t g n y).1 := by
  obtain ⟨b, q1⟩ := k.q1
  obtain ⟨b', q2⟩ := k.q2
  obtain ⟨a2, _⟩ := q1.save n x
  obtain ⟨c2, _⟩ := q2.save n y
  obtain ⟨r1, r2, r3⟩ := save_rel k.s k.hr q1.ok q2.ok q1.over q2.over n hxy
  exact ⟨⟨⟨_, a2⟩, ⟨_, c2⟩, r2, r3, k.i.save q1.ok n x⟩, r1⟩
theorem Two.ok (k : Two p t h g) : Ok p := by obtain ⟨b, q⟩ := k.q1; exact q.ok
theorem Two.get (k : Two p t h g) {i : Nat} (hi : i < s.n) : (getS s p h i).2.1 = touch s 0 i 0 ∧ (getS s t g i).2.1 = touch s 0 i 0 ∧ Two (getS s p h i).2.2.1 (getS s t g i).2.2.1 (getS s p h i).2.2.2 (getS s t g i).2.2.2 ∧ Cost 1 p h (getS s p h i).2.2.1 (getS s p h i).2.2.2 := by
  obtain ⟨a, _⟩ := k.load (pg s i)
  obtain ⟨c, _⟩ := cost_load (h := h) k.ok ((pg s i : Nat) : Int)
  have e : ∀ (p : PS) (h : HS), (getS s p h i).2 = (touch s 0 i 0, (loadP p h (pg s i)).2) := fun p h => by
    unfold getS
    rw [if_pos (has_nat hi), Int.toNat_natCast]
  rw [e p h, e t g]
  exact ⟨rfl, rfl, a, c⟩
theorem Two.set (k : Two p t h g) (f : Fit s p) {i : Nat} (hi : i < s.n) {x y : Bytes} (hx : x.length = s.size) (hy : y.length = s.size) : (setS s p h i x).2.1 = touch s 1 i 0 ∧ (setS s t g i y).2.1 = touch s 1 i 0 ∧ Two (setS s p h i x).2.2.1 (setS s t g i y).2.2.1 (setS s p h i x).2.2.2 (setS s t g i y).2.2.2 ∧ Cost 1 p h (setS s p h i x).2.2.1 (setS s p h i x).2.2.2 := by
  obtain ⟨a, ae, al⟩ := k.load (pg s i)
  obtain ⟨cl, _⟩ := cost_load (h := h) k.ok ((pg s i : Nat) : Int)
  have h1 := f.from i
  have e : ∀ (p : PS) (h : HS) (x : Bytes), x.length = s.size → (setS s p h i x).2 = (touch s 1 i 0, if (loadP p h (pg s i)).1.2 = 0 then (saveP (loadP p h (pg s i)).2.1 (loadP p h (pg s i)).2.2 (pg s i) (lay (loadP p h (pg s i)).1.1 (fr s i) x)).2 else (loadP p h (pg s i)).2) := fun p h x hx => by
    unfold setS
    rw [if_pos (has_nat hi), if_pos hx, Int.toNat_natCast]
    dsimp only
    split <;> rfl
  rw [e p h x hx, e t g y hy]
  refine ⟨rfl, rfl, ?_⟩
  by_cases h0 : (loadP p h (pg s i)).1.2 = 0
  · have h0' := h0
    rw [ae] at h0'
    obtain ⟨a3, a4, _⟩ := al h0
    dsimp only
    rw [if_pos h0, if_pos h0']
    obtain ⟨c, _⟩ := a.save (pg s i) (x := lay (loadP p h (pg s i)).1.1 (fr s i) x) (y := lay (loadP t g (pg s i)).1.1 (fr s i) y) (by rw [lay_len (by rw [a3, hx]; exact h1), lay_len (by rw [a4, hy]; exact h1), a3, a4])
    exact ⟨c, cl.trans (cost_save a.ok _ _).1⟩
  · have h0' := h0
    rw [ae] at h0'
    dsimp only
    rw [if_neg h0, if_neg h0']
    exact ⟨a, cl⟩
structure PL2 (s : SL) (p t : PS) (h g : HS) (i j : Nat) : Prop where
  eq : (pairL s p h i j).1.1 = (pairL s t g i j).1.1
  lens : (pairL s p h i j).1.1 = 0 → (pairL s p h i j).1.2.1.length = p.text ∧ (pairL s p h i j).1.2.2.length = p.text ∧ (pairL s t g i j).1.2.1.length = p.text ∧ (pairL s t g i j).1.2.2.length = p.text ∧ (pairL s p h i j).2.1.err = 0
  two : Two (pairL s p h i j).2.1 (pairL s t g i j).2.1 (pairL s p h i j).2.2 (pairL s t g i j).2.2
  near : Near 4 2 p h (pairL s p h i j).2.1 (pairL s p h i j).2.2
  cost0 : (pairL s p h i j).1.1 ≠ 0 → Cost 1 p h (pairL s p h i j).2.1 (pairL s p h i j).2.2
  cost : Cost 1 p h (pairL s p h i j).2.1 (pairL s p h i j).2.2 ∨ (Cost 2 p h (pairL s p h i j).2.1 (pairL s p h i j).2.2 ∧ changedAt (pairL s p h i j).2.1 (pg s i) = false)
theorem Two.pairL (k : Two p t h g) (i j : Nat) : PL2 s p t h g i j := by
  obtain ⟨a, ae, al⟩ := k.load (pg s i)
  obtain ⟨c1, c2, c3, c4⟩ := cost_load (h := h) k.ok ((pg s i : Nat) : Int)
  have n1 := near_load p h ((pg s i : Nat) : Int)
  by_cases h0 : (loadP p h (pg s i)).1.2 = 0
  · have h0' := h0
    rw [ae] at h0'
    obtain ⟨a3, a4, a5⟩ := al h0
    by_cases e : pg s j = pg s i
    · have ee : ∀ (p : PS) (h : HS), (loadP p h (pg s i)).1.2 = 0 → SlotS.pairL s p h i j = ((0, (loadP p h (pg s i)).1.1, (loadP p h (pg s i)).1.1), (loadP p h (pg s i)).2) := fun p h h0 => by
        unfold SlotS.pairL
        dsimp only
        rw [if_pos h0, if_pos e]
      have x1 := ee p h h0
      have x2 := ee t g h0'
      refine ⟨?_, ?_, ?_, ?_, ?_, ?_⟩ <;> simp only [x1, x2]
      · exact fun _ => ⟨a3, a3, a4, a4, a5⟩
      · exact a
      · exact n1.trans (Near.refl 2 1 _ _) (by omega) (by omega)
      · exact fun hh => absurd rfl hh
      · exact .inl c1
    · obtain ⟨b, be, bl⟩ := a.load (pg s j)
      obtain ⟨d1, d2, d3, d4⟩ := cost_load (h := (loadP p h (pg s i)).2.2) a.ok ((pg s j : Nat) : Int)
      have n2 := near_load (loadP p h (pg s i)).2.1 (loadP p h (pg s i)).2.2 ((pg s j : Nat) : Int)
      rw [n1.text] at bl
      by_cases h2 : (loadP (loadP p h (pg s i)).2.1 (loadP p h (pg s i)).2.2 (pg s j)).1.2 = 0
      · have h2' := h2
        rw [be] at h2'
        obtain ⟨b3, b4, b5⟩ := bl h2
        have ee : ∀ (p : PS) (h : HS), (loadP p h (pg s i)).1.2 = 0 → (loadP (loadP p h (pg s i)).2.1 (loadP p h (pg s i)).2.2 (pg s j)).1.2 = 0 → SlotS.pairL s p h i j = ((0, (loadP p h (pg s i)).1.1, (loadP (loadP p h (pg s i)).2.1 (loadP p h (pg s i)).2.2 (pg s j)).1.1), (loadP (loadP p h (pg s i)).2.1 (loadP p h (pg s i)).2.2 (pg s j)).2) := fun p h h0 h1 => by
          unfold SlotS.pairL
          dsimp only
          rw [if_pos h0, if_neg e, if_pos h1]
        have x1 := ee p h h0 h2
        have x2 := ee t g h0' h2'
        refine ⟨?_, ?_, ?_, ?_, ?_, ?_⟩ <;> simp only [x1, x2]
        · exact fun _ => ⟨a3, b3, a4, b4, b5⟩
        · exact b
        · exact n1.trans n2 (by omega) (by omega)
        · exact fun hh => absurd rfl hh
        · rcases c3 with c3|c3
          · exact .inl (c3.trans d1)
          · refine .inr ⟨c1.trans d1, ?_⟩
            cases hq : changedAt (loadP (loadP p h (pg s i)).2.1 (loadP p h (pg s i)).2.2 (pg s j)).2.1 (pg s i)
            · rfl
            · have := c2 _ (d2 _ hq)
              rw [c3] at this; cases this
      · have h2' := h2
        rw [be] at h2'
        have ee : ∀ (p : PS) (h : HS), (loadP p h (pg s i)).1.2 = 0 → (loadP (loadP p h (pg s i)).2.1 (loadP p h (pg s i)).2.2 (pg s j)).1.2 ≠ 0 → SlotS.pairL s p h i j = (((loadP (loadP p h (pg s i)).2.1 (loadP p h (pg s i)).2.2 (pg s j)).1.2, [], []), (loadP (loadP p h (pg s i)).2.1 (loadP p h (pg s i)).2.2 (pg s j)).2) := fun p h h0 h1 => by
          unfold SlotS.pairL
          dsimp only
          rw [if_pos h0, if_neg e, if_neg h1]
        have x1 := ee p h h0 h2
        have x2 := ee t g h0' h2'
        refine ⟨?_, ?_, ?_, ?_, ?_, ?_⟩ <;> simp only [x1, x2]
        · exact be
        · exact fun hh => absurd hh h2
        · exact b
        · exact n1.trans n2 (by omega) (by omega)
        · exact fun _ => c1.trans (d4 h2)
        · exact .inl (c1.trans (d4 h2))
  · have h0' := h0
    rw [ae] at h0'
    have ee : ∀ (p : PS) (h : HS), (loadP p h (pg s i)).1.2 ≠ 0 → SlotS.pairL s p h i j = (((loadP p h (pg s i)).1.2, [], []), (loadP p h (pg s i)).2) := fun p h h0 => by
      unfold SlotS.pairL
      dsimp only
      rw [if_neg h0]
    have x1 := ee p h h0
    have x2 := ee t g h0'
    refine ⟨?_, ?_, ?_, ?_, ?_, ?_⟩ <;> simp only [x1, x2]
    · exact ae
    · exact fun hh => absurd hh h0
    · exact a
    · exact n1.trans (Near.refl 2 1 _ _) (by omega) (by omega)
    · exact fun _ => c1
    · exact .inl c1
theorem Two.pairE (k : Two p t h g) (f : Fit s p) {i j : Nat} (hi : i < s.n) (h0 : p.err = 0) {tI tJ a b tI' tJ' a' b' : Bytes} (l1 : tI.length = p.text) (l2 : tJ.length = p.text) (m1 : tI'.length = p.text) (m2 : tJ'.length = p.text) (ha : a.length = s.size) (hb : b.length = s.size) (ha' : a'.length = s.size) (hb' : b'.length = s.size) :
    Two (pairE s p h i j tI tJ a b).2.1 (pairE s t g i j tI' tJ' a' b').2.1 (pairE s p h i j tI tJ a b).2.2 (pairE s t g i j tI' tJ' a' b').2.2 ∧ Cost 0 p h (pairE s p h i j tI tJ a b).2.1 (pairE s p h i j tI tJ a b).2.2 ∧ (changedAt p (pg s i) = false → (pairE s p h i j tI tJ a b).2.2.ops + 2 * p.writes + chg p + dE p + 1 ≤ h.ops + 2 * (pairE s p h i j tI tJ a b).2.1.writes + chg (pairE s p h i j tI tJ a b).2.1 + dE (pairE s p h i j tI tJ a b).2.1) := by
  have h1 := f.from i
  have h2 := f.from j
  have hr : rightP p (pg s i : Nat) = 0 := by
    have := f.page hi
    unfold rightP
    rw [if_neg (fun hh => hh h0), if_neg (by omega)]
  have x1 : (lay tI (fr s i) a).length = p.text := by rw [lay_len (by rw [l1, ha]; exact h1), l1]
  have x2 : (lay tI' (fr s i) a').length = p.text := by rw [lay_len (by rw [m1, ha']; exact h1), m1]
  by_cases e : pg s j = pg s i
  · have ee : ∀ (p : PS) (h : HS) (tI tJ a b : Bytes), SlotS.pairE s p h i j tI tJ a b = saveP p h (pg s i) (lay (lay tI (fr s i) a) (fr s j) b) := fun p h tI tJ a b => by
      unfold SlotS.pairE
      rw [if_pos e]
    rw [ee, ee]
    have y1 : (lay (lay tI (fr s i) a) (fr s j) b).length = p.text := by rw [lay_len (by rw [x1, hb]; exact h2), x1]
    have y2 : (lay (lay tI' (fr s i) a') (fr s j) b').length = p.text := by rw [lay_len (by rw [x2, hb']; exact h2), x2]
    obtain ⟨c1, c2⟩ := cost_save (h := h) k.ok (pg s i : Nat) (lay (lay tI (fr s i) a) (fr s j) b)
    exact ⟨(k.save (pg s i) (y1.trans y2.symm)).1, c1, c2 hr y1⟩
  · obtain ⟨c, ce⟩ := k.save (pg s i) (x1.trans x2.symm)
    obtain ⟨c1, c2⟩ := cost_save (h := h) k.ok (pg s i : Nat) (lay tI (fr s i) a)
    have ee : ∀ (p : PS) (h : HS) (tI tJ a b : Bytes), SlotS.pairE s p h i j tI tJ a b = if (saveP p h (pg s i) (lay tI (fr s i) a)).1 = 0 then saveP (saveP p h (pg s i) (lay tI (fr s i) a)).2.1 (saveP p h (pg s i) (lay tI (fr s i) a)).2.2 (pg s j) (lay tJ (fr s j) b) else saveP p h (pg s i) (lay tI (fr s i) a) := fun p h tI tJ a b => by
      unfold SlotS.pairE
      rw [if_neg e]
    rw [ee, ee]
    by_cases hz : (saveP p h (pg s i) (lay tI (fr s i) a)).1 = 0
    · have hz' := hz
      rw [ce] at hz'
      rw [if_pos hz, if_pos hz']
      have y1 : (lay tJ (fr s j) b).length = p.text := by rw [lay_len (by rw [l2, hb]; exact h2), l2]
      have y2 : (lay tJ' (fr s j) b').length = p.text := by rw [lay_len (by rw [m2, hb']; exact h2), m2]
      obtain ⟨d1, _⟩ := cost_save (h := (saveP p h (pg s i) (lay tI (fr s i) a)).2.2) c.ok (pg s j : Nat) (lay tJ (fr s j) b)
      refine ⟨(c.save (pg s j) (y1.trans y2.symm)).1, c1.trans d1, fun hc => ?_⟩
      have := c2 hr x1 hc
      unfold Cost at d1
      omega
    · have hz' := hz
      rw [ce] at hz'
      rw [if_neg hz, if_neg hz']
      exact ⟨c, c1, c2 hr x1⟩
end
end Go.Sl.SlotS
