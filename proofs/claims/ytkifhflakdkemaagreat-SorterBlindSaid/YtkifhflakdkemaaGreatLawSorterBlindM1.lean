/- Parts of the proof. -/
import Derived.Test.YtkifhflakdkemaaGreatLawSorterBlindM0
import Derived.Laws.Bits64
import Derived.Laws.BitsLemmas
import Derived.Laws.BitsAllLaws
import Derived.OpenShut
import Derived.Test.YtkifhflakdkemaaGreatProg
import Derived.RangeFuncBox
import Derived.RangeFuncLeaves
import Derived.Shelf.Abstract
import Derived.WalkKit
import Derived.OwnWalkIn
import Derived.TacticsInMore
import Derived.LoopNIn
import Derived.LoopIn
import Derived.Maps.AppendAt
import Derived.Shelf.SlIterI.Sorted
import Derived.Shelf.SortM.Plain
import Derived.Shelf.SortM.SortNone
import Derived.Ground.SlgmProg
import Derived.Test.YtkifhflakdkemaaGreatChecked
import Derived.Below
import Derived.Stop.Asserts
import Derived.Stop.IfaceNil
import Derived.Lib.IfaceEq
import Derived.Laws.Externs
import Derived.Lib.Mul64
set_option maxHeartbeats 4000000
set_option maxRecDepth 10000
set_option linter.unusedVariables false
set_option linter.unusedSimpArgs false
namespace Go.Sl
open Go
theorem uwrap {k : IntKind} (hk : k.signed = false) (n : Int) : k.wrap n = ((BitVec.ofInt k.bits n).toNat : Int) := by
  have h : (2 ^ k.bits : Int) = ((2 ^ k.bits : Nat) : Int) := by push_cast; rfl
  have hp : (0 : Int) < ((2 ^ k.bits : Nat) : Int) := by exact_mod_cast Nat.two_pow_pos k.bits
  unfold IntKind.wrap
  rw [hk, BitVec.toNat_ofInt, h]
  simp only [Bool.false_and, Bool.false_eq_true, if_false]
  rw [Int.toNat_of_nonneg (Int.emod_nonneg _ (by omega))]
theorem ofInt_nat {w : Nat} (x : BitVec w) : BitVec.ofInt w (x.toNat : Int) = x := by
  apply BitVec.eq_of_toNat_eq
  rw [BitVec.toNat_ofInt, ← Int.natCast_emod]
  simp [Nat.mod_eq_of_lt x.isLt]
theorem uwrap_nat {k : IntKind} (hk : k.signed = false) (x : BitVec k.bits) : k.wrap (x.toNat : Int) = (x.toNat : Int) := by rw [uwrap hk, ofInt_nat]
section
variable {P : Program} {ρ : Env} {T T' : Nat} {a b : Operand} {k : IntKind} {x y : BitVec k.bits}
theorem pvu_add (hk : k.signed = false) (hx : ev ρ a = .int k x.toNat) (hy : ev ρ b = .int k y.toNat) : PV P (.binOp .add T a b T') ρ (.int k (x + y).toNat) := by
  have h := Zbd (P := P) (T := T) (T' := T') hx hy
  have e : BitVec.ofInt k.bits ((x.toNat : Int) + y.toNat) = x + y := by rw [BitVec.ofInt_add, ofInt_nat, ofInt_nat]
  rwa [uwrap hk, e] at h
theorem pvu_sub (hk : k.signed = false) (hx : ev ρ a = .int k x.toNat) (hy : ev ρ b = .int k y.toNat) : PV P (.binOp .sub T a b T') ρ (.int k (x - y).toNat) := by
  have h := Zbe (P := P) (T := T) (T' := T') hx hy
  have e : BitVec.ofInt k.bits ((x.toNat : Int) - y.toNat) = x - y := by rw [Int.sub_eq_add_neg, BitVec.ofInt_add, ofInt_nat, BitVec.ofInt_neg, ofInt_nat, BitVec.sub_eq_add_neg]
  rwa [uwrap hk, e] at h
theorem pvu_mul (hk : k.signed = false) (hx : ev ρ a = .int k x.toNat) (hy : ev ρ b = .int k y.toNat) : PV P (.binOp .mul T a b T') ρ (.int k (x * y).toNat) := by
  have h := Zbf (P := P) (T := T) (T' := T') hx hy
  have e : BitVec.ofInt k.bits ((x.toNat : Int) * y.toNat) = x * y := by rw [BitVec.ofInt_mul, ofInt_nat, ofInt_nat]
  rwa [uwrap hk, e] at h
theorem pvu_and (hk : k.signed = false) (hx : ev ρ a = .int k x.toNat) (hy : ev ρ b = .int k y.toNat) : PV P (.binOp .and T a b T') ρ (.int k (x &&& y).toNat) := by
  have h := Zbu (P := P) (T := T) (T' := T') hx hy
  rwa [ofInt_nat, ofInt_nat, uwrap_nat hk] at h
theorem pvu_or (hk : k.signed = false) (hx : ev ρ a = .int k x.toNat) (hy : ev ρ b = .int k y.toNat) : PV P (.binOp .or T a b T') ρ (.int k (x ||| y).toNat) := by
  have h := Zbv (P := P) (T := T) (T' := T') hx hy
  rwa [ofInt_nat, ofInt_nat, uwrap_nat hk] at h
theorem pvu_xor (hk : k.signed = false) (hx : ev ρ a = .int k x.toNat) (hy : ev ρ b = .int k y.toNat) : PV P (.binOp .xor T a b T') ρ (.int k (x ^^^ y).toNat) := by
  have h := Zbw (P := P) (T := T) (T' := T') hx hy
  rwa [ofInt_nat, ofInt_nat, uwrap_nat hk] at h
theorem pvu_andNot (hk : k.signed = false) (hx : ev ρ a = .int k x.toNat) (hy : ev ρ b = .int k y.toNat) : PV P (.binOp .andNot T a b T') ρ (.int k (x &&& ~~~ y).toNat) := by
  have h := Zbx (P := P) (T := T) (T' := T') hx hy
  rwa [ofInt_nat, ofInt_nat, uwrap_nat hk] at h
theorem pvu_shl {k' : IntKind} {m : Nat} (hk : k.signed = false) (hx : ev ρ a = .int k x.toNat) (hy : ev ρ b = .int k' (m : Int)) : PV P (.binOp .shl T a b T') ρ (.int k (x <<< m).toNat) := by
  have h := Zby (P := P) (T := T) (T' := T') hx hy (by omega)
  have e : BitVec.ofInt k.bits ((x.toNat : Int) * 2 ^ (min m k.bits)) = x <<< m := by
    apply BitVec.eq_of_toNat_eq
    rw [BitVec.toNat_shiftLeft, BitVec.toNat_ofInt, show ((x.toNat : Int) * 2 ^ (min m k.bits)) = ((x.toNat * 2 ^ (min m k.bits) : Nat) : Int) by push_cast; rfl, ← Int.natCast_emod, Int.toNat_natCast, Nat.shiftLeft_eq]
    rcases Nat.le_total m k.bits with hle|hle
    · rw [Nat.min_eq_left hle]
    · rw [Nat.min_eq_right hle]
      obtain ⟨d, rfl⟩ := Nat.exists_eq_add_of_le hle
      rw [Nat.pow_add, ← Nat.mul_assoc, Nat.mul_mod_left, Nat.mul_right_comm, Nat.mul_mod_left]
  rw [uwrap hk, Int.toNat_natCast, e] at h
  exact h
theorem pvu_shr {k' : IntKind} {m : Nat} (hk : k.signed = false) (hx : ev ρ a = .int k x.toNat) (hy : ev ρ b = .int k' (m : Int)) : PV P (.binOp .shr T a b T') ρ (.int k (x >>> m).toNat) := by
  have h := Zbz (P := P) (T := T) (T' := T') hx hy (by omega)
  have e : (x.toNat : Int).fdiv (2 ^ (min m k.bits)) = ((x >>> m).toNat : Int) := by
    have hp : (0 : Int) ≤ 2 ^ (min m k.bits) := by
      rw [show ((2 : Int) ^ (min m k.bits)) = ((2 ^ (min m k.bits) : Nat) : Int) by push_cast; rfl]
      exact Int.natCast_nonneg _
    rw [Int.fdiv_eq_ediv_of_nonneg _ hp, BitVec.toNat_ushiftRight, Nat.shiftRight_eq_div_pow]
    rcases Nat.le_total m k.bits with hle|hle
    · rw [Nat.min_eq_left hle]; push_cast; rfl
    · rw [Nat.min_eq_right hle]
      have h1 : x.toNat / 2 ^ k.bits = 0 := Nat.div_eq_of_lt x.isLt
      have h2 : x.toNat / 2 ^ m = 0 := Nat.div_eq_of_lt (Nat.lt_of_lt_of_le x.isLt (Nat.pow_le_pow_right (by omega) hle))
      rw [h2]
      have h3 : ((x.toNat : Int) / 2 ^ k.bits) = ((x.toNat / 2 ^ k.bits : Nat) : Int) := by push_cast; rfl
      rw [h3, h1]
  rw [Int.toNat_natCast, e] at h
  exact h
theorem pvu_not (hk : k.signed = false) (hx : ev ρ a = .int k x.toNat) : PV P (.unOp .xor T a) ρ (.int k (~~~ x).toNat) := by
  have h := Zb3 (P := P) (T := T) hx
  have e : BitVec.ofInt k.bits (if k.signed then -1 else k.max) = BitVec.allOnes k.bits := by
    rw [hk]; simp only [Bool.false_eq_true, if_false, IntKind.max, hk]
    apply BitVec.eq_of_toNat_eq
    have hp := Nat.two_pow_pos k.bits
    rw [BitVec.toNat_ofInt, BitVec.toNat_allOnes, show (2 ^ k.bits - 1 : Int) = ((2 ^ k.bits - 1 : Nat) : Int) by push_cast [Nat.one_le_two_pow]; rfl, ← Int.natCast_emod, Int.toNat_natCast, Nat.mod_eq_of_lt (by omega)]
  rw [e, ofInt_nat, uwrap_nat hk, BitVec.allOnes_xor] at h
  exact h
theorem pvu_neg (hk : k.signed = false) (hx : ev ρ a = .int k x.toNat) : PV P (.unOp .neg T a) ρ (.int k (- x).toNat) := by
  have h := Zb2 (P := P) (T := T) hx
  have e : BitVec.ofInt k.bits (0 - (x.toNat : Int)) = - x := by rw [Int.zero_sub, BitVec.ofInt_neg, ofInt_nat]
  rwa [uwrap hk, e] at h
theorem pvu_eql (hx : ev ρ a = .int k x.toNat) (hy : ev ρ b = .int k y.toNat) : PV P (.binOp .eql T a b T') ρ (.bool (decide (x = y))) := by
  have h := Zbr (P := P) (T := T) (T' := T') hx hy
  have e : decide ((x.toNat : Int) = y.toNat) = decide (x = y) := decide_eq_decide.2 ⟨fun h => BitVec.eq_of_toNat_eq (by omega), fun h => by rw [h]⟩
  rwa [e] at h
theorem pvu_neq (hx : ev ρ a = .int k x.toNat) (hy : ev ρ b = .int k y.toNat) : PV P (.binOp .neq T a b T') ρ (.bool (decide (x ≠ y))) := by
  have h := Zbs (P := P) (T := T) (T' := T') hx hy
  have e : decide ((x.toNat : Int) ≠ y.toNat) = decide (x ≠ y) := decide_eq_decide.2 ⟨fun h e => h (by rw [e]), fun h e => h (BitVec.eq_of_toNat_eq (by omega))⟩
  rwa [e] at h
theorem pvu_lss (hx : ev ρ a = .int k x.toNat) (hy : ev ρ b = .int k y.toNat) : PV P (.binOp .lss T a b T') ρ (.bool (decide (x.toNat < y.toNat))) := by
  have h := Zbn (P := P) (T := T) (T' := T') hx hy
  rwa [show decide ((x.toNat : Int) < y.toNat) = decide (x.toNat < y.toNat) from decide_eq_decide.2 (by omega)] at h
theorem pvu_gtr (hx : ev ρ a = .int k x.toNat) (hy : ev ρ b = .int k y.toNat) : PV P (.binOp .gtr T a b T') ρ (.bool (decide (y.toNat < x.toNat))) := by
  have h := Zbp (P := P) (T := T) (T' := T') hx hy
  rwa [show decide ((y.toNat : Int) < x.toNat) = decide (y.toNat < x.toNat) from decide_eq_decide.2 (by omega)] at h
theorem pvu_geq (hx : ev ρ a = .int k x.toNat) (hy : ev ρ b = .int k y.toNat) : PV P (.binOp .geq T a b T') ρ (.bool (decide (y.toNat ≤ x.toNat))) := by
  have h := Zbq (P := P) (T := T) (T' := T') hx hy
  rwa [show decide ((y.toNat : Int) ≤ x.toNat) = decide (y.toNat ≤ x.toNat) from decide_eq_decide.2 (by omega)] at h
theorem pvu_quo (hk : k.signed = false) (hx : ev ρ a = .int k x.toNat) (hy : ev ρ b = .int k y.toNat) (h0 : 0 < y.toNat) : PV P (.binOp .quo T a b T') ρ (.int k (x / y).toNat) := by
  have e : ((x.toNat : Int) / y.toNat) = ((x / y).toNat : Int) := by rw [BitVec.toNat_udiv]; push_cast; rfl
  have h := Zbm (P := P) (T := T) (T' := T') hx hy hk ⟨by omega, by omega, by rw [e, uwrap_nat hk]⟩
  rwa [e] at h
theorem pvu_rem (hx : ev ρ a = .int k x.toNat) (hy : ev ρ b = .int k y.toNat) (h0 : 0 < y.toNat) : PV P (.binOp .rem T a b T') ρ (.int k (x % y).toNat) := by
  have h := Zbk (P := P) (T := T) (T' := T') hx hy (by omega)
  have e : ((x.toNat : Int)).tmod y.toNat = ((x % y).toNat : Int) := by rw [BitVec.toNat_umod]; rfl
  rwa [e] at h
theorem pvu_conv {S D : Nat} {k' : IntKind} [hs : TyInt P S k] [hd : TyInt P D k'] (hk' : k'.signed = false) (hx : ev ρ a = .int k x.toNat) : PV P (.convert S D a) ρ (.int k' (x.setWidth k'.bits).toNat) := by
  have h := Zb4 (P := P) (S := S) (D := D) hx
  have e : BitVec.ofInt k'.bits (x.toNat : Int) = x.setWidth k'.bits := by
    apply BitVec.eq_of_toNat_eq
    rw [BitVec.toNat_ofInt, BitVec.toNat_setWidth, ← Int.natCast_emod, Int.toNat_natCast]
  rwa [uwrap hk', e] at h
theorem pvu_convI {S D : Nat} {k0 : IntKind} {n : Int} [hs : TyInt P S k0] [hd : TyInt P D k] (hk : k.signed = false) (hx : ev ρ a = .int k0 n) : PV P (.convert S D a) ρ (.int k (BitVec.ofInt k.bits n).toNat) := by
  have h := Zb4 (P := P) (S := S) (D := D) hx
  rwa [uwrap hk] at h
theorem pvu_convN {S D : Nat} [hs : TyInt P S k] [hd : TyInt P D .i64] (hx : ev ρ a = .int k x.toNat) (h : x.toNat < 9223372036854775808) : PV P (.convert S D a) ρ (.int .i64 x.toNat) := by
  refine Zb5 hx ?_
  rw [IntWalk.i64_in _ ⟨by omega, by omega⟩]
end

section
variable {P : Program} {ρ : Env} {T T' : Nat} {a b : Operand} {x y : BitVec 8}
theorem Zi9 (hx : ev ρ a = .int .u8 x.toNat) (hy : ev ρ b = .int .u8 y.toNat) : PV P (.binOp .add T a b T') ρ (.int .u8 (x + y).toNat) := pvu_add (k := .u8) rfl hx hy
theorem Zjc (hx : ev ρ a = .int .u8 x.toNat) (hy : ev ρ b = .int .u8 y.toNat) : PV P (.binOp .and T a b T') ρ (.int .u8 (x &&& y).toNat) := pvu_and (k := .u8) rfl hx hy
theorem Zjd (hx : ev ρ a = .int .u8 x.toNat) (hy : ev ρ b = .int .u8 y.toNat) : PV P (.binOp .or T a b T') ρ (.int .u8 (x ||| y).toNat) := pvu_or (k := .u8) rfl hx hy
theorem Zje (hx : ev ρ a = .int .u8 x.toNat) (hy : ev ρ b = .int .u8 y.toNat) : PV P (.binOp .xor T a b T') ρ (.int .u8 (x ^^^ y).toNat) := pvu_xor (k := .u8) rfl hx hy
theorem Zjk (hx : ev ρ a = .int .u8 x.toNat) (hy : ev ρ b = .int .u8 y.toNat) : PV P (.binOp .eql T a b T') ρ (.bool (decide (x = y))) := pvu_eql (k := .u8) hx hy
theorem Zjm (hx : ev ρ a = .int .u8 x.toNat) (hy : ev ρ b = .int .u8 y.toNat) : PV P (.binOp .lss T a b T') ρ (.bool (decide (x.toNat < y.toNat))) := pvu_lss (k := .u8) hx hy
theorem Zjs {S D : Nat} {n : Int} [hs : TyInt P S .i64] [hd : TyInt P D .u8] (hx : ev ρ a = .int .i64 n) : PV P (.convert S D a) ρ (.int .u8 (BitVec.ofInt 8 n).toNat) := pvu_convI (k := .u8) rfl hx
theorem Zjt {S D : Nat} [hs : TyInt P S .u8] [hd : TyInt P D .i64] (hx : ev ρ a = .int .u8 x.toNat) : PV P (.convert S D a) ρ (.int .i64 x.toNat) := pvu_convN (k := .u8) hx (Nat.lt_trans x.isLt (by decide))
theorem Zjw {S D : Nat} [hs : TyInt P S .u8] [hd : TyInt P D .u32] (hx : ev ρ a = .int .u8 x.toNat) : PV P (.convert S D a) ρ (.int .u32 (x.setWidth 32).toNat) := pvu_conv (k := .u8) (k' := .u32) rfl hx
theorem Zjx {S D : Nat} [hs : TyInt P S .u8] [hd : TyInt P D .u64] (hx : ev ρ a = .int .u8 x.toNat) : PV P (.convert S D a) ρ (.int .u64 (x.setWidth 64).toNat) := pvu_conv (k := .u8) (k' := .u64) rfl hx
end
abbrev u8b (x : BitVec 8) : Value := .int .u8 x.toNat
section
variable {P : Program} {ρ : Env} {T T' : Nat} {a b : Operand} {x y : BitVec 16}
end
section
variable {P : Program} {ρ : Env} {T T' : Nat} {a b : Operand} {x y : BitVec 32}
theorem Zkn (hx : ev ρ a = .int .u32 x.toNat) (hy : ev ρ b = .int .u32 y.toNat) : PV P (.binOp .add T a b T') ρ (.int .u32 (x + y).toNat) := pvu_add (k := .u32) rfl hx hy
theorem Zkq (hx : ev ρ a = .int .u32 x.toNat) (hy : ev ρ b = .int .u32 y.toNat) : PV P (.binOp .and T a b T') ρ (.int .u32 (x &&& y).toNat) := pvu_and (k := .u32) rfl hx hy
theorem Zkr (hx : ev ρ a = .int .u32 x.toNat) (hy : ev ρ b = .int .u32 y.toNat) : PV P (.binOp .or T a b T') ρ (.int .u32 (x ||| y).toNat) := pvu_or (k := .u32) rfl hx hy
theorem Zks (hx : ev ρ a = .int .u32 x.toNat) (hy : ev ρ b = .int .u32 y.toNat) : PV P (.binOp .xor T a b T') ρ (.int .u32 (x ^^^ y).toNat) := pvu_xor (k := .u32) rfl hx hy
theorem Zku {k' : IntKind} {m : Nat} (hx : ev ρ a = .int .u32 x.toNat) (hy : ev ρ b = .int k' (m : Int)) : PV P (.binOp .shl T a b T') ρ (.int .u32 (x <<< m).toNat) := pvu_shl (k := .u32) rfl hx hy
theorem Zkv {k' : IntKind} {m : Nat} (hx : ev ρ a = .int .u32 x.toNat) (hy : ev ρ b = .int k' (m : Int)) : PV P (.binOp .shr T a b T') ρ (.int .u32 (x >>> m).toNat) := pvu_shr (k := .u32) rfl hx hy
theorem Zkw (hx : ev ρ a = .int .u32 x.toNat) : PV P (.unOp .xor T a) ρ (.int .u32 (~~~ x).toNat) := pvu_not (k := .u32) rfl hx
theorem Zky (hx : ev ρ a = .int .u32 x.toNat) (hy : ev ρ b = .int .u32 y.toNat) : PV P (.binOp .eql T a b T') ρ (.bool (decide (x = y))) := pvu_eql (k := .u32) hx hy
theorem Zkz (hx : ev ρ a = .int .u32 x.toNat) (hy : ev ρ b = .int .u32 y.toNat) : PV P (.binOp .neq T a b T') ρ (.bool (decide (x ≠ y))) := pvu_neq (k := .u32) hx hy
theorem Zk6 {S D : Nat} {n : Int} [hs : TyInt P S .i64] [hd : TyInt P D .u32] (hx : ev ρ a = .int .i64 n) : PV P (.convert S D a) ρ (.int .u32 (BitVec.ofInt 32 n).toNat) := pvu_convI (k := .u32) rfl hx
theorem Zk8 {S D : Nat} [hs : TyInt P S .u32] [hd : TyInt P D .u8] (hx : ev ρ a = .int .u32 x.toNat) : PV P (.convert S D a) ρ (.int .u8 (x.setWidth 8).toNat) := pvu_conv (k := .u32) (k' := .u8) rfl hx
theorem Zlb {S D : Nat} [hs : TyInt P S .u32] [hd : TyInt P D .u64] (hx : ev ρ a = .int .u32 x.toNat) : PV P (.convert S D a) ρ (.int .u64 (x.setWidth 64).toNat) := pvu_conv (k := .u32) (k' := .u64) rfl hx
end
abbrev u32b (x : BitVec 32) : Value := .int .u32 x.toNat
section
variable {P : Program} {ρ : Env} {T T' : Nat} {a b : Operand} {x y : BitVec 64}
theorem Zlc (hx : ev ρ a = .int .u64 x.toNat) (hy : ev ρ b = .int .u64 y.toNat) : PV P (.binOp .add T a b T') ρ (.int .u64 (x + y).toNat) := pvu_add (k := .u64) rfl hx hy
theorem Zld (hx : ev ρ a = .int .u64 x.toNat) (hy : ev ρ b = .int .u64 y.toNat) : PV P (.binOp .sub T a b T') ρ (.int .u64 (x - y).toNat) := pvu_sub (k := .u64) rfl hx hy
theorem Zle (hx : ev ρ a = .int .u64 x.toNat) (hy : ev ρ b = .int .u64 y.toNat) : PV P (.binOp .mul T a b T') ρ (.int .u64 (x * y).toNat) := pvu_mul (k := .u64) rfl hx hy
theorem Zlf (hx : ev ρ a = .int .u64 x.toNat) (hy : ev ρ b = .int .u64 y.toNat) : PV P (.binOp .and T a b T') ρ (.int .u64 (x &&& y).toNat) := pvu_and (k := .u64) rfl hx hy
theorem Zlg (hx : ev ρ a = .int .u64 x.toNat) (hy : ev ρ b = .int .u64 y.toNat) : PV P (.binOp .or T a b T') ρ (.int .u64 (x ||| y).toNat) := pvu_or (k := .u64) rfl hx hy
theorem Zlh (hx : ev ρ a = .int .u64 x.toNat) (hy : ev ρ b = .int .u64 y.toNat) : PV P (.binOp .xor T a b T') ρ (.int .u64 (x ^^^ y).toNat) := pvu_xor (k := .u64) rfl hx hy
theorem Zli (hx : ev ρ a = .int .u64 x.toNat) (hy : ev ρ b = .int .u64 y.toNat) : PV P (.binOp .andNot T a b T') ρ (.int .u64 (x &&& ~~~ y).toNat) := pvu_andNot (k := .u64) rfl hx hy
theorem Zlj {k' : IntKind} {m : Nat} (hx : ev ρ a = .int .u64 x.toNat) (hy : ev ρ b = .int k' (m : Int)) : PV P (.binOp .shl T a b T') ρ (.int .u64 (x <<< m).toNat) := pvu_shl (k := .u64) rfl hx hy
theorem Zlk {k' : IntKind} {m : Nat} (hx : ev ρ a = .int .u64 x.toNat) (hy : ev ρ b = .int k' (m : Int)) : PV P (.binOp .shr T a b T') ρ (.int .u64 (x >>> m).toNat) := pvu_shr (k := .u64) rfl hx hy
theorem Zll (hx : ev ρ a = .int .u64 x.toNat) : PV P (.unOp .xor T a) ρ (.int .u64 (~~~ x).toNat) := pvu_not (k := .u64) rfl hx
theorem Zlm (hx : ev ρ a = .int .u64 x.toNat) : PV P (.unOp .neg T a) ρ (.int .u64 (- x).toNat) := pvu_neg (k := .u64) rfl hx
theorem Zln (hx : ev ρ a = .int .u64 x.toNat) (hy : ev ρ b = .int .u64 y.toNat) : PV P (.binOp .eql T a b T') ρ (.bool (decide (x = y))) := pvu_eql (k := .u64) hx hy
theorem Zlo (hx : ev ρ a = .int .u64 x.toNat) (hy : ev ρ b = .int .u64 y.toNat) : PV P (.binOp .neq T a b T') ρ (.bool (decide (x ≠ y))) := pvu_neq (k := .u64) hx hy
theorem Zlr (hx : ev ρ a = .int .u64 x.toNat) (hy : ev ρ b = .int .u64 y.toNat) : PV P (.binOp .gtr T a b T') ρ (.bool (decide (y.toNat < x.toNat))) := pvu_gtr (k := .u64) hx hy
theorem Zls (hx : ev ρ a = .int .u64 x.toNat) (hy : ev ρ b = .int .u64 y.toNat) : PV P (.binOp .geq T a b T') ρ (.bool (decide (y.toNat ≤ x.toNat))) := pvu_geq (k := .u64) hx hy
theorem Zlt (hx : ev ρ a = .int .u64 x.toNat) (hy : ev ρ b = .int .u64 y.toNat) (h0 : 0 < y.toNat := by first|omega|exact Nat.le_of_ble_eq_true rfl|(simp; done)|(simp; omega)|decide) : PV P (.binOp .quo T a b T') ρ (.int .u64 (x / y).toNat) := pvu_quo (k := .u64) rfl hx hy h0
theorem Zlu (hx : ev ρ a = .int .u64 x.toNat) (hy : ev ρ b = .int .u64 y.toNat) (h0 : 0 < y.toNat := by first|omega|exact Nat.le_of_ble_eq_true rfl|(simp; done)|(simp; omega)|decide) : PV P (.binOp .rem T a b T') ρ (.int .u64 (x % y).toNat) := pvu_rem (k := .u64) hx hy h0
theorem Zlv {S D : Nat} {n : Int} [hs : TyInt P S .i64] [hd : TyInt P D .u64] (hx : ev ρ a = .int .i64 n) : PV P (.convert S D a) ρ (.int .u64 (BitVec.ofInt 64 n).toNat) := pvu_convI (k := .u64) rfl hx
theorem Zlx {S D : Nat} [hs : TyInt P S .u64] [hd : TyInt P D .u8] (hx : ev ρ a = .int .u64 x.toNat) : PV P (.convert S D a) ρ (.int .u8 (x.setWidth 8).toNat) := pvu_conv (k := .u64) (k' := .u8) rfl hx
theorem Zlz {S D : Nat} [hs : TyInt P S .u64] [hd : TyInt P D .u32] (hx : ev ρ a = .int .u64 x.toNat) : PV P (.convert S D a) ρ (.int .u32 (x.setWidth 32).toNat) := pvu_conv (k := .u64) (k' := .u32) rfl hx
end
abbrev u64b (x : BitVec 64) : Value := .int .u64 x.toNat

section
variable {P : Program} {ρ : Env} {x y : Operand} {k : IntKind} {S E by' bb o l c n : Nat} {z : Value}
theorem Zl1 [hs : TySlice P S E] [hi : TyI P E 1 by' z] (hx : ev ρ x = .slice (some ⟨bb, o, none⟩) l c) (hy : ev ρ y = .int k (n : Int)) (h : n < l := by first|omega|exact Nat.le_of_ble_eq_true rfl|(simp; done)|(simp; omega)|decide) : PV P (.indexAddr S x y) ρ (.pointer (some ⟨bb, o + n, none⟩)) := by
  have := Zcg (P := P) (S := S) hx hy h
  simpa using this
theorem Zl2 {sz : Nat} [hs : TyArr P S l E] [hi : TyI P E sz by' z] (hx : ev ρ x = .pointer (some ⟨bb, o, none⟩)) (hy : ev ρ y = .int k (n : Int)) (h : n < l := by first|omega|exact Nat.le_of_ble_eq_true rfl|(simp; done)|(simp; omega)|decide) : PV P (.indexAddr S x y) ρ (.pointer (some ⟨bb, o + n * sz, none⟩)) := by
  have := Zch (P := P) (S := S) hx hy ⟨by omega, by omega⟩
  simpa using this
theorem Zl3 [hs : TyArr P S l E] [hi : TyI P E 1 by' z] (hx : ev ρ x = .pointer (some ⟨bb, o, none⟩)) (hy : ev ρ y = .int k (n : Int)) (h : n < l := by first|omega|exact Nat.le_of_ble_eq_true rfl|(simp; done)|(simp; omega)|decide) : PV P (.indexAddr S x y) ρ (.pointer (some ⟨bb, o + n, none⟩)) := by
  have := Zl2 (P := P) (S := S) hx hy h
  simpa using this
theorem Zl4 [hs : TySlice P S E] [hi : TyI P E 1 by' z] (hx : ev ρ x = .slice (some ⟨bb, 0, none⟩) l c) (hy : ev ρ y = .int k (n : Int)) (h : n < l := by first|omega|exact Nat.le_of_ble_eq_true rfl|(simp; done)|(simp; omega)|decide) : PV P (.indexAddr S x y) ρ (.pointer (some ⟨bb, n, none⟩)) := by
  have := Zl1 (P := P) (S := S) hx hy h
  rwa [Nat.zero_add] at this
theorem Zl5 [hs : TyArr P S l E] [hi : TyI P E 1 by' z] (hx : ev ρ x = .pointer (some ⟨bb, 0, none⟩)) (hy : ev ρ y = .int k (n : Int)) (h : n < l := by first|omega|exact Nat.le_of_ble_eq_true rfl|(simp; done)|(simp; omega)|decide) : PV P (.indexAddr S x y) ρ (.pointer (some ⟨bb, n, none⟩)) := by
  have := Zl3 (P := P) (S := S) hx hy h
  rwa [Nat.zero_add] at this
theorem Zl6 {sz : Nat} [hs : TySlice P S E] [hi : TyI P E sz by' z] (hx : ev ρ x = .slice (some ⟨bb, 0, none⟩) l c) (hy : ev ρ y = .int k (n : Int)) (h : n < l := by first|omega|exact Nat.le_of_ble_eq_true rfl|(simp; done)|(simp; omega)|decide) : PV P (.indexAddr S x y) ρ (.pointer (some ⟨bb, n * sz, none⟩)) := by
  have := Zcg (P := P) (S := S) hx hy h
  rwa [Nat.zero_add] at this
theorem Zl7 {sz : Nat} [hs : TyArr P S l E] [hi : TyI P E sz by' z] (hx : ev ρ x = .pointer (some ⟨bb, 0, none⟩)) (hy : ev ρ y = .int k (n : Int)) (h : n < l := by first|omega|exact Nat.le_of_ble_eq_true rfl|(simp; done)|(simp; omega)|decide) : PV P (.indexAddr S x y) ρ (.pointer (some ⟨bb, n * sz, none⟩)) := by
  have := Zl2 (P := P) (S := S) hx hy h
  rwa [Nat.zero_add] at this
theorem Zl8 {S i off F sz : Nat} [hf : Fld P S i off F] [hi : TyI P F sz by' z] (hx : ev ρ x = .pointer (some ⟨bb, 0, none⟩)) (h0 : sz ≠ 0 := by first|omega|exact Nat.le_of_ble_eq_true rfl|(simp; done)|(simp; omega)|decide) : PV P (.fieldAddr S x i) ρ (.pointer (some ⟨bb, off, none⟩)) := by
  have := Zce (P := P) (S := S) (i := i) (F := F) (off := off) hx h0
  rwa [Nat.zero_add] at this
theorem Zl9 {A m : Nat} [hs : TyArr P A m E] (hx : ev ρ x = .slice (some ⟨bb, o, none⟩) l c) (h : m ≤ l := by first|omega|exact Nat.le_of_ble_eq_true rfl|(simp; done)|(simp; omega)|decide) : PV P (.sliceToArrayPointer A x) ρ (.pointer (some ⟨bb, o, none⟩)) := by
  intro oo w ho; unfold execOp; rw [ho]; refine op_run_value ?_; rw [hx]
  unfold Instr.arrayAt
  rw [run_bind P _ _ w w _ (run_under hs.h)]
  simp only []
  rw [if_neg (by omega)]
  rfl
end
section
variable {P : Program} {ρ : Env} {T T' : Nat} {x y : Operand} {a b : Nat}
theorem Zma (hx : ev ρ x = .int .i64 (a : Int)) (hy : ev ρ y = .int .i64 (b : Int)) (h : a + b ≤ 9223372036854775807 := by first|omega|exact Nat.le_of_ble_eq_true rfl|(simp; done)|(simp; omega)|decide) : PV P (.binOp .add T x y T') ρ (.int .i64 ((a + b : Nat) : Int)) := by
  have := Zbg (P := P) (T := T) (T' := T') hx hy ⟨by omega, by omega⟩
  rwa [← Int.natCast_add] at this
theorem Zmb (hx : ev ρ x = .int .i64 (a : Int)) (hy : ev ρ y = .int .i64 (b : Int)) (h : b ≤ a := by first|omega|exact Nat.le_of_ble_eq_true rfl|(simp; done)|(simp; omega)|decide) (ha : a ≤ 9223372036854775807 := by first|omega|exact Nat.le_of_ble_eq_true rfl|(simp; done)|(simp; omega)|decide) : PV P (.binOp .sub T x y T') ρ (.int .i64 ((a - b : Nat) : Int)) := by
  have := Zbh (P := P) (T := T) (T' := T') hx hy ⟨by omega, by omega⟩
  rwa [← Int.natCast_sub h] at this
theorem Zmc (hx : ev ρ x = .int .i64 (a : Int)) (hy : ev ρ y = .int .i64 (b : Int)) (h : a * b ≤ 9223372036854775807 := by first|omega|exact Nat.le_of_ble_eq_true rfl|(simp; done)|(simp; omega)|decide) : PV P (.binOp .mul T x y T') ρ (.int .i64 ((a * b : Nat) : Int)) := by
  have e : ((a : Int) * b) = ((a * b : Nat) : Int) := (Int.natCast_mul a b).symm
  have := Zbi (P := P) (T := T) (T' := T') hx hy (by rw [e]; exact ⟨by omega, by omega⟩)
  rwa [e] at this
theorem Zmd (hx : ev ρ x = .int .i64 (a : Int)) (hy : ev ρ y = .int .i64 (b : Int)) (h : 0 < b := by first|omega|exact Nat.le_of_ble_eq_true rfl|(simp; done)|(simp; omega)|decide) (ha : a ≤ 9223372036854775807 := by first|omega|exact Nat.le_of_ble_eq_true rfl|(simp; done)|(simp; omega)|decide) : PV P (.binOp .quo T x y T') ρ (.int .i64 ((a / b : Nat) : Int)) := by
  have := Zbj (P := P) (T := T) (T' := T') hx hy ⟨by omega, by omega, by omega⟩
  rwa [show ((a : Int) / b) = ((a / b : Nat) : Int) from by push_cast; rfl] at this
theorem Zme (hx : ev ρ x = .int .i64 (a : Int)) (hy : ev ρ y = .int .i64 (b : Int)) (h : 0 < b := by first|omega|exact Nat.le_of_ble_eq_true rfl|(simp; done)|(simp; omega)|decide) : PV P (.binOp .rem T x y T') ρ (.int .i64 ((a % b : Nat) : Int)) := by
  have := Zbl (P := P) (T := T) (T' := T') hx hy ⟨by omega, by omega⟩
  rwa [show ((a : Int) % b) = ((a % b : Nat) : Int) from by push_cast; rfl] at this
theorem Zmf {k : IntKind} (hx : ev ρ x = .int k (a : Int)) (hy : ev ρ y = .int k (b : Int)) : PV P (.binOp .lss T x y T') ρ (.bool (decide (a < b))) := by
  have := Zbn (P := P) (T := T) (T' := T') hx hy
  rwa [show decide ((a : Int) < b) = decide (a < b) from decide_eq_decide.2 (by omega)] at this
theorem Zmg {k : IntKind} (hx : ev ρ x = .int k (a : Int)) (hy : ev ρ y = .int k (b : Int)) : PV P (.binOp .leq T x y T') ρ (.bool (decide (a ≤ b))) := by
  have := Zbo (P := P) (T := T) (T' := T') hx hy
  rwa [show decide ((a : Int) ≤ b) = decide (a ≤ b) from decide_eq_decide.2 (by omega)] at this
theorem Zmh {k : IntKind} (hx : ev ρ x = .int k (a : Int)) (hy : ev ρ y = .int k (b : Int)) : PV P (.binOp .gtr T x y T') ρ (.bool (decide (b < a))) := by
  have := Zbp (P := P) (T := T) (T' := T') hx hy
  rwa [show decide ((b : Int) < a) = decide (b < a) from decide_eq_decide.2 (by omega)] at this
theorem Zmi {k : IntKind} (hx : ev ρ x = .int k (a : Int)) (hy : ev ρ y = .int k (b : Int)) : PV P (.binOp .geq T x y T') ρ (.bool (decide (b ≤ a))) := by
  have := Zbq (P := P) (T := T) (T' := T') hx hy
  rwa [show decide ((b : Int) ≤ a) = decide (b ≤ a) from decide_eq_decide.2 (by omega)] at this
theorem Zmj {k : IntKind} (hx : ev ρ x = .int k (a : Int)) (hy : ev ρ y = .int k (b : Int)) : PV P (.binOp .eql T x y T') ρ (.bool (decide (a = b))) := by
  have := Zbr (P := P) (T := T) (T' := T') hx hy
  rwa [show decide ((a : Int) = b) = decide (a = b) from decide_eq_decide.2 (by omega)] at this
theorem Zmk {k : IntKind} (hx : ev ρ x = .int k (a : Int)) (hy : ev ρ y = .int k (b : Int)) : PV P (.binOp .neq T x y T') ρ (.bool (decide (a ≠ b))) := by
  have := Zbs (P := P) (T := T) (T' := T') hx hy
  rwa [show decide ((a : Int) ≠ b) = decide (a ≠ b) from decide_eq_decide.2 (by omega)] at this
theorem Zmm {t : Array Value} (h : ev ρ x = .tuple t) : PV P (.move x) ρ (.tuple t) := Zar h
theorem Zmn {t : Option Nat} (h : ev ρ x = .map t) : PV P (.move x) ρ (.map t) := Zar h
theorem Zmo {t : ByteArray} (h : ev ρ x = .string t) : PV P (.move x) ρ (.string t) := Zar h
theorem Zmp {t : Nat} {v : Value} (h : ev ρ x = .iface t v) : PV P (.move x) ρ (.iface t v) := Zar h
theorem Zmq {t : Option Nat} (h : ev ρ x = .map t) : PV P (.assign x) ρ (.map t) := Zas h
theorem Zmr {t : ByteArray} (h : ev ρ x = .string t) : PV P (.assign x) ρ (.string t) := Zas h
theorem Zms {t : Nat} {v : Value} (h : ev ρ x = .iface t v) : PV P (.assign x) ρ (.iface t v) := Zas h
theorem Zmt {t : Array Value} (h : ev ρ x = .tuple t) : PV P (.assign x) ρ (.tuple t) := Zas h
theorem Zmu {f : Fn} {a b : Array Value} (h : ev ρ x = .func f a b) : PV P (.assign x) ρ (.func f a b) := Zas h
theorem Zmv {S E sz by' bb o n : Nat} {z : Value} {lo hi : Option Operand} {l h : Nat} [hs : TyArr P S n E] [hi' : TyI P E sz by' z] (hx : ev ρ x = .pointer (some ⟨bb, o, none⟩))
    (hl : optB ρ 0 lo = some (l : Int)) (hh : optB ρ n hi = some (h : Int)) (hle : l ≤ h := by first|omega|exact Nat.le_of_ble_eq_true rfl|(simp; done)|(simp; omega)|decide) (hc : h ≤ n := by first|omega|exact Nat.le_of_ble_eq_true rfl|(simp; done)|(simp; omega)|decide) (hn : l < n := by first|omega|exact Nat.le_of_ble_eq_true rfl|(simp; done)|(simp; omega)|decide) : PV P (.slice S x lo hi none) ρ (.slice (some ⟨bb, o + l * sz, none⟩) (h - l) (n - l)) := by
  have := Zck (P := P) (S := S) (bb := bb) (o := o) hx hl hh ⟨by omega, by omega⟩ (by omega)
  simp only [Int.toNat_natCast, cutOff, if_neg (show ¬ n = l by omega)] at this
  exact this
theorem Zmw {S E sz by' bb o n c : Nat} {z : Value} {lo hi : Option Operand} {l h : Nat} [hs : TySlice P S E] [hi' : TyI P E sz by' z] (hx : ev ρ x = .slice (some ⟨bb, o, none⟩) n c)
    (hl : optB ρ 0 lo = some (l : Int)) (hh : optB ρ n hi = some (h : Int)) (hle : l ≤ h := by first|omega|exact Nat.le_of_ble_eq_true rfl|(simp; done)|(simp; omega)|decide) (hc : h ≤ c := by first|omega|exact Nat.le_of_ble_eq_true rfl|(simp; done)|(simp; omega)|decide) (hn : l < c := by first|omega|exact Nat.le_of_ble_eq_true rfl|(simp; done)|(simp; omega)|decide) : PV P (.slice S x lo hi none) ρ (.slice (some ⟨bb, o + l * sz, none⟩) (h - l) (c - l)) := by
  have := Zci (P := P) (S := S) (bb := bb) (o := o) hx hl hh ⟨by omega, by omega⟩ (by omega)
  simp only [Int.toNat_natCast, cutOff, if_neg (show ¬ c = l by omega)] at this
  exact this
theorem Zmx {S E by' bb o n : Nat} {z : Value} {lo hi : Option Operand} {l h : Nat} [hs : TyArr P S n E] [hi' : TyI P E 1 by' z] (hx : ev ρ x = .pointer (some ⟨bb, o, none⟩))
    (hl : optB ρ 0 lo = some (l : Int)) (hh : optB ρ n hi = some (h : Int)) (hle : l ≤ h := by first|omega|exact Nat.le_of_ble_eq_true rfl|(simp; done)|(simp; omega)|decide) (hc : h ≤ n := by first|omega|exact Nat.le_of_ble_eq_true rfl|(simp; done)|(simp; omega)|decide) (hn : l < n := by first|omega|exact Nat.le_of_ble_eq_true rfl|(simp; done)|(simp; omega)|decide) : PV P (.slice S x lo hi none) ρ (.slice (some ⟨bb, o + l, none⟩) (h - l) (n - l)) := by
  have := Zmv (P := P) (S := S) hx hl hh hle hc hn
  rwa [Nat.mul_one] at this
theorem Zmy {S E by' bb o n : Nat} {z : Value} {hi : Option Operand} {h : Nat} [hs : TyArr P S n E] [hi' : TyI P E 1 by' z] (hx : ev ρ x = .pointer (some ⟨bb, o, none⟩))
    (hh : optB ρ n hi = some (h : Int)) (hc : h ≤ n := by first|omega|exact Nat.le_of_ble_eq_true rfl|(simp; done)|(simp; omega)|decide) (hn : 0 < n := by first|omega|exact Nat.le_of_ble_eq_true rfl|(simp; done)|(simp; omega)|decide) : PV P (.slice S x none hi none) ρ (.slice (some ⟨bb, o, none⟩) h n) := by
  have := Zmx (P := P) (S := S) (lo := none) (l := 0) hx rfl hh (by omega) hc hn
  simpa using this
theorem Zmz {S E by' bb o n c : Nat} {z : Value} {lo hi : Option Operand} {l h : Nat} [hs : TySlice P S E] [hi' : TyI P E 1 by' z] (hx : ev ρ x = .slice (some ⟨bb, o, none⟩) n c)
    (hl : optB ρ 0 lo = some (l : Int)) (hh : optB ρ n hi = some (h : Int)) (hle : l ≤ h := by first|omega|exact Nat.le_of_ble_eq_true rfl|(simp; done)|(simp; omega)|decide) (hc : h ≤ c := by first|omega|exact Nat.le_of_ble_eq_true rfl|(simp; done)|(simp; omega)|decide) (hn : l < c := by first|omega|exact Nat.le_of_ble_eq_true rfl|(simp; done)|(simp; omega)|decide) : PV P (.slice S x lo hi none) ρ (.slice (some ⟨bb, o + l, none⟩) (h - l) (c - l)) := by
  have := Zmw (P := P) (S := S) hx hl hh hle hc hn
  rwa [Nat.mul_one] at this
theorem Zm0 {S E sz by' bb o n c : Nat} {z : Value} {hi : Option Operand} {h : Nat} [hs : TySlice P S E] [hi' : TyI P E sz by' z] (hx : ev ρ x = .slice (some ⟨bb, o, none⟩) n c)
    (hh : optB ρ n hi = some (h : Int)) (hc : h ≤ c := by first|omega|exact Nat.le_of_ble_eq_true rfl|(simp; done)|(simp; omega)|decide) : PV P (.slice S x none hi none) ρ (.slice (some ⟨bb, o, none⟩) h c) := by
  have := Zci (P := P) (S := S) (bb := bb) (o := o) (lo := none) (l := 0) hx rfl hh ⟨by omega, by omega⟩ (by omega)
  have e : cutOff o (0 : Int).toNat c sz = o := by simp [cutOff]
  rw [e] at this
  simpa using this
theorem Zm1 {S E sz by' n c : Nat} {a : Option Addr} {z : Value} {lo hi : Option Operand} {l h : Nat} [hs : TySlice P S E] [hi' : TyI P E sz by' z] (hx : ev ρ x = .slice a n c)
    (hl : optB ρ 0 lo = some (l : Int)) (hh : optB ρ n hi = some (h : Int)) (hle : l ≤ h) (hc : h ≤ c) : PV P (.slice S x lo hi none) ρ (.slice (if c = l then a else a.map (·.add (l * sz))) (h - l) (c - l)) := by
  intro oo w ho; unfold execOp; rw [ho]; refine op_run_value ?_; rw [hx]
  unfold Instr.sliceAt
  rw [run_bind P _ _ w w _ (run_under hs.h)]
  simp only []
  unfold Instr.slice
  rw [run_bind P _ _ w w _ (run_under hs.h)]
  simp only [Option.map_none]
  rw [run_bind P _ _ w w _ (run_bounds hl hh ⟨by omega, by omega⟩ (by omega)), run_bind P _ _ w w _ (run_size hi')]
  show (Result.ok (Value.slice _ _ _) w : Result Value) = _
  rw [Int.toNat_natCast, Int.toNat_natCast]
end
theorem Rd.cut {M : List Asrt} {a : Option Addr} {n c l : Nat} {xs : List Value} (h : Rd M 1 (.slice a n c) n xs) (hl : l ≤ n) (hc : n ≤ c) : Rd M 1 (.slice (if c = l then a else a.map (·.add (l * 1))) (n - l) (c - l)) (n - l) (xs.drop l) := by
  intro w0 F w H
  obtain ⟨h1, h2⟩ := h w0 F w H
  refine ⟨by simp [h1], ?_⟩
  by_cases hn : n = l
  · exact .inl ⟨_, _, rfl, by omega⟩
  · rcases h2 with ⟨a, k, _, h0⟩|⟨b, o, k, cc, E, fr, hv, hb, hle, hx⟩
    · omega
    · simp only [Value.slice.injEq] at hv
      obtain ⟨rfl, _, rfl⟩ := hv
      rw [if_neg (by omega)]
      refine .inr ⟨b, o + l, c - l, cc, E, fr, ?_, hb, by omega, ?_⟩
      · simp [Option.map, addr_add]
      · rw [← hx]
        simp only [Array.toList_extract, List.extract_eq_take_drop, List.drop_take, List.drop_drop]
        congr 1
        omega
theorem Zm2 {P : Program} {ρ : Env} {T : Nat} {x : Operand} {k kk : IntKind} {n : Int} [hs : TyInt P T kk] (hx : ev ρ x = .int k n) : PV P (.makeInterface T x) ρ (.iface T (.int k n)) := by
  intro oo w ho; unfold execOp; rw [ho]; refine op_run_value ?_; rw [hx]
  unfold Instr.makeInterface
  rw [run_bind P _ _ w w _ (run_under hs.h)]; rfl
theorem int_eq {k : IntKind} {a b : Int} (h : a = b) : Value.int k a = .int k b := by rw [h]
section
variable {P : Program} {w0 : World} {ops : Array Oper} {dst : Option Nat} {ty T E : TypeId} {pos : String} {after : Array Edge} {rest : List Oper} {ρ : Env} {K : XK} {M : List Asrt} {x y : Operand}
theorem Zm3 {α : Type} {by' : Nat} {z : Value} {f : α → Value} {a : α} {len cap : Nat} [hs : TySlice P T E] [hi : TyI P E 1 by' z] (hl : ev ρ x = .int .i64 len) (hc : ev ρ y = .int .i64 cap) (hz : z.cells = #[f a]) (hle : len ≤ cap) (hcap : cap ≤ 9223372036854775807) (hb : cap * by' ≤ 281474976710656)
    (k : ∀ b, xOps P w0 ops rest (put ρ dst (.slice (some ⟨b, 0, none⟩) len cap)) (cl b ((List.replicate cap a).map f).toArray E :: M) K) :
    xOps P w0 ops (⟨dst, .makeSlice T x y, ty, pos, after, none⟩ :: rest) ρ M K := by
  refine Zh6 hl hc hle hcap hb (by omega) ?_
  intro b
  have e : (List.replicate cap z.cells.toList).flatten = (List.replicate cap a).map f := by
    rw [hz]; show (List.replicate cap [f a]).flatten = _
    rw [zeros1]; simp
  rw [e]; exact k b
end
theorem getL {α : Type} {f : α → Value} {l : List α} {i : Nat} (h : i < l.length) : ((l.map f).toArray)[i]? = some (f l[i]) := by simp [h]
theorem getM {α : Type} {f : α → Value} {l : List α} {i : Nat} (h : i < l.length) : (l.map f)[i]? = some (f l[i]) := by simp [h]
theorem setL {α : Type} {f : α → Value} {l : List α} {i : Nat} {x : α} : ((l.map f).toArray).setIfInBounds i (f x) = ((l.set i x).map f).toArray := by simp
theorem szL {α : Type} {f : α → Value} {l : List α} : ((l.map f).toArray).size = l.length := by simp
theorem oneL_u8 (l : List (BitVec 8)) : ((l.map u8b).toArray).toList.all oneC = true := by simp [oneC]
theorem oneM_u8 (l : List (BitVec 8)) : (l.map u8b).all oneC = true := by simp [oneC]
end Go.Sl
namespace Go.Sl
open Go
abbrev Byte := BitVec 8
class TyBA (P : Program) (T : Nat) (n : outParam Nat) : Prop where
  ex : ∃ E, P.underlying T = some (.array n E) ∧ P.underlying E = some (.int .u8) ∧ P.cellsOf E = 1
  ct : P.cellsOf T = n
  key : P.keyTypeAt 4 T = true
  g : P.eqGuardType P.depth T = false
theorem byte_wf (b : Byte) : (Lit.int .u8 (b.toNat : Int)).wf = true := by
  have := b.isLt
  simp only [Lit.wf, Bool.and_eq_true, decide_eq_true_eq]
  have e1 : IntKind.u8.min = 0 := by decide
  have e2 : IntKind.u8.max = 255 := by decide
  omega
theorem ba_inj {a b : List Byte} : a = b ↔ (a.map fun b => Lit.int .u8 (b.toNat : Int)) = (b.map fun b => Lit.int .u8 (b.toNat : Int)) := by
  constructor
  · rintro rfl; rfl
  · intro h
    refine List.map_inj_right ?_ |>.1 h
    intro x y hxy
    simp only [Lit.int.injEq, true_and] at hxy
    exact BitVec.eq_of_toNat_eq (by omega)
section
variable {P : Program} {ρ : Env} {x y : Operand} {T T' n : Nat}
end
structure Bs (M : List Asrt) (v : Value) (l : List Byte) : Prop where
  rd : Rd M 1 v l.length (l.map u8b)
  sh : ∀ w0 F w, St w0 w (F :: M) → ∃ a c, v = .slice a l.length c ∧ l.length ≤ c ∧ c ≤ 9223372036854775807
theorem Bs.imp {M N : List Asrt} {v : Value} {l : List Byte} (h : Bs N v l) (hi : Imp M N) : Bs M v l := ⟨h.rd.imp hi, fun w0 F w H => h.sh w0 F w (H.enx hi)⟩
theorem own_shape {E size n : Nat} {v : Value} {xs : List Value} {w0 w : World} {L : List Asrt} (H : St w0 w (own E size v n xs :: L)) : ∃ a c, v = .slice a n c ∧ n ≤ c ∧ c ≤ 9223372036854775807 := by
  rcases H.own_get with ⟨rfl, rfl, rfl, _⟩|⟨g, cap, cur, rfl, h2, h3, h4, h5, h6, H⟩
  · exact ⟨none, 0, rfl, by omega, by omega⟩
  · exact ⟨_, cap, rfl, h2, h3⟩
theorem Bs.own {M M' : List Asrt} {E : Nat} {v : Value} {l : List Byte} (hm : Has M (own E 1 v l.length (l.map u8b)) M') : Bs M v l :=
  ⟨Rd.own hm, fun w0 F w H => own_shape (H.pick (.there hm))⟩
theorem Bs.old {M M' : List Asrt} {W : World} {v : Value} {l : List Byte} (hm : Has M (old W) M') (h : SlW W 1 v l.length (l.map u8b)) (hs : ∃ a c, v = .slice a l.length c ∧ l.length ≤ c ∧ c ≤ 9223372036854775807) : Bs M v l :=
  ⟨Rd.old hm h, fun _ _ _ _ => hs⟩
theorem Bs.cl {M M' : List Asrt} {b o c E : Nat} {cc : Array Value} {l : List Byte} (hm : Has M (cl b cc E) M') (hle : o + l.length ≤ cc.size) (h : (cc.extract o (o + l.length)).toList = l.map u8b) (hc : l.length ≤ c) (hcm : c ≤ 9223372036854775807) :
    Bs M (.slice (some ⟨b, o, none⟩) l.length c) l :=
  ⟨Rd.cl hm (by simp) (by omega) (by rw [Nat.mul_one]; exact h), fun _ _ _ _ => ⟨_, _, rfl, hc, hcm⟩⟩
theorem Bs.nil {M : List Asrt} : Bs M (.slice none 0 0) [] := ⟨Rd.nil, fun _ _ _ _ => ⟨none, 0, rfl, by simp, by omega⟩⟩
theorem Bs.some {M : List Asrt} {a : Option Addr} {n c : Nat} {l : List Byte} {w0 w : World} {F : Asrt} (h : Bs M (.slice a n c) l) (hn : 0 < l.length) (H : St w0 w (F :: M)) : ∃ b o, a = some ⟨b, o, none⟩ := by
  obtain ⟨a', c', hv, _, _⟩ := h.sh _ _ _ H
  simp only [Value.slice.injEq] at hv
  obtain ⟨rfl, rfl, rfl⟩ := hv
  exact h.rd.someAt hn H
structure Rs (M : List Asrt) (v : Value) (ps : List (Value × List Byte)) : Prop where
  rd : Rd M 1 v ps.length (ps.map (·.1))
  sh : ∀ w0 F w, St w0 w (F :: M) → ∃ a c, v = .slice a ps.length c ∧ ps.length ≤ c ∧ c ≤ 9223372036854775807
  el : ∀ x ∈ ps, Bs M x.1 x.2
theorem Rs.imp {M N : List Asrt} {v : Value} {ps : List (Value × List Byte)} (h : Rs N v ps) (hi : Imp M N) : Rs M v ps := ⟨h.rd.imp hi, fun w0 F w H => h.sh w0 F w (H.enx hi), fun x hx => (h.el x hx).imp hi⟩
theorem Rs.own {M M' : List Asrt} {E : Nat} {v : Value} {ps : List (Value × List Byte)} (hm : Has M (Sl.own E 1 v ps.length (ps.map (·.1))) M') (h : ∀ x ∈ ps, Bs M x.1 x.2) : Rs M v ps :=
  ⟨Rd.own hm, fun w0 F w H => own_shape (H.pick (.there hm)), h⟩
theorem Imp.own_mk {E size n cap g : Nat} {cur : Array Value} {xs : List Value} {M : List Asrt} (h1 : n ≤ cap) (h2 : cap ≤ 9223372036854775807) (h3 : cur.size = cap * size) (h4 : cur.toList.take (n * size) = xs) :
    Imp (Sl.cl g cur E :: M) (Sl.own E size (.slice (some ⟨g, 0, none⟩) n cap) n xs :: M) :=
  Imp.head fun h hg => ⟨by rw [← h4, List.length_take, Array.length_toList, h3]; exact Nat.min_eq_left (Nat.mul_le_mul_right _ h1), .inr ⟨g, cap, cur, rfl, hg, h1, h2, h3, h4⟩⟩
theorem Imp.own_nil {E size : Nat} {M : List Asrt} : Imp M (Sl.own E size (.slice none 0 0) 0 [] :: M) :=
  fun h hs => ⟨fun _ => none, h, ⟨by simp, .inl ⟨rfl, rfl⟩⟩, hs, Frag.none_disj _, Frag.none_sub _, Frag.sub_refl _⟩
theorem own_some {E n c : Nat} {a : Option Addr} {xs : List Value} {w0 w : World} {F : Asrt} {M M' : List Asrt} (hm : Has M (Sl.own E 1 (.slice a n c) n xs) M') (hn : 0 < n) (H : St w0 w (F :: M)) : ∃ g, a = some ⟨g, 0, none⟩ := by
  rcases (H.pick (.there hm)).own_get with ⟨hv, rfl, _⟩|⟨g, cap, cur, hv, _⟩
  · omega
  · simp only [Value.slice.injEq] at hv
    exact ⟨g, hv.1⟩
def star {α : Type} (A : α → Asrt) (l : List α) : Asrt := all (l.map A)
theorem star_nil {α : Type} {A : α → Asrt} {M : List Asrt} : Imp M (star A [] :: M) := by
  have := Imp.app (L := []) (M := M)
  exact this
theorem star_cons {α : Type} {A : α → Asrt} {x : α} {l : List α} {M : List Asrt} : Imp (A x :: star A l :: M) (star A (x :: l) :: M) := by
  have h : Imp (A x :: star A l :: M) (A x :: (l.map A ++ M)) := Imp.cons Imp.unapp
  exact h.trans (Imp.app (L := A x :: l.map A))
theorem star_uncons {α : Type} {A : α → Asrt} {x : α} {l : List α} {M : List Asrt} : Imp (star A (x :: l) :: M) (A x :: star A l :: M) := by
  have h : Imp (star A (x :: l) :: M) (A x :: (l.map A ++ M)) := Imp.unapp (L := A x :: l.map A)
  exact h.trans (Imp.cons Imp.app)
theorem star_app {α : Type} {A : α → Asrt} {l l2 : List α} {M : List Asrt} : Imp (star A l :: star A l2 :: M) (star A (l ++ l2) :: M) := by
  induction l with
  | nil => exact Imp.tail
  | cons x l ih =>
    refine (star_uncons (M := star A l2 :: M)).trans ?_
    exact (Imp.cons ih).trans star_cons
theorem star_unapp {α : Type} {A : α → Asrt} {l l2 : List α} {M : List Asrt} : Imp (star A (l ++ l2) :: M) (star A l :: star A l2 :: M) := by
  induction l with
  | nil => exact star_nil
  | cons x l ih =>
    refine (star_uncons (M := M)).trans ?_
    exact (Imp.cons ih).trans (star_cons (M := star A l2 :: M))
theorem star_snoc {α : Type} {A : α → Asrt} {x : α} {l : List α} {M : List Asrt} : Imp (A x :: star A l :: M) (star A (l ++ [x]) :: M) := by
  have h1 : Imp (A x :: star A l :: M) (star A [x] :: star A l :: M) := by
    have := star_cons (A := A) (x := x) (l := []) (M := star A l :: M)
    exact (Imp.cons star_nil).trans this
  exact h1.trans (Imp.swap.trans star_app)
theorem star_at {α : Type} {A : α → Asrt} {l : List α} {i : Nat} (h : i < l.length) {M : List Asrt} : Imp (star A l :: M) (A l[i] :: star A (l.eraseIdx i) :: M) := by
  have e : l = l.take i ++ l[i] :: l.drop (i + 1) := by rw [← List.drop_eq_getElem_cons h, List.take_append_drop]
  have e2 : l.eraseIdx i = l.take i ++ l.drop (i + 1) := List.eraseIdx_eq_take_drop_succ ..
  have h1 : Imp (star A l :: M) (star A (l.take i) :: star A (l[i] :: l.drop (i + 1)) :: M) := by
    have := star_unapp (A := A) (l := l.take i) (l2 := l[i] :: l.drop (i + 1)) (M := M)
    rwa [← e] at this
  rw [e2]
  refine h1.trans ((Imp.cons star_uncons).trans ?_)
  exact Imp.swap.trans (Imp.cons star_app)
theorem star_back {α : Type} {A : α → Asrt} {l : List α} {i : Nat} (h : i < l.length) (y : α) {M : List Asrt} : Imp (A y :: star A (l.eraseIdx i) :: M) (star A (l.set i y) :: M) := by
  have e2 : l.eraseIdx i = l.take i ++ l.drop (i + 1) := List.eraseIdx_eq_take_drop_succ ..
  rw [e2, List.set_eq_take_append_cons_drop, if_pos h]
  refine (Imp.cons star_unapp).trans ?_
  refine Imp.swap.trans ?_
  exact (Imp.cons star_cons).trans star_app
theorem star_mem {α : Type} {A : α → Asrt} {l : List α} {x : α} (h : x ∈ l) {M : List Asrt} : ∃ R, Imp (star A l :: M) (A x :: R) := by
  obtain ⟨i, hi, rfl⟩ := List.getElem_of_mem h
  exact ⟨_, star_at hi⟩
theorem star_has {α : Type} {A : α → Asrt} {l : List α} {x : α} (h : x ∈ l) {M M' : List Asrt} (hm : Has M (star A l) M') : ∃ R, Imp M (A x :: R) := by
  obtain ⟨R, hR⟩ := star_mem (A := A) h (M := M')
  exact ⟨R, (Imp.has hm).trans hR⟩
class NeB (a b : Nat) : Prop where h : Nat.beq a b = false
instance NeB.l {n : Nat} : NeB (n + 1) 0 := ⟨rfl⟩
instance NeB.r {n : Nat} : NeB 0 (n + 1) := ⟨rfl⟩
instance NeB.s {n m : Nat} [i : NeB n m] : NeB (n + 1) (m + 1) := ⟨i.h⟩
class Ct (A : Prop) (B : outParam Prop) : Prop where o : B → A
section
variable {P : Program} {w0 : World} {x y c : Code} {ρ : Env} {M : List Asrt} {Q : XQ} {k : XK} {id id' : Nat} {B : Prop}
instance (priority := low) Ct.iz {A : Prop} : Ct A A := ⟨fun h => h⟩
instance Ct.ja [i : Ct (xC P w0 x ρ M (xthen (fun ρ' M' => xC P w0 y ρ' M' Q) Q)) B] : Ct (xC P w0 (.seq x y) ρ M Q) B := ⟨fun h => zA (i.o h)⟩
instance Ct.jb [i : Ct (Q .normal ρ M) B] : Ct (xC P w0 .skip ρ M Q) B := ⟨fun h => zB (i.o h)⟩
instance Ct.jc [i : Ct (xC P w0 c ρ M (xblk id Q)) B] : Ct (xC P w0 (.block id c) ρ M Q) B := ⟨fun h => zC (i.o h)⟩
instance Ct.jd [i : Ct (Q .normal ρ M) B] : Ct (xC P w0 (.label id) ρ M Q) B := ⟨fun h => zD (i.o h)⟩
instance Ct.je [i : Ct (Q (.exit id) ρ M) B] : Ct (xC P w0 (.exit id) ρ M Q) B := ⟨fun h => zE (i.o h)⟩
instance Ct.jf [i : Ct (Q .ret ρ M) B] : Ct (xC P w0 .ret ρ M Q) B := ⟨fun h => zF (i.o h)⟩
instance Ct.jg [i : Ct (k ρ M) B] : Ct (xthen k Q .normal ρ M) B := ⟨fun h => zG (i.o h)⟩
instance Ct.jh [i : Ct (Q (.exit id) ρ M) B] : Ct (xthen k Q (.exit id) ρ M) B := ⟨fun h => zH (i.o h)⟩
instance Ct.ji [i : Ct (Q .ret ρ M) B] : Ct (xthen k Q .ret ρ M) B := ⟨fun h => zI (i.o h)⟩
instance Ct.jj [i : Ct (Q .normal ρ M) B] : Ct (xblk id Q .normal ρ M) B := ⟨fun h => zJ (i.o h)⟩
instance Ct.jk [i : Ct (Q .normal ρ M) B] : Ct (xblk id Q (.exit id) ρ M) B := ⟨fun h => zK (i.o h)⟩
instance Ct.jl [i : Ct (Q .ret ρ M) B] : Ct (xblk id Q .ret ρ M) B := ⟨fun h => zL (i.o h)⟩
instance (priority := 900) Ct.im [j : NeB id' id] [i : Ct (Q (.exit id') ρ M) B] : Ct (xblk id Q (.exit id') ρ M) B := ⟨fun h => zM j.h (i.o h)⟩
instance Ct.jv [i : Ct (Q .normal ρ M) B] : Ct (xng Q .normal ρ M) B := ⟨fun h => Zng (i.o h)⟩
instance Ct.jx [i : Ct (Q .ret ρ M) B] : Ct (xng Q .ret ρ M) B := ⟨fun h => Zni (i.o h)⟩
section
variable {S : Type} {I : S → Prop} {Mf : S → List Asrt} {U : S → List (Nat × Value)} {μ : S → Nat} {m : Nat}
instance Ct.jq [i : Ct (Q (.exit id) ρ M) B] : Ct (xloop I Mf U μ m Q (.exit id) ρ M) B := ⟨fun h => zP (i.o h)⟩
instance Ct.jr [i : Ct (Q .ret ρ M) B] : Ct (xloop I Mf U μ m Q .ret ρ M) B := ⟨fun h => zQ (i.o h)⟩
end
end
theorem qH {L L' : List Asrt} {A : Asrt} (h : Has L A L' := by repeat constructor) : Has L A L' := h
theorem qR {L L' : List Asrt} {A B : Asrt} (h : Repl L A B L' := by repeat constructor) : Repl L A B L' := h
theorem qT {L M R : List Asrt} (h : Take L M R := by repeat (first|exact Take.nil|exact Take.all|(apply Take.cons; (next => (repeat constructor); done))|apply Take.skip)) : Take L M R := h
theorem qA {L M R : List Asrt} (h : App L M R := by repeat (first|exact App.nil|apply App.cons|(apply App.flip; first|exact App.nil|apply App.cons)|exact App.any)) : App L M R := h
theorem qV {L M : List Asrt} (h : Arr L M := by repeat (first|exact Arr.nil|exact Arr.stop|refine Arr.cons (by repeat constructor) ?_|refine Arr.skip ?_)) : Arr L M := h
theorem qI {L M : List Asrt} (h : Arr L M := by repeat (first|exact Arr.nil|exact Arr.stop|refine Arr.cons (by repeat constructor) ?_|refine Arr.skip ?_)) : Imp L M := Imp.arr h
theorem qZ {p : Prop} (h : p := by first|omega|(rw [szL]; omega)|rfl|exact Nat.le_of_ble_eq_true rfl|(simp; done)|(simp; omega)) : p := h
theorem qS {p : Prop} (h : p := by first|omega|exact Nat.le_of_ble_eq_true rfl|(simp; done)|(simp; omega)|decide) : p := h
theorem qO {p : Prop} (h : p := by first|omega|(dsimp only; omega)|(simp only []; omega)) : p := h
theorem qF {p : Prop} (h : p := by first|rfl|exact fill_one rfl rfl) : p := h
theorem qB {p : Prop} (h : p := by first|rfl|(simp [optB]; done)|(simp [optB]; omega)) : p := h
theorem qN {p : Prop} (h : p := by first|rfl|exact oneM_u8 _|exact oneL_u8 _|(simp [oneC]; done)) : p := h
end Go.Sl
namespace Go.Sl
open Go Go.ChangeShapes Go.WideShapes Go.ChangeAt Go.RowKit
theorem con_law {P : Program} {f : FuncId} {args : List Value} {W : World} (h : Con P f args [old W] (fun v M => v = .bool true ∧ [old W] = M)) : Calls P f args.toArray W (fun e w' => e = .returned (.bool true) ∧ Below W.heap.size W w') := by
  have H : St W W (pur True :: [old W]) := (St.start W).pur_mk trivial
  refine (h W _ W H).mono ?_
  rintro e w' ⟨v, he, M', H', hv, rfl⟩
  exact ⟨by rw [he, hv], H'.below (.there .here)⟩
theorem Con.frame {P : Program} {F : FuncId} {args : List Value} {M L : List Asrt} {Φ : Value → List Asrt → Prop} (h : Con P F args M Φ) : Con P F args (M ++ L) (fun v N => ∃ M', Φ v M' ∧ M' ++ L = N) := by
  intro w0 Fr w H
  have H2 : St w0 w (all (Fr :: L) :: M) := by
    refine H.ent ((Imp.cons Imp.comm).trans ?_)
    exact Imp.app (L := Fr :: L) (M := M)
  refine (h w0 _ w H2).mono (Ret.mono ?_)
  rintro v w' ⟨M', H', hφ⟩
  exact ⟨M' ++ L, H'.ent (Imp.unapp.trans (Imp.cons Imp.comm)), M', hφ, rfl⟩
end Go.Sl
namespace Go.Sl
open Go Go.ChangeShapes Go.WideShapes Go.ChangeAt Go.RowKit
variable {H : Type} {enc : TypeId × Value → H} {P : Program} {w : World} {base : Nat} {spare : Nat → Bool} {held : Bool}
theorem byte_of {n : Int} (hw : (Lit.int .u8 n).wf = true) : ∃ b : Byte, Value.int .u8 n = u8b b := by
  simp only [Lit.wf, Bool.and_eq_true, decide_eq_true_eq] at hw
  have hlo : IntKind.u8.min = 0 := by decide
  have hhi : IntKind.u8.max = 255 := by decide
  refine ⟨BitVec.ofNat 8 n.toNat, ?_⟩
  show Value.int .u8 n = .int .u8 _
  rw [BitVec.toNat_ofNat]
  congr 1
  omega
theorem list_bytes {cs : List Value} (h : ∀ v ∈ cs, ∃ b : Byte, v = u8b b) : ∃ l : List Byte, cs = l.map u8b := by
  induction cs with
  | nil => exact ⟨[], rfl⟩
  | cons v cs ih =>
    obtain ⟨b, hb⟩ := h v (.head _)
    obtain ⟨l, hl⟩ := ih (fun x hx => h x (.tail _ hx))
    exact ⟨b :: l, by rw [hb, hl]; rfl⟩
theorem open_ba {T n fuel : Nat} {cs : List Value} {x : DataW H × List MemPlace} [ht : TyBA P T n] (h : DataW.trod enc P w base spare held fuel T cs = some x) : ∃ l : List Byte, cs = l.map u8b ∧ l.length = n := by
  obtain ⟨E, h1, h2, h3⟩ := ht.ex
  obtain ⟨xs, m, _, _, hl, hxl, hel⟩ := DataW.trod_array h1 h
  rw [ht.ct] at hl
  have hb : ∀ v ∈ cs, ∃ b : Byte, v = u8b b := by
    intro v hv
    obtain ⟨i, hi, rfl⟩ := List.getElem_of_mem hv
    have h4 := hel i (by omega)
    rw [h3, Nat.mul_one] at h4
    rw [List.getElem?_eq_getElem (show i < xs.length by omega)] at h4
    have e : (cs.drop i).take 1 = [cs[i]] := by rw [List.drop_eq_getElem_cons hi]; rfl
    rw [e] at h4
    obtain ⟨k, hk, _, hw⟩ := DataW.trod_int h2 h4
    simp only [List.cons.injEq, and_true] at hk
    rw [hk]
    exact byte_of hw
  obtain ⟨l, rfl⟩ := list_bytes hb
  exact ⟨l, rfl, by simpa using hl⟩
theorem slice_shape {t e fuel : Nat} {cs : List Value} {x : DataW H × List MemPlace} (ht : P.underlying t = some (.slice e)) (h : DataW.trod enc P w base spare held fuel t cs = some x) :
    ∃ a len cap, cs = [.slice a len cap] ∧ len ≤ cap ∧ cap ≤ 9223372036854775807 := by
  rcases DataW.trod_slice ht h with ⟨rfl, _⟩|⟨a, len, cap, elems, rest, n, _, rfl, hx, hb, hl, hm, _⟩
  · exact ⟨none, 0, 0, rfl, by omega, by omega⟩
  · exact ⟨some a, len, cap, rfl, hl, by unfold Go.maxLen at hm; omega⟩
structure InB (W : World) (v : Value) (l : List Byte) : Prop where
  sl : SlW W 1 v l.length (l.map u8b)
  sh : ∃ a c, v = .slice a l.length c ∧ l.length ≤ c ∧ c ≤ 9223372036854775807
  len : l.length ≤ 140737488351232
theorem InB.bs {W : World} {v : Value} {l : List Byte} {M M' : List Asrt} (h : InB W v l) (hm : Has M (old W) M') : Bs M v l := Bs.old hm h.sl h.sh
theorem open_bs {t e fuel : Nat} {cs : List Value} {x : DataW H × List MemPlace} (ht : P.underlying t = some (.slice e)) (he : P.underlying e = some (.int .u8)) (hc : P.cellsOf e = 1) (hby : P.bytesOf e = 1) (h : DataW.trod enc P w base spare held fuel t cs = some x) (hs : Small P t x.1) :
    ∃ (v : Value) (l : List Byte), cs = [v] ∧ InB w v l := by
  obtain ⟨v, l, h1, h2, h3, h4⟩ := open_bytess ht he hc hby h hs
  obtain ⟨a, len, cap, h5, h6, h7⟩ := slice_shape ht h
  rw [h1] at h5
  simp only [List.cons.injEq, and_true] at h5
  have hb : ∀ u ∈ l.map u8v, ∃ b : Byte, u = u8b b := by
    intro u hu
    obtain ⟨n, hn, rfl⟩ := List.mem_map.1 hu
    exact byte_of (h3 n hn)
  obtain ⟨lb, hlb⟩ := list_bytes hb
  have hll : l.length = lb.length := by have := congrArg List.length hlb; simpa using this
  rw [hlb, hll] at h2
  obtain ⟨a', k', hv⟩ := h2.len
  rw [h5] at hv
  simp only [Value.slice.injEq] at hv
  obtain ⟨rfl, rfl, rfl⟩ := hv
  exact ⟨v, lb, h1, ⟨h2, ⟨a, cap, h5, h6, h7⟩, by omega⟩⟩
structure InR (W : World) (v : Value) (ps : List (Value × List Byte)) : Prop where
  sl : SlW W 1 v ps.length (ps.map (·.1))
  sh : ∃ a c, v = .slice a ps.length c ∧ ps.length ≤ c ∧ c ≤ 9223372036854775807
  el : ∀ x ∈ ps, InB W x.1 x.2
  len : ps.length * 24 ≤ 140737488351232
theorem InR.rs {W : World} {v : Value} {ps : List (Value × List Byte)} {M M' : List Asrt} (h : InR W v ps) (hm : Has M (old W) M') : Rs M v ps :=
  ⟨Rd.old hm h.sl, fun _ _ _ _ => h.sh, fun x hx => (h.el x hx).bs hm⟩
theorem open_rs {t e e2 fuel : Nat} {cs : List Value} {x : DataW H × List MemPlace} (ht : P.underlying t = some (.slice e)) (hc : P.cellsOf e = 1) (hby : P.bytesOf e = 24) (ht2 : P.underlying e = some (.slice e2)) (he : P.underlying e2 = some (.int .u8)) (hc2 : P.cellsOf e2 = 1) (hby2 : P.bytesOf e2 = 1)
    (h : DataW.trod enc P w base spare held fuel t cs = some x) (hs : Small P t x.1) : ∃ (v : Value) (ps : List (Value × List Byte)), cs = [v] ∧ InR w v ps := by
  obtain ⟨v, l, h1, h2, h3, h4⟩ := open_sls (encd := fun x : Value × List Byte => [x.1]) (good := fun x => InB w x.1 x.2) ht hc (by decide) hby (fun _ => rfl) (fun n cs y hy hsm => by
    obtain ⟨v, l, rfl, hin⟩ := open_bs ht2 he hc2 hby2 hy hsm
    exact ⟨(v, l), rfl, hin⟩) h hs
  obtain ⟨a, len, cap, h5, h6, h7⟩ := slice_shape ht h
  rw [h1] at h5
  simp only [List.cons.injEq, and_true] at h5
  rw [flat_one] at h2
  obtain ⟨a', k', hv⟩ := h2.len
  rw [h5] at hv
  simp only [Value.slice.injEq] at hv
  obtain ⟨rfl, rfl, rfl⟩ := hv
  exact ⟨v, l, h1, ⟨h2, ⟨a, cap, h5, h6, h7⟩, h3, h4⟩⟩
theorem arg_bs {t e b0 : Nat} {v : Value} {d : DataW H} {ps : List MemPlace} (ht : P.underlying t = some (.slice e)) (he : P.underlying e = some (.int .u8)) (hc : P.cellsOf e = 1) (hby : P.bytesOf e = 1) (hv : Value.okWide P w .any b0 t v) (h : DataW.Trod enc P w base spare held t v d ps) (hs : Small P t d) :
    ∃ l : List Byte, InB w v l := by
  obtain ⟨a, len, cap, rfl⟩ := okWide_slice ht hv
  obtain ⟨fuel, hf⟩ := h
  obtain ⟨u, l, hu, hin⟩ := open_bs ht he hc hby hf hs
  obtain rfl : Value.slice a len cap = u := by simpa [Value.cells] using hu
  exact ⟨l, hin⟩
end Go.Sl
namespace Go.Sl
open Go Go.ChangeShapes Go.WideShapes Go.ChangeAt Go.RowKit
theorem Imp.pur_mk {p : Prop} {M : List Asrt} (hp : p) : Imp M (pur p :: M) := fun h hs => ⟨fun _ => none, h, hp, hs, Frag.none_disj _, Frag.none_sub _, Frag.sub_refl _⟩
theorem i64_of {n : Int} (h : (Lit.int .i64 n).wf = true) : -9223372036854775808 ≤ n ∧ n ≤ 9223372036854775807 := by
  simp only [Lit.wf, Bool.and_eq_true, decide_eq_true_eq] at h
  have hlo : IntKind.i64.min = -9223372036854775808 := by decide
  have hhi : IntKind.i64.max = 9223372036854775807 := by decide
  omega
theorem u8_of {n : Int} (hw : (Lit.int .u8 n).wf = true) : ∃ b : BitVec 8, Value.int .u8 n = u8b b := byte_of hw
theorem u64_of {n : Int} (hw : (Lit.int .u64 n).wf = true) : ∃ b : BitVec 64, Value.int .u64 n = u64b b := by
  simp only [Lit.wf, Bool.and_eq_true, decide_eq_true_eq] at hw
  have hlo : IntKind.u64.min = 0 := by decide
  have hhi : IntKind.u64.max = 18446744073709551615 := by decide
  refine ⟨BitVec.ofNat 64 n.toNat, ?_⟩
  show Value.int .u64 n = .int .u64 _
  rw [BitVec.toNat_ofNat]; congr 1; omega
end Go.Sl
namespace Go.Sl
open Go
section
variable {P : Program} {ρ : Env} {x y : Operand} {T T' : Nat} {a n : Nat}
theorem Zn1 (hx : ev ρ x = .int .i64 (a : Int)) (hy : ev ρ y = .int .i64 (OfNat.ofNat n)) (h : a + (OfNat.ofNat n : Nat) ≤ 9223372036854775807 := by first|omega|exact Nat.le_of_ble_eq_true rfl|(simp; done)|(simp; omega)|decide) : PV P (.binOp .add T x y T') ρ (.int .i64 ((a + OfNat.ofNat n : Nat) : Int)) := Zma (b := OfNat.ofNat n) hx hy h
theorem Zn2 (hx : ev ρ x = .int .i64 (a : Int)) (hy : ev ρ y = .int .i64 (OfNat.ofNat n)) (h : (OfNat.ofNat n : Nat) ≤ a := by first|omega|exact Nat.le_of_ble_eq_true rfl|(simp; done)|(simp; omega)|decide) (ha : a ≤ 9223372036854775807 := by first|omega|exact Nat.le_of_ble_eq_true rfl|(simp; done)|(simp; omega)|decide) : PV P (.binOp .sub T x y T') ρ (.int .i64 ((a - OfNat.ofNat n : Nat) : Int)) := Zmb (b := OfNat.ofNat n) hx hy h ha
theorem Zn3 (hx : ev ρ x = .int .i64 (a : Int)) (hy : ev ρ y = .int .i64 (OfNat.ofNat n)) (h : a * (OfNat.ofNat n : Nat) ≤ 9223372036854775807 := by first|omega|exact Nat.le_of_ble_eq_true rfl|(simp; done)|(simp; omega)|decide) : PV P (.binOp .mul T x y T') ρ (.int .i64 ((a * OfNat.ofNat n : Nat) : Int)) := Zmc (b := OfNat.ofNat n) hx hy h
theorem Zn4 (hx : ev ρ x = .int .i64 (a : Int)) (hy : ev ρ y = .int .i64 (OfNat.ofNat n)) (h : 0 < (OfNat.ofNat n : Nat) := by first|omega|exact Nat.le_of_ble_eq_true rfl|(simp; done)|(simp; omega)|decide) (ha : a ≤ 9223372036854775807 := by first|omega|exact Nat.le_of_ble_eq_true rfl|(simp; done)|(simp; omega)|decide) : PV P (.binOp .quo T x y T') ρ (.int .i64 ((a / OfNat.ofNat n : Nat) : Int)) := Zmd (b := OfNat.ofNat n) hx hy h ha
theorem Zn5 (hx : ev ρ x = .int .i64 (a : Int)) (hy : ev ρ y = .int .i64 (OfNat.ofNat n)) (h : 0 < (OfNat.ofNat n : Nat) := by first|omega|exact Nat.le_of_ble_eq_true rfl|(simp; done)|(simp; omega)|decide) : PV P (.binOp .rem T x y T') ρ (.int .i64 ((a % OfNat.ofNat n : Nat) : Int)) := Zme (b := OfNat.ofNat n) hx hy h
theorem Zn6 {k : IntKind} (hx : ev ρ x = .int k (a : Int)) (hy : ev ρ y = .int k (OfNat.ofNat n)) : PV P (.binOp .lss T x y T') ρ (.bool (decide (a < OfNat.ofNat n))) := Zmf (b := OfNat.ofNat n) hx hy
theorem Zn7 {k : IntKind} (hx : ev ρ x = .int k (a : Int)) (hy : ev ρ y = .int k (OfNat.ofNat n)) : PV P (.binOp .leq T x y T') ρ (.bool (decide (a ≤ OfNat.ofNat n))) := Zmg (b := OfNat.ofNat n) hx hy
theorem Zn8 {k : IntKind} (hx : ev ρ x = .int k (a : Int)) (hy : ev ρ y = .int k (OfNat.ofNat n)) : PV P (.binOp .gtr T x y T') ρ (.bool (decide (OfNat.ofNat n < a))) := Zmh (b := OfNat.ofNat n) hx hy
theorem Zn9 {k : IntKind} (hx : ev ρ x = .int k (a : Int)) (hy : ev ρ y = .int k (OfNat.ofNat n)) : PV P (.binOp .geq T x y T') ρ (.bool (decide (OfNat.ofNat n ≤ a))) := Zmi (b := OfNat.ofNat n) hx hy
theorem Zoa {k : IntKind} (hx : ev ρ x = .int k (a : Int)) (hy : ev ρ y = .int k (OfNat.ofNat n)) : PV P (.binOp .eql T x y T') ρ (.bool (decide (a = OfNat.ofNat n))) := Zmj (b := OfNat.ofNat n) hx hy
theorem Zob {k : IntKind} (hx : ev ρ x = .int k (a : Int)) (hy : ev ρ y = .int k (OfNat.ofNat n)) : PV P (.binOp .neq T x y T') ρ (.bool (decide (a ≠ OfNat.ofNat n))) := Zmk (b := OfNat.ofNat n) hx hy
end
attribute [local irreducible] pt own old pur ex all den denOps denS xOps xC cX CX xthen xblk xcut xloop xng retX resX Calls PV Rd Con
theorem pvA {p : Prop} (h : p := by
    first
    | (guard_target =~ PV _ (.move _) _ _; first|exact Zat rfl|exact Zax rfl|exact Zaw rfl|exact Zav rfl|exact Zau rfl|exact Zmo rfl|exact Zmp rfl|exact Zmn rfl|exact Zmm rfl|exact Zay rfl|exact Zar rfl)
    | (guard_target =~ PV _ (.assign _) _ _; first|exact Zaz rfl|exact Za3 rfl|exact Za2 rfl|exact Za1 rfl|exact Za0 rfl|exact Zmr rfl|exact Zms rfl|exact Zmq rfl|exact Zmt rfl|exact Zmu rfl|exact Zas rfl)
    | (guard_target =~ PV _ (.call _) _ _; first|exact Zcr rfl|exact Zct|exact Zcu rfl|exact Zcv rfl rfl|exact Zcw rfl rfl)
    | (guard_target =~ PV _ (.fieldAddr _ _ _) _ _; first|exact Zl8 rfl|exact Zce rfl qS)
    | (guard_target =~ PV _ (.pick _ _ _) _ _; first|exact Zdz rfl rfl|exact Zd0 rfl rfl|exact Za8 rfl rfl|exact Za9 rfl rfl|exact Za6 rfl rfl|exact Za7 rfl rfl)
    | (guard_target =~ PV _ (.nilCheck _) _ _; first|exact Zba rfl)
    | (guard_target =~ PV _ (.extract _ _) _ _; first|exact Zco rfl rfl)
    | (guard_target =~ PV _ (.binOp .lss _ _ (.const _) _) _ _; first|exact Zn6 rfl rfl)
    | (guard_target =~ PV _ (.binOp .eql _ _ (.const _) _) _ _; first|exact Zoa rfl rfl)
    | (guard_target =~ PV _ (.binOp .neq _ _ (.const _) _) _ _; first|exact Zob rfl rfl)
    | (guard_target =~ PV _ (.binOp .geq _ _ (.const _) _) _ _; first|exact Zn9 rfl rfl)
    | (guard_target =~ PV _ (.binOp .gtr _ _ (.const _) _) _ _; first|exact Zn8 rfl rfl)
    | (guard_target =~ PV _ (.binOp .leq _ _ (.const _) _) _ _; first|exact Zn7 rfl rfl)
    | (guard_target =~ PV _ (.binOp .add _ _ (.const _) _) _ _; first|exact Zn1 rfl rfl)
    | (guard_target =~ PV _ (.binOp .sub _ _ (.const _) _) _ _; first|exact Zn2 rfl rfl)
    | (guard_target =~ PV _ (.binOp .mul _ _ (.const _) _) _ _; first|exact Zn3 rfl rfl)
    | (guard_target =~ PV _ (.binOp .quo _ _ (.const _) _) _ _; first|exact Zn4 rfl rfl)
    | (guard_target =~ PV _ (.binOp .rem _ _ (.const _) _) _ _; first|exact Zn5 rfl rfl)
    | (guard_target =~ PV _ (.binOp .lss _ _ _ _) _ _; first|exact Zmf rfl rfl|exact Zbn rfl rfl)
    | (guard_target =~ PV _ (.binOp .eql _ _ _ _) _ _; first|exact Zmj rfl rfl|exact Zbr rfl rfl|exact Zca rfl rfl|exact Zcc rfl rfl|exact Zb7 rfl rfl)
    | (guard_target =~ PV _ (.binOp .neq _ _ _ _) _ _; first|exact Zmk rfl rfl|exact Zbs rfl rfl|exact Zcb rfl rfl|exact Zcd rfl rfl|exact Zb8 rfl rfl)
    | (guard_target =~ PV _ (.binOp .geq _ _ _ _) _ _; first|exact Zmi rfl rfl|exact Zbq rfl rfl)
    | (guard_target =~ PV _ (.binOp .gtr _ _ _ _) _ _; first|exact Zmh rfl rfl|exact Zbp rfl rfl)
    | (guard_target =~ PV _ (.binOp .leq _ _ _ _) _ _; first|exact Zmg rfl rfl|exact Zbo rfl rfl)
    | (guard_target =~ PV _ (.binOp .add _ _ _ _) _ _; first|exact Zma rfl rfl|exact Zbg rfl rfl|exact Zkn rfl rfl|exact Zi9 rfl rfl|exact Zlc rfl rfl)
    | (guard_target =~ PV _ (.binOp .sub _ _ _ _) _ _; first|exact Zmb rfl rfl|exact Zbh rfl rfl)
    | (guard_target =~ PV _ (.binOp .mul _ _ _ _) _ _; first|exact Zmc rfl rfl|exact Zbi rfl rfl)
    | (guard_target =~ PV _ (.binOp .quo _ _ _ _) _ _; first|exact Zmd rfl rfl|exact Zbj rfl rfl)
    | (guard_target =~ PV _ (.binOp .rem _ _ _ _) _ _; first|exact Zme rfl rfl|exact Zbl rfl rfl)
    | (guard_target =~ PV _ (.binOp .xor _ _ _ _) _ _; first|exact Zks rfl rfl|exact Zje rfl rfl|exact Zlh rfl rfl)
    | (guard_target =~ PV _ (.binOp .or _ _ _ _) _ _; first|exact Zkr rfl rfl|exact Zjd rfl rfl|exact Zlg rfl rfl)
    | (guard_target =~ PV _ (.binOp .and _ _ _ _) _ _; first|exact Zkq rfl rfl|exact Zjc rfl rfl|exact Zlf rfl rfl)
    | (guard_target =~ PV _ (.indexAddr _ _ _) _ _; first|exact Zl4 rfl rfl|exact Zl1 rfl rfl|exact Zl6 rfl rfl|exact Zcg rfl rfl qS|exact Zl5 rfl rfl|exact Zl3 rfl rfl|exact Zl7 rfl rfl|exact Zl2 rfl rfl)
    | (guard_target =~ PV _ (.unOp _ _ _) _ _; first|exact Zb1 rfl|exact Zb0 rfl)
    | (guard_target =~ PV _ (.field _ _ _) _ _; first|exact Zcl rfl rfl|exact Zcm rfl rfl)
    | (guard_target =~ PV _ (.makeFunc _ _ _) _ _; first|exact Zf3)
    | (guard_target =~ PV _ (.makeInterface _ _) _ _; first|exact Zm2 rfl)) : p := h
structure Wr0 (A : Prop) : Prop where
  o : A
theorem Y0 {A B : Prop} (k : A) (h : Wr0 A → B := by
    intro k
    first
    | exact Zhi rfl k.o
    | exact Zhj rfl k.o) : B := h ⟨k⟩
theorem Yu {A B : Prop} (k : A) (h : Wr0 A → B := by
    intro k
    first
    | (guard_target =~ xOps _ _ _ _ _ (_ ++ _) _; exact Zg2 (by repeat (first|exact App.nil|apply App.cons|(apply App.flip; first|exact App.nil|apply App.cons)|exact App.any)) k.o)
    | (guard_target =~ xOps _ _ _ [] _ _ _; exact Zg3 k.o)
    | (guard_target =~ xOps _ _ _ (⟨_, .load _ _, _, _, _, none⟩ :: _) _ _ _; first|exact Zhp rfl qH rfl k.o|exact Zhr rfl qH qZ k.o|exact Zhq rfl qH qZ rfl k.o)
    | (guard_target =~ xOps _ _ _ (⟨_, .store _ _ _, _, _, _, none⟩ :: _) _ _ _; first|exact Zht rfl rfl qR qZ rfl k.o|exact Zhw rfl rfl qR qZ rfl k.o|exact Zhv rfl rfl qR qZ rfl k.o|exact Zhu rfl rfl qR qZ rfl k.o)
    | (guard_target =~ xOps _ _ _ (⟨_, _, _, _, _, none⟩ :: _) _ _ _; exact Zhg pvA k.o)) : B := h ⟨k⟩
theorem Y1 {A B : Prop} (k : A) (h : Wr0 A → B := by
    intro k
    first
    | (guard_target =~ xOps _ _ _ (⟨_, _, _, _, _, some _⟩ :: _) _ _ _; first|exact Zhi rfl k.o|exact Zhj rfl k.o|(refine Zhh rfl ?_; exact Yu k.o))
    | (guard_target =~ xOps _ _ _ _ _ _ _; exact Yu k.o)
    | (refine Ct.o ?_; first
        | (guard_target =~ xC _ _ (.region _ _ _) _ _ _; exact Zgb k.o)
        | (guard_target =~ xC _ _ (.cond _ _ _) _ _ _; first|exact Zge rfl k.o|exact Zgf rfl k.o))) : B := h ⟨k⟩
theorem V1 {A B : Prop} (k : A) (h : Wr0 A → B := by intro k; refine Y1 ?_; exact Ct.o k.o) : B := h ⟨k⟩
def gNone (ops : Array Oper) (i : Nat) : Bool := match ops[i]? with
  | some ⟨_, _, _, _, _, none⟩ => true
  | _ => false
theorem Wq {P : Program} {w0 : World} {ops : Array Oper} {SM : List Asrt} {i : Nat} {r : Ord} {ρ : Env} {M : List Asrt} {K : XK} (hg : gNone ops i = true) (h : cX P w0 ops SM (.q i r) ρ M K) : cX P w0 ops SM (.q i r) ρ M K := h
theorem Wr {P : Program} {w0 : World} {ops : Array Oper} {SM : List Asrt} {i : Nat} {r : Ord} {ρ : Env} {M : List Asrt} {K : XK} (hg : gNone ops i = true) (h : cX P w0 ops SM (.r i r) ρ M K) : cX P w0 ops SM (.r i r) ρ M K := h
theorem W1 {A B : Prop} (k : A) (h : Wr0 A → B := by
    intro k
    first
    | (guard_target =~ cX _ _ _ _ .nil _ _ _; exact Zik k.o)
    | (guard_target =~ cX _ _ _ _ (.q _ _) _ _ _; first|(refine Wq rfl ?_; exact Zim rfl pvA k.o)|exact Zio rfl rfl k.o|exact Zip rfl rfl k.o|exact Zin rfl rfl pvA k.o)
    | (guard_target =~ cX _ _ _ _ (.r _ _) _ _ _; first|(refine Wr rfl ?_; first|exact Ziv rfl rfl qH rfl k.o|exact Ziy rfl rfl qH qZ k.o|exact Zix rfl rfl qH qZ rfl k.o|exact Ziz rfl pvA k.o)|exact Zi1 rfl rfl k.o|exact Zi2 rfl rfl k.o|exact Ziw rfl rfl rfl qH rfl k.o|exact Zi4 rfl rfl rfl qH qZ k.o|exact Zi3 rfl rfl rfl qH qZ rfl k.o|exact Zi0 rfl rfl pvA k.o)) : B := h ⟨k⟩
theorem Y2 {A B : Prop} (k : A) (h : Wr0 A → B := by intro k; (iterate 2 refine Y1 ?_); exact k.o) : B := h ⟨k⟩
theorem Y3 {A B : Prop} (k : A) (h : Wr0 A → B := by intro k; (iterate 3 refine Y1 ?_); exact k.o) : B := h ⟨k⟩
theorem Y4 {A B : Prop} (k : A) (h : Wr0 A → B := by intro k; (iterate 4 refine Y1 ?_); exact k.o) : B := h ⟨k⟩
theorem Y5 {A B : Prop} (k : A) (h : Wr0 A → B := by intro k; (iterate 5 refine Y1 ?_); exact k.o) : B := h ⟨k⟩
theorem Y6 {A B : Prop} (k : A) (h : Wr0 A → B := by intro k; (iterate 6 refine Y1 ?_); exact k.o) : B := h ⟨k⟩
theorem Y7 {A B : Prop} (k : A) (h : Wr0 A → B := by intro k; (iterate 7 refine Y1 ?_); exact k.o) : B := h ⟨k⟩
theorem Y8 {A B : Prop} (k : A) (h : Wr0 A → B := by intro k; (iterate 8 refine Y1 ?_); exact k.o) : B := h ⟨k⟩
theorem Y9 {A B : Prop} (k : A) (h : Wr0 A → B := by intro k; (iterate 9 refine Y1 ?_); exact k.o) : B := h ⟨k⟩
theorem Y10 {A B : Prop} (k : A) (h : Wr0 A → B := by intro k; (iterate 10 refine Y1 ?_); exact k.o) : B := h ⟨k⟩
theorem Y11 {A B : Prop} (k : A) (h : Wr0 A → B := by intro k; (iterate 11 refine Y1 ?_); exact k.o) : B := h ⟨k⟩
theorem Y12 {A B : Prop} (k : A) (h : Wr0 A → B := by intro k; (iterate 12 refine Y1 ?_); exact k.o) : B := h ⟨k⟩
theorem Y13 {A B : Prop} (k : A) (h : Wr0 A → B := by intro k; (iterate 13 refine Y1 ?_); exact k.o) : B := h ⟨k⟩
theorem Y14 {A B : Prop} (k : A) (h : Wr0 A → B := by intro k; (iterate 14 refine Y1 ?_); exact k.o) : B := h ⟨k⟩
theorem Y15 {A B : Prop} (k : A) (h : Wr0 A → B := by intro k; (iterate 15 refine Y1 ?_); exact k.o) : B := h ⟨k⟩
theorem Y17 {A B : Prop} (k : A) (h : Wr0 A → B := by intro k; (iterate 17 refine Y1 ?_); exact k.o) : B := h ⟨k⟩
theorem Y20 {A B : Prop} (k : A) (h : Wr0 A → B := by intro k; (iterate 20 refine Y1 ?_); exact k.o) : B := h ⟨k⟩
theorem V2 {A B : Prop} (k : A) (h : Wr0 A → B := by intro k; (iterate 2 refine Y1 ?_); exact Ct.o k.o) : B := h ⟨k⟩
theorem V3 {A B : Prop} (k : A) (h : Wr0 A → B := by intro k; (iterate 3 refine Y1 ?_); exact Ct.o k.o) : B := h ⟨k⟩
theorem V4 {A B : Prop} (k : A) (h : Wr0 A → B := by intro k; (iterate 4 refine Y1 ?_); exact Ct.o k.o) : B := h ⟨k⟩
theorem V5 {A B : Prop} (k : A) (h : Wr0 A → B := by intro k; (iterate 5 refine Y1 ?_); exact Ct.o k.o) : B := h ⟨k⟩
theorem V6 {A B : Prop} (k : A) (h : Wr0 A → B := by intro k; (iterate 6 refine Y1 ?_); exact Ct.o k.o) : B := h ⟨k⟩
theorem V7 {A B : Prop} (k : A) (h : Wr0 A → B := by intro k; (iterate 7 refine Y1 ?_); exact Ct.o k.o) : B := h ⟨k⟩
theorem V8 {A B : Prop} (k : A) (h : Wr0 A → B := by intro k; (iterate 8 refine Y1 ?_); exact Ct.o k.o) : B := h ⟨k⟩
theorem V9 {A B : Prop} (k : A) (h : Wr0 A → B := by intro k; (iterate 9 refine Y1 ?_); exact Ct.o k.o) : B := h ⟨k⟩
theorem V10 {A B : Prop} (k : A) (h : Wr0 A → B := by intro k; (iterate 10 refine Y1 ?_); exact Ct.o k.o) : B := h ⟨k⟩
theorem V11 {A B : Prop} (k : A) (h : Wr0 A → B := by intro k; (iterate 11 refine Y1 ?_); exact Ct.o k.o) : B := h ⟨k⟩
theorem V12 {A B : Prop} (k : A) (h : Wr0 A → B := by intro k; (iterate 12 refine Y1 ?_); exact Ct.o k.o) : B := h ⟨k⟩
theorem V13 {A B : Prop} (k : A) (h : Wr0 A → B := by intro k; (iterate 13 refine Y1 ?_); exact Ct.o k.o) : B := h ⟨k⟩
theorem V14 {A B : Prop} (k : A) (h : Wr0 A → B := by intro k; (iterate 14 refine Y1 ?_); exact Ct.o k.o) : B := h ⟨k⟩
theorem V15 {A B : Prop} (k : A) (h : Wr0 A → B := by intro k; (iterate 15 refine Y1 ?_); exact Ct.o k.o) : B := h ⟨k⟩
theorem V18 {A B : Prop} (k : A) (h : Wr0 A → B := by intro k; (iterate 18 refine Y1 ?_); exact Ct.o k.o) : B := h ⟨k⟩
theorem V19 {A B : Prop} (k : A) (h : Wr0 A → B := by intro k; (iterate 19 refine Y1 ?_); exact Ct.o k.o) : B := h ⟨k⟩
theorem W2 {A B : Prop} (k : A) (h : Wr0 A → B := by intro k; (iterate 2 refine W1 ?_); exact k.o) : B := h ⟨k⟩
theorem W3 {A B : Prop} (k : A) (h : Wr0 A → B := by intro k; (iterate 3 refine W1 ?_); exact k.o) : B := h ⟨k⟩
theorem W4 {A B : Prop} (k : A) (h : Wr0 A → B := by intro k; (iterate 4 refine W1 ?_); exact k.o) : B := h ⟨k⟩
theorem W5 {A B : Prop} (k : A) (h : Wr0 A → B := by intro k; (iterate 5 refine W1 ?_); exact k.o) : B := h ⟨k⟩
theorem W6 {A B : Prop} (k : A) (h : Wr0 A → B := by intro k; (iterate 6 refine W1 ?_); exact k.o) : B := h ⟨k⟩
theorem W7 {A B : Prop} (k : A) (h : Wr0 A → B := by intro k; (iterate 7 refine W1 ?_); exact k.o) : B := h ⟨k⟩
theorem W8 {A B : Prop} (k : A) (h : Wr0 A → B := by intro k; (iterate 8 refine W1 ?_); exact k.o) : B := h ⟨k⟩
theorem W9 {A B : Prop} (k : A) (h : Wr0 A → B := by intro k; (iterate 9 refine W1 ?_); exact k.o) : B := h ⟨k⟩
theorem W10 {A B : Prop} (k : A) (h : Wr0 A → B := by intro k; (iterate 10 refine W1 ?_); exact k.o) : B := h ⟨k⟩
theorem W11 {A B : Prop} (k : A) (h : Wr0 A → B := by intro k; (iterate 11 refine W1 ?_); exact k.o) : B := h ⟨k⟩
theorem W12 {A B : Prop} (k : A) (h : Wr0 A → B := by intro k; (iterate 12 refine W1 ?_); exact k.o) : B := h ⟨k⟩
theorem W15 {A B : Prop} (k : A) (h : Wr0 A → B := by intro k; (iterate 15 refine W1 ?_); exact k.o) : B := h ⟨k⟩
section
variable {P : Program} {w0 : World} {ops : Array Oper} {dst : Option Nat} {ty : TypeId} {pos : String} {after : Array Edge} {rest l : List Oper} {ρ : Env} {K : XK} {M SM : List Asrt} {r : Ord}
theorem Zor {F : FuncId} {f : Operand} {ars : Array Operand} {ts : Array TypeId} {fi ca : Array Value} {vs : List Value} {M1 R : List Asrt} {Φ : Value → List Asrt → Prop}
    (hf : ev ρ f = .func (.func F) fi ca := by exact rfl) (hb : callable P F = true := by kernel_rfl) (ha : argL ρ fi ars ca = vs := by exact rfl) (c : Con P F vs M1 Φ) (hs : Take M M1 R := by repeat (first|exact Take.nil|exact Take.all|(apply Take.cons; (next => (repeat constructor); done))|apply Take.skip)) (k : ∀ v M', Φ v M' → xOps P w0 ops rest (put ρ dst v) (M' ++ R) K) :
    xOps P w0 ops (⟨dst, .call { callee := .value f, args := ars, argTypes := ts }, ty, pos, after, none⟩ :: rest) ρ M K := Zh8 hf hb c ha hs k
theorem Zos (d : Nat) {p : Prop} [Decidable p] (hd : ρ d = .bool (decide p)) (e : p) (h : xOps P w0 ops l (put ρ (some d) (.bool true)) M K) : xOps P w0 ops l ρ M K := Zhm d hd (decide_eq_true e) h
theorem Zot (d : Nat) {p : Prop} [Decidable p] (hd : ρ d = .bool (decide p)) (e : ¬ p) (h : xOps P w0 ops l (put ρ (some d) (.bool false)) M K) : xOps P w0 ops l ρ M K := Zhn d hd (decide_eq_false e) h
theorem Zou (d : Nat) {p : Prop} [Decidable p] (hd : ρ d = .bool (decide p)) (e : p) (h : cX P w0 ops SM r (put ρ (some d) (.bool true)) M K) : cX P w0 ops SM r ρ M K := Zi5 d hd (decide_eq_true e) h
theorem Zov (d : Nat) {p : Prop} [Decidable p] (hd : ρ d = .bool (decide p)) (e : ¬ p) (h : cX P w0 ops SM r (put ρ (some d) (.bool false)) M K) : cX P w0 ops SM r ρ M K := Zi6 d hd (decide_eq_false e) h
end
theorem fn_y {P : Program} {f : FuncId} {fn : Func} {c : Code} {rs : List ResultVar} {n : Nat} {args : List Value} {M : List Asrt} {Φ : Value → List Asrt → Prop}
    (hf : P.funcs[f]? = some fn) (hm : P.follows .mixedOrders = true) (h : ∀ w0, xC P w0 c (nth args) M (retX P w0 rs Φ)) (hb : fn.body = some c := by exact rfl) (hr : fn.results.toList = rs := by exact rfl) (hn : fn.ntmps = n := by exact rfl) (hfit : (Nat.ble args.length n && cfits n c) = true := by kernel_rfl) : Con P f args M Φ := fn_x hf hb hr hn hm hfit h
end Go.Sl
namespace Go.Sl
open Go Go.Proofs
theorem Tryz.mixed : Tryz.prog.follows .mixedOrders = true := by kernel_rfl
instance : TyScal Tryz.prog 3 := ⟨by kernel_rfl⟩
instance : TyI Tryz.prog 3 1 8 (.int .i64 0) := ⟨by kernel_rfl, by kernel_rfl⟩
instance : TyInt Tryz.prog 3 .i64 := ⟨by kernel_rfl⟩
instance : TyScal Tryz.prog 5 := ⟨by kernel_rfl⟩
instance : TyI Tryz.prog 5 1 1 (.int .u8 0) := ⟨by kernel_rfl, by kernel_rfl⟩
instance : TyInt Tryz.prog 5 .u8 := ⟨by kernel_rfl⟩
instance : TyStr Tryz.prog 9 := ⟨by kernel_rfl⟩
instance : TyScal Tryz.prog 22 := ⟨by kernel_rfl⟩
instance : TyI Tryz.prog 22 1 8 (.int .i64 0) := ⟨by kernel_rfl, by kernel_rfl⟩
instance : TyInt Tryz.prog 22 .i64 := ⟨by kernel_rfl⟩
instance : TyScal Tryz.prog 28 := ⟨by kernel_rfl⟩
instance : TyPtr Tryz.prog 28 137 := ⟨by kernel_rfl⟩
instance : TyScal Tryz.prog 32 := ⟨by kernel_rfl⟩
instance : TyPtr Tryz.prog 32 141 := ⟨by kernel_rfl⟩
instance : TyScal Tryz.prog 38 := ⟨by kernel_rfl⟩
instance : TyI Tryz.prog 38 1 8 (.pointer none) := ⟨by kernel_rfl, by kernel_rfl⟩
instance : TyPtr Tryz.prog 38 147 := ⟨by kernel_rfl⟩
instance : TyAggr Tryz.prog 42 := ⟨by kernel_rfl⟩
instance : TyI Tryz.prog 42 32 32 (.agg #[.int .u8 0, .int .u8 0, .int .u8 0, .int .u8 0, .int .u8 0, .int .u8 0, .int .u8 0, .int .u8 0, .int .u8 0, .int .u8 0, .int .u8 0, .int .u8 0, .int .u8 0, .int .u8 0, .int .u8 0, .int .u8 0, .int .u8 0, .int .u8 0, .int .u8 0, .int .u8 0, .int .u8 0, .int .u8 0, .int .u8 0, .int .u8 0, .int .u8 0, .int .u8 0, .int .u8 0, .int .u8 0, .int .u8 0, .int .u8 0, .int .u8 0, .int .u8 0]) := ⟨by kernel_rfl, by kernel_rfl⟩
instance : TyArr Tryz.prog 42 32 5 := ⟨by kernel_rfl⟩
instance : TyScal Tryz.prog 43 := ⟨by kernel_rfl⟩
instance : TyI Tryz.prog 43 1 8 (.int .u64 0) := ⟨by kernel_rfl, by kernel_rfl⟩
instance : TyInt Tryz.prog 43 .u64 := ⟨by kernel_rfl⟩
instance : TyScal Tryz.prog 50 := ⟨by kernel_rfl⟩
instance : TyI Tryz.prog 50 1 24 (.slice none 0 0) := ⟨by kernel_rfl, by kernel_rfl⟩
instance : TySlice Tryz.prog 50 158 := ⟨by kernel_rfl⟩
instance : TyScal Tryz.prog 52 := ⟨by kernel_rfl⟩
instance : TyI Tryz.prog 52 1 24 (.slice none 0 0) := ⟨by kernel_rfl, by kernel_rfl⟩
instance : TySlice Tryz.prog 52 3 := ⟨by kernel_rfl⟩
instance : TyScal Tryz.prog 55 := ⟨by kernel_rfl⟩
instance : TyI Tryz.prog 55 1 24 (.slice none 0 0) := ⟨by kernel_rfl, by kernel_rfl⟩
instance : TySlice Tryz.prog 55 151 := ⟨by kernel_rfl⟩
instance : TyI Tryz.prog 58 1 24 (.slice none 0 0) := ⟨by kernel_rfl, by kernel_rfl⟩
instance : TySlice Tryz.prog 58 119 := ⟨by kernel_rfl⟩
instance : TyScal Tryz.prog 65 := ⟨by kernel_rfl⟩
instance : TyI Tryz.prog 65 1 24 (.slice none 0 0) := ⟨by kernel_rfl, by kernel_rfl⟩
instance : TySlice Tryz.prog 65 66 := ⟨by kernel_rfl⟩
instance : TyScal Tryz.prog 66 := ⟨by kernel_rfl⟩
instance : TyI Tryz.prog 66 1 24 (.slice none 0 0) := ⟨by kernel_rfl, by kernel_rfl⟩
instance : TySlice Tryz.prog 66 5 := ⟨by kernel_rfl⟩
instance : TyAggr Tryz.prog 84 := ⟨by kernel_rfl⟩
instance : TyI Tryz.prog 84 39 136 (.agg #[.int .i64 0, .int .i64 0, .int .i64 0, .int .u8 0, .int .u8 0, .int .u8 0, .int .u8 0, .int .u8 0, .int .u8 0, .int .u8 0, .int .u8 0, .int .u8 0, .int .u8 0, .int .u8 0, .int .u8 0, .int .u8 0, .int .u8 0, .int .u8 0, .int .u8 0, .int .u8 0, .int .u8 0, .int .u8 0, .int .u8 0, .int .u8 0, .int .u8 0, .int .u8 0, .int .u8 0, .int .u8 0, .int .u8 0, .int .u8 0, .int .u8 0, .int .u8 0, .int .u8 0, .int .u8 0, .int .u8 0, .int .u64 0, .slice none 0 0, .slice none 0 0, .slice none 0 0]) := ⟨by kernel_rfl, by kernel_rfl⟩
instance : Fld Tryz.prog 84 0 0 3 := ⟨by kernel_rfl⟩
instance : Fld Tryz.prog 84 1 1 3 := ⟨by kernel_rfl⟩
instance : Fld Tryz.prog 84 2 2 3 := ⟨by kernel_rfl⟩
instance : Fld Tryz.prog 84 3 3 42 := ⟨by kernel_rfl⟩
instance : Fld Tryz.prog 84 4 35 43 := ⟨by kernel_rfl⟩
instance : Fld Tryz.prog 84 6 37 65 := ⟨by kernel_rfl⟩
instance : TyStruct Tryz.prog 84 #[(0, 1), (1, 1), (2, 1), (3, 32), (35, 1), (36, 1), (37, 1), (38, 1)] := ⟨by kernel_rfl⟩
instance : TyAggr Tryz.prog 86 := ⟨by kernel_rfl⟩
instance : TyI Tryz.prog 86 5 40 (.agg #[.int .i64 0, .int .i64 0, .int .i64 0, .int .i64 0, .int .i64 0]) := ⟨by kernel_rfl, by kernel_rfl⟩
instance : Fld Tryz.prog 86 0 0 3 := ⟨by kernel_rfl⟩
instance : Fld Tryz.prog 86 1 1 3 := ⟨by kernel_rfl⟩
instance : Fld Tryz.prog 86 2 2 3 := ⟨by kernel_rfl⟩
instance : Fld Tryz.prog 86 3 3 3 := ⟨by kernel_rfl⟩
instance : Fld Tryz.prog 86 4 4 3 := ⟨by kernel_rfl⟩
instance : TyStruct Tryz.prog 86 #[(0, 1), (1, 1), (2, 1), (3, 1), (4, 1)] := ⟨by kernel_rfl⟩
instance : TyScal Tryz.prog 92 := ⟨by kernel_rfl⟩
instance : TyAggr Tryz.prog 119 := ⟨by kernel_rfl⟩
instance : TyI Tryz.prog 119 6 48 (.agg #[.int .i64 0, .int .i64 0, .int .i64 0, .int .i64 0, .int .u8 0, .int .i64 0]) := ⟨by kernel_rfl, by kernel_rfl⟩
instance : Fld Tryz.prog 119 0 0 3 := ⟨by kernel_rfl⟩
instance : Fld Tryz.prog 119 1 1 3 := ⟨by kernel_rfl⟩
instance : Fld Tryz.prog 119 2 2 3 := ⟨by kernel_rfl⟩
instance : Fld Tryz.prog 119 3 3 3 := ⟨by kernel_rfl⟩
instance : Fld Tryz.prog 119 4 4 5 := ⟨by kernel_rfl⟩
instance : Fld Tryz.prog 119 5 5 3 := ⟨by kernel_rfl⟩
instance : TyScal Tryz.prog 130 := ⟨by kernel_rfl⟩
instance : TyI Tryz.prog 130 1 4 (.int .u32 0) := ⟨by kernel_rfl, by kernel_rfl⟩
instance : TyInt Tryz.prog 130 .u32 := ⟨by kernel_rfl⟩
instance : TyI Tryz.prog 137 6 64 (.agg #[.pointer none, .int .i64 0, .int .i64 0, .int .i64 0, .int .i64 0, .slice none 0 0]) := ⟨by kernel_rfl, by kernel_rfl⟩
instance : Fld Tryz.prog 137 0 0 38 := ⟨by kernel_rfl⟩
instance : Fld Tryz.prog 137 1 1 3 := ⟨by kernel_rfl⟩
instance : Fld Tryz.prog 137 2 2 3 := ⟨by kernel_rfl⟩
instance : Fld Tryz.prog 137 3 3 3 := ⟨by kernel_rfl⟩
instance : Fld Tryz.prog 137 4 4 3 := ⟨by kernel_rfl⟩
instance : Fld Tryz.prog 137 5 5 55 := ⟨by kernel_rfl⟩
instance : TyStruct Tryz.prog 137 #[(0, 1), (1, 1), (2, 1), (3, 1), (4, 1), (5, 1)] := ⟨by kernel_rfl⟩
instance : TyScal Tryz.prog 138 := ⟨by kernel_rfl⟩
instance : TyI Tryz.prog 138 1 8 (.map none) := ⟨by kernel_rfl, by kernel_rfl⟩
instance : TyMap Tryz.prog 138 3 65 := ⟨by kernel_rfl⟩
instance : TyScal Tryz.prog 139 := ⟨by kernel_rfl⟩
instance : TyI Tryz.prog 139 1 8 (.map none) := ⟨by kernel_rfl, by kernel_rfl⟩
instance : TyMap Tryz.prog 139 3 58 := ⟨by kernel_rfl⟩
instance : TyI Tryz.prog 141 8 80 (.agg #[.int .i64 0, .int .i64 0, .map none, .int .u64 0, .map none, .int .i64 0, .slice none 0 0, .int .i64 0]) := ⟨by kernel_rfl, by kernel_rfl⟩
instance : Fld Tryz.prog 141 0 0 3 := ⟨by kernel_rfl⟩
instance : Fld Tryz.prog 141 1 1 3 := ⟨by kernel_rfl⟩
instance : Fld Tryz.prog 141 2 2 138 := ⟨by kernel_rfl⟩
instance : Fld Tryz.prog 141 4 4 139 := ⟨by kernel_rfl⟩
instance : Fld Tryz.prog 141 5 5 3 := ⟨by kernel_rfl⟩
instance : Fld Tryz.prog 141 6 6 50 := ⟨by kernel_rfl⟩
instance : Fld Tryz.prog 141 7 7 3 := ⟨by kernel_rfl⟩
instance : TyStruct Tryz.prog 141 #[(0, 1), (1, 1), (2, 1), (3, 1), (4, 1), (5, 1), (6, 1), (7, 1)] := ⟨by kernel_rfl⟩
instance : TyScal Tryz.prog 143 := ⟨by kernel_rfl⟩
instance : TyI Tryz.prog 143 1 16 (.nilIface) := ⟨by kernel_rfl, by kernel_rfl⟩
instance : TyScal Tryz.prog 144 := ⟨by kernel_rfl⟩
instance : TyI Tryz.prog 144 1 8 (.map none) := ⟨by kernel_rfl, by kernel_rfl⟩
instance : TyMap Tryz.prog 144 3 185 := ⟨by kernel_rfl⟩
instance : TyScal Tryz.prog 145 := ⟨by kernel_rfl⟩
instance : TyI Tryz.prog 145 1 8 (.map none) := ⟨by kernel_rfl, by kernel_rfl⟩
instance : TyMap Tryz.prog 145 3 189 := ⟨by kernel_rfl⟩
instance : TyI Tryz.prog 147 43 144 (.agg #[.nilIface, .int .u8 0, .int .u8 0, .int .u8 0, .int .u8 0, .int .u8 0, .int .u8 0, .int .u8 0, .int .u8 0, .int .u8 0, .int .u8 0, .int .u8 0, .int .u8 0, .int .u8 0, .int .u8 0, .int .u8 0, .int .u8 0, .int .u8 0, .int .u8 0, .int .u8 0, .int .u8 0, .int .u8 0, .int .u8 0, .int .u8 0, .int .u8 0, .int .u8 0, .int .u8 0, .int .u8 0, .int .u8 0, .int .u8 0, .int .u8 0, .int .u8 0, .int .u8 0, .int .u64 0, .int .i64 0, .int .i64 0, .int .i64 0, .map none, .slice none 0 0, .map none, .int .i64 0, .int .u32 0, .int .i64 0]) := ⟨by kernel_rfl, by kernel_rfl⟩
instance : Fld Tryz.prog 147 0 0 143 := ⟨by kernel_rfl⟩
instance : Fld Tryz.prog 147 1 1 42 := ⟨by kernel_rfl⟩
instance : Fld Tryz.prog 147 2 33 43 := ⟨by kernel_rfl⟩
instance : Fld Tryz.prog 147 3 34 3 := ⟨by kernel_rfl⟩
instance : Fld Tryz.prog 147 4 35 3 := ⟨by kernel_rfl⟩
instance : Fld Tryz.prog 147 5 36 3 := ⟨by kernel_rfl⟩
instance : Fld Tryz.prog 147 6 37 144 := ⟨by kernel_rfl⟩
instance : Fld Tryz.prog 147 7 38 52 := ⟨by kernel_rfl⟩
instance : Fld Tryz.prog 147 8 39 145 := ⟨by kernel_rfl⟩
instance : Fld Tryz.prog 147 9 40 3 := ⟨by kernel_rfl⟩
instance : Fld Tryz.prog 147 10 41 130 := ⟨by kernel_rfl⟩
instance : Fld Tryz.prog 147 11 42 22 := ⟨by kernel_rfl⟩
instance : TyStruct Tryz.prog 147 #[(0, 1), (1, 32), (33, 1), (34, 1), (35, 1), (36, 1), (37, 1), (38, 1), (39, 1), (40, 1), (41, 1), (42, 1)] := ⟨by kernel_rfl⟩
instance : TyAggr Tryz.prog 151 := ⟨by kernel_rfl⟩
instance : TyI Tryz.prog 151 3 24 (.agg #[.int .i64 0, .int .i64 0, .int .i64 0]) := ⟨by kernel_rfl, by kernel_rfl⟩
instance : TyStruct Tryz.prog 151 #[(0, 1), (1, 1), (2, 1)] := ⟨by kernel_rfl⟩
instance : TyAggr Tryz.prog 156 := ⟨by kernel_rfl⟩
instance : TyI Tryz.prog 156 12 12 (.agg #[.int .u8 0, .int .u8 0, .int .u8 0, .int .u8 0, .int .u8 0, .int .u8 0, .int .u8 0, .int .u8 0, .int .u8 0, .int .u8 0, .int .u8 0, .int .u8 0]) := ⟨by kernel_rfl, by kernel_rfl⟩
instance : TyArr Tryz.prog 156 12 5 := ⟨by kernel_rfl⟩
instance : TyAggr Tryz.prog 158 := ⟨by kernel_rfl⟩
instance : TyI Tryz.prog 158 15 40 (.agg #[.int .i64 0, .int .i64 0, .int .i64 0, .int .u8 0, .int .u8 0, .int .u8 0, .int .u8 0, .int .u8 0, .int .u8 0, .int .u8 0, .int .u8 0, .int .u8 0, .int .u8 0, .int .u8 0, .int .u8 0]) := ⟨by kernel_rfl, by kernel_rfl⟩
instance : Fld Tryz.prog 158 1 1 3 := ⟨by kernel_rfl⟩
instance : Fld Tryz.prog 158 2 2 3 := ⟨by kernel_rfl⟩
instance : Fld Tryz.prog 158 3 3 156 := ⟨by kernel_rfl⟩
instance : TyStruct Tryz.prog 158 #[(0, 1), (1, 1), (2, 1), (3, 12)] := ⟨by kernel_rfl⟩
instance : TyAggr Tryz.prog 160 := ⟨by kernel_rfl⟩
instance : TyI Tryz.prog 160 16 16 (.agg #[.int .u8 0, .int .u8 0, .int .u8 0, .int .u8 0, .int .u8 0, .int .u8 0, .int .u8 0, .int .u8 0, .int .u8 0, .int .u8 0, .int .u8 0, .int .u8 0, .int .u8 0, .int .u8 0, .int .u8 0, .int .u8 0]) := ⟨by kernel_rfl, by kernel_rfl⟩
instance : TyArr Tryz.prog 160 16 5 := ⟨by kernel_rfl⟩
instance : TyAggr Tryz.prog 161 := ⟨by kernel_rfl⟩
instance : TyI Tryz.prog 161 16 16 (.agg #[.int .u8 0, .int .u8 0, .int .u8 0, .int .u8 0, .int .u8 0, .int .u8 0, .int .u8 0, .int .u8 0, .int .u8 0, .int .u8 0, .int .u8 0, .int .u8 0, .int .u8 0, .int .u8 0, .int .u8 0, .int .u8 0]) := ⟨by kernel_rfl, by kernel_rfl⟩
instance : TyArr Tryz.prog 161 16 5 := ⟨by kernel_rfl⟩
instance : TyAggr Tryz.prog 163 := ⟨by kernel_rfl⟩
instance : TyI Tryz.prog 163 20 28 (.agg #[.int .u8 0, .int .u8 0, .int .u32 0, .int .u32 0, .int .u8 0, .int .u8 0, .int .u8 0, .int .u8 0, .int .u8 0, .int .u8 0, .int .u8 0, .int .u8 0, .int .u8 0, .int .u8 0, .int .u8 0, .int .u8 0, .int .u8 0, .int .u8 0, .int .u8 0, .int .u8 0]) := ⟨by kernel_rfl, by kernel_rfl⟩
instance : Fld Tryz.prog 163 0 0 5 := ⟨by kernel_rfl⟩
instance : Fld Tryz.prog 163 1 1 5 := ⟨by kernel_rfl⟩
instance : Fld Tryz.prog 163 2 2 130 := ⟨by kernel_rfl⟩
instance : Fld Tryz.prog 163 3 3 130 := ⟨by kernel_rfl⟩
instance : Fld Tryz.prog 163 4 4 161 := ⟨by kernel_rfl⟩
instance : TyStruct Tryz.prog 163 #[(0, 1), (1, 1), (2, 1), (3, 1), (4, 16)] := ⟨by kernel_rfl⟩
instance : TyAggr Tryz.prog 173 := ⟨by kernel_rfl⟩
instance : TyI Tryz.prog 173 2 16 (.agg #[.int .i64 0, .int .i64 0]) := ⟨by kernel_rfl, by kernel_rfl⟩
instance : Fld Tryz.prog 173 0 0 3 := ⟨by kernel_rfl⟩
instance : Fld Tryz.prog 173 1 1 3 := ⟨by kernel_rfl⟩
instance : TyStruct Tryz.prog 173 #[(0, 1), (1, 1)] := ⟨by kernel_rfl⟩
instance : TyI Tryz.prog 185 1 8 (.pointer none) := ⟨by kernel_rfl, by kernel_rfl⟩
instance : TyPtr Tryz.prog 185 187 := ⟨by kernel_rfl⟩
instance : TyI Tryz.prog 187 2 32 (.agg #[.slice none 0 0, .int .i64 0]) := ⟨by kernel_rfl, by kernel_rfl⟩
instance : Fld Tryz.prog 187 0 0 66 := ⟨by kernel_rfl⟩
instance : Fld Tryz.prog 187 1 1 3 := ⟨by kernel_rfl⟩
instance : TyStruct Tryz.prog 187 #[(0, 1), (1, 1)] := ⟨by kernel_rfl⟩
instance : TyAggr Tryz.prog 189 := ⟨by kernel_rfl⟩
instance : TyI Tryz.prog 189 4 24 (.agg #[.int .u64 0, .int .u32 0, .int .u32 0, .int .u32 0]) := ⟨by kernel_rfl, by kernel_rfl⟩
instance : Fld Tryz.prog 189 0 0 43 := ⟨by kernel_rfl⟩
instance : Fld Tryz.prog 189 1 1 130 := ⟨by kernel_rfl⟩
instance : Fld Tryz.prog 189 2 2 130 := ⟨by kernel_rfl⟩
instance : Fld Tryz.prog 189 3 3 130 := ⟨by kernel_rfl⟩
instance : TyStruct Tryz.prog 189 #[(0, 1), (1, 1), (2, 1), (3, 1)] := ⟨by kernel_rfl⟩
instance : TyInt Tryz.prog 196 .u64 := ⟨by kernel_rfl⟩
instance : TyPtr Tryz.prog 245 265 := ⟨by kernel_rfl⟩
instance : TyI Tryz.prog 265 2 32 (.agg #[.slice none 0 0, .int .i64 0]) := ⟨by kernel_rfl, by kernel_rfl⟩
instance : Fld Tryz.prog 265 0 0 66 := ⟨by kernel_rfl⟩
instance : Fld Tryz.prog 265 1 1 22 := ⟨by kernel_rfl⟩
instance : TyStruct Tryz.prog 265 #[(0, 1), (1, 1)] := ⟨by kernel_rfl⟩
instance : TyAggr Tryz.prog 266 := ⟨by kernel_rfl⟩
instance : TyI Tryz.prog 266 16 16 (.agg #[.int .u8 0, .int .u8 0, .int .u8 0, .int .u8 0, .int .u8 0, .int .u8 0, .int .u8 0, .int .u8 0, .int .u8 0, .int .u8 0, .int .u8 0, .int .u8 0, .int .u8 0, .int .u8 0, .int .u8 0, .int .u8 0]) := ⟨by kernel_rfl, by kernel_rfl⟩
instance : TyArr Tryz.prog 266 16 5 := ⟨by kernel_rfl⟩
instance : TyAggr Tryz.prog 285 := ⟨by kernel_rfl⟩
instance : TyI Tryz.prog 285 64 64 (.agg #[.int .u8 0, .int .u8 0, .int .u8 0, .int .u8 0, .int .u8 0, .int .u8 0, .int .u8 0, .int .u8 0, .int .u8 0, .int .u8 0, .int .u8 0, .int .u8 0, .int .u8 0, .int .u8 0, .int .u8 0, .int .u8 0, .int .u8 0, .int .u8 0, .int .u8 0, .int .u8 0, .int .u8 0, .int .u8 0, .int .u8 0, .int .u8 0, .int .u8 0, .int .u8 0, .int .u8 0, .int .u8 0, .int .u8 0, .int .u8 0, .int .u8 0, .int .u8 0, .int .u8 0, .int .u8 0, .int .u8 0, .int .u8 0, .int .u8 0, .int .u8 0, .int .u8 0, .int .u8 0, .int .u8 0, .int .u8 0, .int .u8 0, .int .u8 0, .int .u8 0, .int .u8 0, .int .u8 0, .int .u8 0, .int .u8 0, .int .u8 0, .int .u8 0, .int .u8 0, .int .u8 0, .int .u8 0, .int .u8 0, .int .u8 0, .int .u8 0, .int .u8 0, .int .u8 0, .int .u8 0, .int .u8 0, .int .u8 0, .int .u8 0, .int .u8 0]) := ⟨by kernel_rfl, by kernel_rfl⟩
instance : TyArr Tryz.prog 285 64 5 := ⟨by kernel_rfl⟩
instance : TyPtr Tryz.prog 287 320 := ⟨by kernel_rfl⟩
instance : TyPtr Tryz.prog 292 327 := ⟨by kernel_rfl⟩
instance : TyAggr Tryz.prog 314 := ⟨by kernel_rfl⟩
instance : TyI Tryz.prog 314 16 64 (.agg #[.int .u32 0, .int .u32 0, .int .u32 0, .int .u32 0, .int .u32 0, .int .u32 0, .int .u32 0, .int .u32 0, .int .u32 0, .int .u32 0, .int .u32 0, .int .u32 0, .int .u32 0, .int .u32 0, .int .u32 0, .int .u32 0]) := ⟨by kernel_rfl, by kernel_rfl⟩
instance : TyArr Tryz.prog 314 16 130 := ⟨by kernel_rfl⟩
instance : TyAggr Tryz.prog 317 := ⟨by kernel_rfl⟩
instance : TyI Tryz.prog 317 2 16 (.agg #[.int .u64 0, .int .u64 0]) := ⟨by kernel_rfl, by kernel_rfl⟩
instance : TyArr Tryz.prog 317 2 43 := ⟨by kernel_rfl⟩
instance : TyAggr Tryz.prog 318 := ⟨by kernel_rfl⟩
instance : TyI Tryz.prog 318 3 24 (.agg #[.int .u64 0, .int .u64 0, .int .u64 0]) := ⟨by kernel_rfl, by kernel_rfl⟩
instance : TyArr Tryz.prog 318 3 43 := ⟨by kernel_rfl⟩
instance : TyAggr Tryz.prog 320 := ⟨by kernel_rfl⟩
instance : TyI Tryz.prog 320 24 80 (.agg #[.int .u64 0, .int .u64 0, .int .u64 0, .int .u64 0, .int .u64 0, .int .u64 0, .int .u64 0, .int .u8 0, .int .u8 0, .int .u8 0, .int .u8 0, .int .u8 0, .int .u8 0, .int .u8 0, .int .u8 0, .int .u8 0, .int .u8 0, .int .u8 0, .int .u8 0, .int .u8 0, .int .u8 0, .int .u8 0, .int .u8 0, .int .i64 0]) := ⟨by kernel_rfl, by kernel_rfl⟩
instance : Fld Tryz.prog 320 0 0 317 := ⟨by kernel_rfl⟩
instance : Fld Tryz.prog 320 1 2 317 := ⟨by kernel_rfl⟩
instance : Fld Tryz.prog 320 2 4 318 := ⟨by kernel_rfl⟩
instance : Fld Tryz.prog 320 3 7 160 := ⟨by kernel_rfl⟩
instance : Fld Tryz.prog 320 4 23 3 := ⟨by kernel_rfl⟩
instance : TyStruct Tryz.prog 320 #[(0, 2), (2, 2), (4, 3), (7, 16), (23, 1)] := ⟨by kernel_rfl⟩
instance : TyAggr Tryz.prog 322 := ⟨by kernel_rfl⟩
instance : TyI Tryz.prog 322 8 8 (.agg #[.int .u8 0, .int .u8 0, .int .u8 0, .int .u8 0, .int .u8 0, .int .u8 0, .int .u8 0, .int .u8 0]) := ⟨by kernel_rfl, by kernel_rfl⟩
instance : TyArr Tryz.prog 322 8 5 := ⟨by kernel_rfl⟩
instance : TyI Tryz.prog 327 45 56 (.agg #[.int .u8 0, .int .u8 0, .int .u8 0, .int .u8 0, .int .u8 0, .int .u8 0, .int .u8 0, .int .u8 0, .int .u8 0, .int .u8 0, .int .u8 0, .int .u8 0, .int .u8 0, .int .u8 0, .int .u8 0, .int .u8 0, .int .u8 0, .int .u8 0, .int .u8 0, .int .u8 0, .int .u8 0, .int .u8 0, .int .u8 0, .int .u8 0, .int .u8 0, .int .u8 0, .int .u8 0, .int .u8 0, .int .u8 0, .int .u8 0, .int .u8 0, .int .u8 0, .int .u8 0, .int .u8 0, .int .u8 0, .int .u8 0, .int .u8 0, .int .u8 0, .int .u8 0, .int .u8 0, .int .u8 0, .int .u8 0, .int .u8 0, .int .u8 0, .int .u64 0]) := ⟨by kernel_rfl, by kernel_rfl⟩
instance : Fld Tryz.prog 327 0 0 42 := ⟨by kernel_rfl⟩
instance : Fld Tryz.prog 327 1 32 156 := ⟨by kernel_rfl⟩
instance : Fld Tryz.prog 327 2 44 43 := ⟨by kernel_rfl⟩
instance : TyStruct Tryz.prog 327 #[(0, 32), (32, 12), (44, 1)] := ⟨by kernel_rfl⟩
instance : TyAggr Tryz.prog 348 := ⟨by kernel_rfl⟩
instance : TyI Tryz.prog 348 2 16 (.agg #[.int .u64 0, .int .u64 0]) := ⟨by kernel_rfl, by kernel_rfl⟩
instance : Fld Tryz.prog 348 0 0 43 := ⟨by kernel_rfl⟩
instance : Fld Tryz.prog 348 1 1 43 := ⟨by kernel_rfl⟩
instance : TyStruct Tryz.prog 348 #[(0, 1), (1, 1)] := ⟨by kernel_rfl⟩
end Go.Sl
namespace Go.Sl
open Go Go.Proofs
instance : TyBA Tryz.prog 42 32 := ⟨⟨5, by kernel_rfl, by kernel_rfl, by kernel_rfl⟩, by kernel_rfl, by kernel_rfl, by kernel_rfl⟩
end Go.Sl
namespace Go.Sl
open Go Go.Proofs Go.ChangeShapes Go.WideShapes Go.ChangeAt Go.RowKit
structure SoFaultV where
  at_ : Int
  kind_ : Int
  page_ : Int
  byte_ : Int
  by_ : BitVec 8
  back_ : Int
def SoFaultV.cells (x : SoFaultV) : List Value := [.int .i64 x.at_] ++ ([.int .i64 x.kind_] ++ ([.int .i64 x.page_] ++ ([.int .i64 x.byte_] ++ ([u8b x.by_] ++ ([.int .i64 x.back_])))))
structure SoFaultVOk (w : World) (x : SoFaultV) : Prop where
  triv : True
  at_ : -9223372036854775808 ≤ x.at_ ∧ x.at_ ≤ 9223372036854775807
  kind_ : -9223372036854775808 ≤ x.kind_ ∧ x.kind_ ≤ 9223372036854775807
  page_ : -9223372036854775808 ≤ x.page_ ∧ x.page_ ≤ 9223372036854775807
  byte_ : -9223372036854775808 ≤ x.byte_ ∧ x.byte_ ≤ 9223372036854775807
  back_ : -9223372036854775808 ≤ x.back_ ∧ x.back_ ≤ 9223372036854775807
theorem SoFaultV.len {w : World} {x : SoFaultV} (h : SoFaultVOk w x) : x.cells.length = 6 := by
  simp [SoFaultV.cells]
section
variable {H : Type} {enc : TypeId × Value → H} {w : World} {base : Nat} {spare : Nat → Bool} {held : Bool}
theorem open_SoFaultV {n : Nat} {cs : List Value} {y : DataW H × List MemPlace} (h : DataW.trod enc Tryz.prog w base spare held n 119 cs = some y) (hs : Small Tryz.prog 119 y.1) : ∃ x : SoFaultV, cs = x.cells ∧ SoFaultVOk w x := by
  obtain ⟨xs, m, _, hx, hl, hn, hf⟩ := DataW.trod_struct Tryz.underlying119 h
  rw [show Tryz.prog.cellsOf 119 = 6 by kernel_rfl] at hl
  have hn : xs.length = 6 := hn
  have g : ∀ i (hi : i < xs.length), xs[i]? = some xs[i] := fun i hi => List.getElem?_eq_getElem hi
  rw [hx] at hs
  have e0 : DataW.trod enc Tryz.prog w base spare held m 3 ((cs.drop 0).take (Tryz.prog.cellsOf 3)) = some (xs[0]'(by omega)) := (hf 0 _ rfl).trans (g 0 (by omega))
  rw [show Tryz.prog.cellsOf 3 = 1 by kernel_rfl] at e0
  obtain ⟨n0, c0, _, wf0⟩ := DataW.trod_int Tryz.underlying3 e0
  have e1 : DataW.trod enc Tryz.prog w base spare held m 3 ((cs.drop 1).take (Tryz.prog.cellsOf 3)) = some (xs[1]'(by omega)) := (hf 1 _ rfl).trans (g 1 (by omega))
  rw [show Tryz.prog.cellsOf 3 = 1 by kernel_rfl] at e1
  obtain ⟨n1, c1, _, wf1⟩ := DataW.trod_int Tryz.underlying3 e1
  have e2 : DataW.trod enc Tryz.prog w base spare held m 3 ((cs.drop 2).take (Tryz.prog.cellsOf 3)) = some (xs[2]'(by omega)) := (hf 2 _ rfl).trans (g 2 (by omega))
  rw [show Tryz.prog.cellsOf 3 = 1 by kernel_rfl] at e2
  obtain ⟨n2, c2, _, wf2⟩ := DataW.trod_int Tryz.underlying3 e2
  have e3 : DataW.trod enc Tryz.prog w base spare held m 3 ((cs.drop 3).take (Tryz.prog.cellsOf 3)) = some (xs[3]'(by omega)) := (hf 3 _ rfl).trans (g 3 (by omega))
  rw [show Tryz.prog.cellsOf 3 = 1 by kernel_rfl] at e3
  obtain ⟨n3, c3, _, wf3⟩ := DataW.trod_int Tryz.underlying3 e3
  have e4 : DataW.trod enc Tryz.prog w base spare held m 5 ((cs.drop 4).take (Tryz.prog.cellsOf 5)) = some (xs[4]'(by omega)) := (hf 4 _ rfl).trans (g 4 (by omega))
  rw [show Tryz.prog.cellsOf 5 = 1 by kernel_rfl] at e4
  obtain ⟨n4, c4, _, wf4⟩ := DataW.trod_int Tryz.underlying5 e4
  obtain ⟨b4, hb4⟩ := u8_of wf4
  rw [hb4] at c4
  have e5 : DataW.trod enc Tryz.prog w base spare held m 3 ((cs.drop 5).take (Tryz.prog.cellsOf 3)) = some (xs[5]'(by omega)) := (hf 5 _ rfl).trans (g 5 (by omega))
  rw [show Tryz.prog.cellsOf 3 = 1 by kernel_rfl] at e5
  obtain ⟨n5, c5, _, wf5⟩ := DataW.trod_int Tryz.underlying3 e5
  refine ⟨⟨n0, n1, n2, n3, b4, n5⟩, ?_, ⟨trivial, i64_of wf0, i64_of wf1, i64_of wf2, i64_of wf3, i64_of wf5⟩⟩
  have d0 : cs.drop 0 = (cs.drop 0).take 1 ++ cs.drop 1 := by
    have := (List.take_append_drop 1 (cs.drop 0)).symm
    rwa [List.drop_drop] at this
  have d1 : cs.drop 1 = (cs.drop 1).take 1 ++ cs.drop 2 := by
    have := (List.take_append_drop 1 (cs.drop 1)).symm
    rwa [List.drop_drop] at this
  have d2 : cs.drop 2 = (cs.drop 2).take 1 ++ cs.drop 3 := by
    have := (List.take_append_drop 1 (cs.drop 2)).symm
    rwa [List.drop_drop] at this
  have d3 : cs.drop 3 = (cs.drop 3).take 1 ++ cs.drop 4 := by
    have := (List.take_append_drop 1 (cs.drop 3)).symm
    rwa [List.drop_drop] at this
  have d4 : cs.drop 4 = (cs.drop 4).take 1 ++ cs.drop 5 := by
    have := (List.take_append_drop 1 (cs.drop 4)).symm
    rwa [List.drop_drop] at this
  have d5 : cs.drop 5 = (cs.drop 5).take 1 := by rw [List.take_of_length_le (by simp; omega)]
  show cs = _ ++ (_ ++ (_ ++ (_ ++ (_ ++ (_)))))
  have dz : cs = cs.drop 0 := rfl
  rw [dz, d0, d1, d2, d3, d4, d5, c0, c1, c2, c3, c4, c5] <;> rfl
end
structure InSoFaultV (W : World) (v : Value) (l : List SoFaultV) : Prop where
  sl : SlW W 6 v l.length (l.flatMap SoFaultV.cells)
  sh : ∃ a c, v = .slice a l.length c ∧ l.length ≤ c ∧ c ≤ 9223372036854775807
  el : ∀ x ∈ l, SoFaultVOk W x
  len : l.length * 48 ≤ 140737488351232
abbrev SoFaultVS (w : World) := {x : SoFaultV // SoFaultVOk w x}
section
variable {H : Type} {enc : TypeId × Value → H} {w : World} {base : Nat} {spare : Nat → Bool} {held : Bool}
theorem opens_SoFaultV {n : Nat} {cs : List Value} {y : DataW H × List MemPlace} (h : DataW.trod enc Tryz.prog w base spare held n 58 cs = some y) (hs : Small Tryz.prog 58 y.1) : ∃ (v : Value) (l : List SoFaultV), cs = [v] ∧ InSoFaultV w v l := by
  obtain ⟨v, l, h1, h2, h3, h4⟩ := open_sls (encd := fun x : SoFaultVS w => x.1.cells) (good := fun _ => True) Tryz.underlying58 (by kernel_rfl) (by decide) (by kernel_rfl : Tryz.prog.bytesOf 119 = 48) (fun x => SoFaultV.len x.2) (fun n cs y hy hsm => by
    obtain ⟨x, hx, ok⟩ := open_SoFaultV hy hsm
    exact ⟨⟨x, ok⟩, hx, trivial⟩) h hs
  obtain ⟨a, len, cap, h5, h6, h7⟩ := slice_shape Tryz.underlying58 h
  rw [h1] at h5
  simp only [List.cons.injEq, and_true] at h5
  obtain ⟨a', k', hv⟩ := h2.len
  rw [h5] at hv
  simp only [Value.slice.injEq] at hv
  obtain ⟨rfl, rfl, rfl⟩ := hv
  have e : (l.map (·.1)).flatMap SoFaultV.cells = l.flatMap fun x => x.1.cells := by rw [List.flatMap_map]
  refine ⟨v, l.map (·.1), h1, ⟨?_, ?_, ?_, ?_⟩⟩
  · rw [e, List.length_map]; exact h2
  · rw [List.length_map]; exact ⟨_, _, h5, h6, h7⟩
  · intro x hx
    obtain ⟨z, _, rfl⟩ := List.mem_map.1 hx
    exact z.2
  · rw [List.length_map]; exact h4
end
structure SoStepV where
  do_ : Int
  n_ : Int
  order_ : Int
def SoStepV.cells (x : SoStepV) : List Value := [.int .i64 x.do_] ++ ([.int .i64 x.n_] ++ ([.int .i64 x.order_]))
structure SoStepVOk (w : World) (x : SoStepV) : Prop where
  triv : True
  do_ : -9223372036854775808 ≤ x.do_ ∧ x.do_ ≤ 9223372036854775807
  n_ : -9223372036854775808 ≤ x.n_ ∧ x.n_ ≤ 9223372036854775807
  order_ : -9223372036854775808 ≤ x.order_ ∧ x.order_ ≤ 9223372036854775807
theorem SoStepV.len {w : World} {x : SoStepV} (h : SoStepVOk w x) : x.cells.length = 3 := by
  simp [SoStepV.cells]
section
variable {H : Type} {enc : TypeId × Value → H} {w : World} {base : Nat} {spare : Nat → Bool} {held : Bool}
theorem open_SoStepV {n : Nat} {cs : List Value} {y : DataW H × List MemPlace} (h : DataW.trod enc Tryz.prog w base spare held n 110 cs = some y) (hs : Small Tryz.prog 110 y.1) : ∃ x : SoStepV, cs = x.cells ∧ SoStepVOk w x := by
  obtain ⟨xs, m, _, hx, hl, hn, hf⟩ := DataW.trod_struct Tryz.underlying110 h
  rw [show Tryz.prog.cellsOf 110 = 3 by kernel_rfl] at hl
  have hn : xs.length = 3 := hn
  have g : ∀ i (hi : i < xs.length), xs[i]? = some xs[i] := fun i hi => List.getElem?_eq_getElem hi
  rw [hx] at hs
  have e0 : DataW.trod enc Tryz.prog w base spare held m 3 ((cs.drop 0).take (Tryz.prog.cellsOf 3)) = some (xs[0]'(by omega)) := (hf 0 _ rfl).trans (g 0 (by omega))
  rw [show Tryz.prog.cellsOf 3 = 1 by kernel_rfl] at e0
  obtain ⟨n0, c0, _, wf0⟩ := DataW.trod_int Tryz.underlying3 e0
  have e1 : DataW.trod enc Tryz.prog w base spare held m 3 ((cs.drop 1).take (Tryz.prog.cellsOf 3)) = some (xs[1]'(by omega)) := (hf 1 _ rfl).trans (g 1 (by omega))
  rw [show Tryz.prog.cellsOf 3 = 1 by kernel_rfl] at e1
  obtain ⟨n1, c1, _, wf1⟩ := DataW.trod_int Tryz.underlying3 e1
  have e2 : DataW.trod enc Tryz.prog w base spare held m 3 ((cs.drop 2).take (Tryz.prog.cellsOf 3)) = some (xs[2]'(by omega)) := (hf 2 _ rfl).trans (g 2 (by omega))
  rw [show Tryz.prog.cellsOf 3 = 1 by kernel_rfl] at e2
  obtain ⟨n2, c2, _, wf2⟩ := DataW.trod_int Tryz.underlying3 e2
  refine ⟨⟨n0, n1, n2⟩, ?_, ⟨trivial, i64_of wf0, i64_of wf1, i64_of wf2⟩⟩
  have d0 : cs.drop 0 = (cs.drop 0).take 1 ++ cs.drop 1 := by
    have := (List.take_append_drop 1 (cs.drop 0)).symm
    rwa [List.drop_drop] at this
  have d1 : cs.drop 1 = (cs.drop 1).take 1 ++ cs.drop 2 := by
    have := (List.take_append_drop 1 (cs.drop 1)).symm
    rwa [List.drop_drop] at this
  have d2 : cs.drop 2 = (cs.drop 2).take 1 := by rw [List.take_of_length_le (by simp; omega)]
  show cs = _ ++ (_ ++ (_))
  have dz : cs = cs.drop 0 := rfl
  rw [dz, d0, d1, d2, c0, c1, c2] <;> rfl
end
structure InSoStepV (W : World) (v : Value) (l : List SoStepV) : Prop where
  sl : SlW W 3 v l.length (l.flatMap SoStepV.cells)
  sh : ∃ a c, v = .slice a l.length c ∧ l.length ≤ c ∧ c ≤ 9223372036854775807
  el : ∀ x ∈ l, SoStepVOk W x
  len : l.length * 24 ≤ 140737488351232
abbrev SoStepVS (w : World) := {x : SoStepV // SoStepVOk w x}
section
variable {H : Type} {enc : TypeId × Value → H} {w : World} {base : Nat} {spare : Nat → Bool} {held : Bool}
theorem opens_SoStepV {n : Nat} {cs : List Value} {y : DataW H × List MemPlace} (h : DataW.trod enc Tryz.prog w base spare held n 82 cs = some y) (hs : Small Tryz.prog 82 y.1) : ∃ (v : Value) (l : List SoStepV), cs = [v] ∧ InSoStepV w v l := by
  obtain ⟨v, l, h1, h2, h3, h4⟩ := open_sls (encd := fun x : SoStepVS w => x.1.cells) (good := fun _ => True) Tryz.underlying82 (by kernel_rfl) (by decide) (by kernel_rfl : Tryz.prog.bytesOf 110 = 24) (fun x => SoStepV.len x.2) (fun n cs y hy hsm => by
    obtain ⟨x, hx, ok⟩ := open_SoStepV hy hsm
    exact ⟨⟨x, ok⟩, hx, trivial⟩) h hs
  obtain ⟨a, len, cap, h5, h6, h7⟩ := slice_shape Tryz.underlying82 h
  rw [h1] at h5
  simp only [List.cons.injEq, and_true] at h5
  obtain ⟨a', k', hv⟩ := h2.len
  rw [h5] at hv
  simp only [Value.slice.injEq] at hv
  obtain ⟨rfl, rfl, rfl⟩ := hv
  have e : (l.map (·.1)).flatMap SoStepV.cells = l.flatMap fun x => x.1.cells := by rw [List.flatMap_map]
  refine ⟨v, l.map (·.1), h1, ⟨?_, ?_, ?_, ?_⟩⟩
  · rw [e, List.length_map]; exact h2
  · rw [List.length_map]; exact ⟨_, _, h5, h6, h7⟩
  · intro x hx
    obtain ⟨z, _, rfl⟩ := List.mem_map.1 hx
    exact z.2
  · rw [List.length_map]; exact h4
end
structure SoWorldV where
  size_ : Int
  text_ : Int
  window_ : Int
  key_ : List Byte
  round_ : BitVec 64
  faults_V : Value
  faults_ : List SoFaultV
  rows_V : Value
  rows_ : List (Value × List Byte)
  script_V : Value
  script_ : List SoStepV
def SoWorldV.cells (x : SoWorldV) : List Value := [.int .i64 x.size_] ++ ([.int .i64 x.text_] ++ ([.int .i64 x.window_] ++ (x.key_.map u8b ++ ([u64b x.round_] ++ ([x.faults_V] ++ ([x.rows_V] ++ ([x.script_V])))))))
structure SoWorldVOk (w : World) (x : SoWorldV) : Prop where
  triv : True
  size_ : -9223372036854775808 ≤ x.size_ ∧ x.size_ ≤ 9223372036854775807
  text_ : -9223372036854775808 ≤ x.text_ ∧ x.text_ ≤ 9223372036854775807
  window_ : -9223372036854775808 ≤ x.window_ ∧ x.window_ ≤ 9223372036854775807
  key_ : x.key_.length = 32
  faults_ : InSoFaultV w x.faults_V x.faults_
  rows_ : InR w x.rows_V x.rows_
  script_ : InSoStepV w x.script_V x.script_
section
variable {H : Type} {enc : TypeId × Value → H} {w : World} {base : Nat} {spare : Nat → Bool} {held : Bool}
theorem open_SoWorldV {n : Nat} {cs : List Value} {y : DataW H × List MemPlace} (h : DataW.trod enc Tryz.prog w base spare held n 84 cs = some y) (hs : Small Tryz.prog 84 y.1) : ∃ x : SoWorldV, cs = x.cells ∧ SoWorldVOk w x := by
  obtain ⟨xs, m, _, hx, hl, hn, hf⟩ := DataW.trod_struct Tryz.underlying84 h
  rw [show Tryz.prog.cellsOf 84 = 39 by kernel_rfl] at hl
  have hn : xs.length = 8 := hn
  have g : ∀ i (hi : i < xs.length), xs[i]? = some xs[i] := fun i hi => List.getElem?_eq_getElem hi
  rw [hx] at hs
  have e0 : DataW.trod enc Tryz.prog w base spare held m 3 ((cs.drop 0).take (Tryz.prog.cellsOf 3)) = some (xs[0]'(by omega)) := (hf 0 _ rfl).trans (g 0 (by omega))
  rw [show Tryz.prog.cellsOf 3 = 1 by kernel_rfl] at e0
  obtain ⟨n0, c0, _, wf0⟩ := DataW.trod_int Tryz.underlying3 e0
  have e1 : DataW.trod enc Tryz.prog w base spare held m 3 ((cs.drop 1).take (Tryz.prog.cellsOf 3)) = some (xs[1]'(by omega)) := (hf 1 _ rfl).trans (g 1 (by omega))
  rw [show Tryz.prog.cellsOf 3 = 1 by kernel_rfl] at e1
  obtain ⟨n1, c1, _, wf1⟩ := DataW.trod_int Tryz.underlying3 e1
  have e2 : DataW.trod enc Tryz.prog w base spare held m 3 ((cs.drop 2).take (Tryz.prog.cellsOf 3)) = some (xs[2]'(by omega)) := (hf 2 _ rfl).trans (g 2 (by omega))
  rw [show Tryz.prog.cellsOf 3 = 1 by kernel_rfl] at e2
  obtain ⟨n2, c2, _, wf2⟩ := DataW.trod_int Tryz.underlying3 e2
  have e3 : DataW.trod enc Tryz.prog w base spare held m 42 ((cs.drop 3).take (Tryz.prog.cellsOf 42)) = some (xs[3]'(by omega)) := (hf 3 _ rfl).trans (g 3 (by omega))
  rw [show Tryz.prog.cellsOf 42 = 32 by kernel_rfl] at e3
  obtain ⟨l3, c3, ok3⟩ := open_ba e3
  have e4 : DataW.trod enc Tryz.prog w base spare held m 43 ((cs.drop 35).take (Tryz.prog.cellsOf 43)) = some (xs[4]'(by omega)) := (hf 4 _ rfl).trans (g 4 (by omega))
  rw [show Tryz.prog.cellsOf 43 = 1 by kernel_rfl] at e4
  obtain ⟨n4, c4, _, wf4⟩ := DataW.trod_int Tryz.underlying43 e4
  obtain ⟨b4, hb4⟩ := u64_of wf4
  rw [hb4] at c4
  have e5 : DataW.trod enc Tryz.prog w base spare held m 58 ((cs.drop 36).take (Tryz.prog.cellsOf 58)) = some (xs[5]'(by omega)) := (hf 5 _ rfl).trans (g 5 (by omega))
  rw [show Tryz.prog.cellsOf 58 = 1 by kernel_rfl] at e5
  have hs5 := Small.part (j := 5) Tryz.underlying84 hs rfl (by rw [List.getElem?_map, g 5 (by omega)]; rfl)
  obtain ⟨v5, l5, c5, ok5⟩ := opens_SoFaultV e5 hs5
  have e6 : DataW.trod enc Tryz.prog w base spare held m 65 ((cs.drop 37).take (Tryz.prog.cellsOf 65)) = some (xs[6]'(by omega)) := (hf 6 _ rfl).trans (g 6 (by omega))
  rw [show Tryz.prog.cellsOf 65 = 1 by kernel_rfl] at e6
  have hs6 := Small.part (j := 6) Tryz.underlying84 hs rfl (by rw [List.getElem?_map, g 6 (by omega)]; rfl)
  obtain ⟨v6, l6, c6, ok6⟩ := open_rs Tryz.underlying65 (by kernel_rfl) (by kernel_rfl) Tryz.underlying66 Tryz.underlying5 (by kernel_rfl) (by kernel_rfl) e6 hs6
  have e7 : DataW.trod enc Tryz.prog w base spare held m 82 ((cs.drop 38).take (Tryz.prog.cellsOf 82)) = some (xs[7]'(by omega)) := (hf 7 _ rfl).trans (g 7 (by omega))
  rw [show Tryz.prog.cellsOf 82 = 1 by kernel_rfl] at e7
  have hs7 := Small.part (j := 7) Tryz.underlying84 hs rfl (by rw [List.getElem?_map, g 7 (by omega)]; rfl)
  obtain ⟨v7, l7, c7, ok7⟩ := opens_SoStepV e7 hs7
  refine ⟨⟨n0, n1, n2, l3, b4, v5, l5, v6, l6, v7, l7⟩, ?_, ⟨trivial, i64_of wf0, i64_of wf1, i64_of wf2, ok3, ok5, ok6, ok7⟩⟩
  have d0 : cs.drop 0 = (cs.drop 0).take 1 ++ cs.drop 1 := by
    have := (List.take_append_drop 1 (cs.drop 0)).symm
    rwa [List.drop_drop] at this
  have d1 : cs.drop 1 = (cs.drop 1).take 1 ++ cs.drop 2 := by
    have := (List.take_append_drop 1 (cs.drop 1)).symm
    rwa [List.drop_drop] at this
  have d2 : cs.drop 2 = (cs.drop 2).take 1 ++ cs.drop 3 := by
    have := (List.take_append_drop 1 (cs.drop 2)).symm
    rwa [List.drop_drop] at this
  have d3 : cs.drop 3 = (cs.drop 3).take 32 ++ cs.drop 35 := by
    have := (List.take_append_drop 32 (cs.drop 3)).symm
    rwa [List.drop_drop] at this
  have d4 : cs.drop 35 = (cs.drop 35).take 1 ++ cs.drop 36 := by
    have := (List.take_append_drop 1 (cs.drop 35)).symm
    rwa [List.drop_drop] at this
  have d5 : cs.drop 36 = (cs.drop 36).take 1 ++ cs.drop 37 := by
    have := (List.take_append_drop 1 (cs.drop 36)).symm
    rwa [List.drop_drop] at this
  have d6 : cs.drop 37 = (cs.drop 37).take 1 ++ cs.drop 38 := by
    have := (List.take_append_drop 1 (cs.drop 37)).symm
    rwa [List.drop_drop] at this
  have d7 : cs.drop 38 = (cs.drop 38).take 1 := by rw [List.take_of_length_le (by simp; omega)]
  show cs = _ ++ (_ ++ (_ ++ (_ ++ (_ ++ (_ ++ (_ ++ (_)))))))
  have dz : cs = cs.drop 0 := rfl
  rw [dz, d0, d1, d2, d3, d4, d5, d6, d7, c0, c1, c2, c3, c4, c5, c6, c7] <;> rfl
end
end Go.Sl
namespace Go.Sl
open Go
def withinN (a : Int) (n : Nat) : Nat := (if a.tmod n < 0 then a.tmod n + n else a.tmod n).toNat
theorem within_is (a : Int) {n : Nat} (hn : 1 ≤ n) : withinN a n < n ∧ (a.tmod n < 0 → a.tmod n + n = withinN a n) ∧ (¬ a.tmod n < 0 → a.tmod n = withinN a n) := by
  have h1 := Int.lt_tmod_of_pos a (b := (n : Int)) (by omega)
  have h2 := Int.tmod_lt_of_pos a (b := (n : Int)) (by omega)
  unfold withinN
  by_cases h : a.tmod n < 0
  · rw [if_pos h]
    exact ⟨by omega, fun _ => by omega, fun hh => absurd h hh⟩
  · rw [if_neg h]
    exact ⟨by omega, fun hh => absurd hh h, fun _ => by omega⟩
def sizedTo (b : List Byte) (n m : Nat) : List Byte := (List.range n).map fun k => if k < m then b.getD k 0#8 else 0#8
theorem sizedTo_len (b : List Byte) (n m : Nat) : (sizedTo b n m).length = n := by simp [sizedTo]
theorem sizedTo_zero (b : List Byte) (n : Nat) : sizedTo b n 0 = List.replicate n 0#8 := by
  apply List.ext_getElem (by simp [sizedTo]); intro j h1 h2; simp [sizedTo]
theorem sizedTo_set {b : List Byte} {n m : Nat} (hb : m < b.length) (h : m < n) : (sizedTo b n m).set m b[m] = sizedTo b n (m + 1) := by
  apply List.ext_getElem (by simp [sizedTo])
  intro j h1 h2
  rw [List.getElem_set]
  simp only [sizedTo, List.getElem_map, List.getElem_range]
  by_cases e : m = j
  · subst e
    rw [if_pos rfl, if_pos (by omega), List.getD_eq_getElem?_getD, List.getElem?_eq_getElem hb]; rfl
  · rw [if_neg e]
    by_cases e2 : j < m
    · rw [if_pos e2, if_pos (by omega)]
    · rw [if_neg e2, if_neg (by omega)]
def sizedB (b : List Byte) (n : Nat) : List Byte := sizedTo b n (min n b.length)
theorem sizedB_len (b : List Byte) (n : Nat) : (sizedB b n).length = n := sizedTo_len _ _ _
end Go.Sl
namespace Go.Sl
open Go Go.Proofs Go.RowKit Go.Shelf
attribute [local go_sem] Oper.semAt_some
end Go.Sl
namespace Go.Proofs
open Go.Shelf
end Go.Proofs
namespace Go.Sl
open Go
theorem Bs.take {M : List Asrt} {b o c n : Nat} {l : List Byte} (h : Bs M (.slice (Option.some ⟨b, o, none⟩) l.length c) l) (hn : n ≤ l.length) : Bs M (.slice (Option.some ⟨b, o, none⟩) n c) (l.take n) := by
  have e : (l.take n).length = n := by simp; omega
  refine ⟨?_, ?_⟩
  · rw [e]
    intro w0 F w H
    obtain ⟨h1, h2⟩ := h.rd w0 F w H
    refine ⟨by simp; omega, ?_⟩
    rcases h2 with ⟨a, k, _, h0⟩|⟨b', o', k, cc, E, fr, hv, hb, hle, hx⟩
    · exact .inl ⟨_, _, rfl, by omega⟩
    · simp only [Value.slice.injEq, Option.some.injEq, Addr.mk.injEq] at hv
      obtain ⟨⟨rfl, rfl, _⟩, _, rfl⟩ := hv
      refine .inr ⟨b, o, c, cc, E, fr, rfl, hb, by omega, ?_⟩
      rw [List.map_take, ← hx]
      simp only [Array.toList_extract, List.extract_eq_take_drop, List.take_take]
      congr 1; omega
  · intro w0 F w H
    obtain ⟨a, c', hv, h1, h2⟩ := h.sh w0 F w H
    simp only [Value.slice.injEq] at hv
    obtain ⟨_, _, rfl⟩ := hv
    exact ⟨_, _, by rw [e], by omega, h2⟩
end Go.Sl
namespace Go.Sl
open Go
theorem Zm9 {P : Program} {ρ : Env} {x : Operand} {S E by' bb n : Nat} {z : Value} {lo hi : Option Operand} {l h : Nat} [hs : TyArr P S n E] [hi' : TyI P E 1 by' z] (hx : ev ρ x = .pointer (some ⟨bb, 0, none⟩))
    (hl : optB ρ 0 lo = some (l : Int)) (hh : optB ρ n hi = some (h : Int)) (hle : l ≤ h := by first|omega|exact Nat.le_of_ble_eq_true rfl|(simp; done)|(simp; omega)|decide) (hc : h ≤ n := by first|omega|exact Nat.le_of_ble_eq_true rfl|(simp; done)|(simp; omega)|decide) (hn : l < n := by first|omega|exact Nat.le_of_ble_eq_true rfl|(simp; done)|(simp; omega)|decide) : PV P (.slice S x lo hi none) ρ (.slice (some ⟨bb, l, none⟩) (h - l) (n - l)) := by
  have := Zmx (P := P) (S := S) hx hl hh hle hc hn
  rwa [Nat.zero_add] at this
theorem Zna {P : Program} {ρ : Env} {x : Operand} {S E by' bb n c : Nat} {z : Value} {lo hi : Option Operand} {l h : Nat} [hs : TySlice P S E] [hi' : TyI P E 1 by' z] (hx : ev ρ x = .slice (some ⟨bb, 0, none⟩) n c)
    (hl : optB ρ 0 lo = some (l : Int)) (hh : optB ρ n hi = some (h : Int)) (hle : l ≤ h := by first|omega|exact Nat.le_of_ble_eq_true rfl|(simp; done)|(simp; omega)|decide) (hc : h ≤ c := by first|omega|exact Nat.le_of_ble_eq_true rfl|(simp; done)|(simp; omega)|decide) (hn : l < c := by first|omega|exact Nat.le_of_ble_eq_true rfl|(simp; done)|(simp; omega)|decide) : PV P (.slice S x lo hi none) ρ (.slice (some ⟨bb, l, none⟩) (h - l) (c - l)) := by
  have := Zmz (P := P) (S := S) hx hl hh hle hc hn
  rwa [Nat.zero_add] at this
theorem Znb {P : Program} {ρ : Env} {x y : Operand} {k : IntKind} {S n E by' i : Nat} {z v : Value} {cs : Array Value} [hs : TyArr P S n E] [he : TyScal P E] [hi : TyI P E 1 by' z] (hx : ev ρ x = .agg cs) (hy : ev ρ y = .int k (i : Int)) (hv : cs[i]? = some v) (h : i < n := by first|omega|exact Nat.le_of_ble_eq_true rfl|(simp; done)|(simp; omega)|decide) : PV P (.index S x y) ρ v :=
  Zcn hx hy ⟨by omega, by omega⟩ (by simpa using hv)
theorem fill_part {pl : Nat → Option (Nat × Nat)} {z z' cs : Array Value} {i o n : Nat} {v : Value} {rest : List (Nat × Value)} (hp : pl i = some (o, n)) (hv : v.cells.size = n) (hz : o + n ≤ z.size) (hw : wr z o v.cells.toList = z') (k : Instr.fill pl z' rest = some cs) : Instr.fill pl z ((i, v) :: rest) = some cs := by
  unfold Instr.fill
  rw [hp]
  show (if v.cells.size ≠ n || o + v.cells.size > z.size then none else Instr.fill pl (v.cells.zipIdx.foldl (fun cs (p : Value × Nat) => cs.setIfInBounds (o + p.2) p.1) z) rest) = _
  rw [if_neg (by simp [hv]; omega), ← Array.foldl_toList, Array.toList_zipIdx, fold_wr o v.cells.toList 0 z, Nat.add_zero, hw]
  exact k
theorem fill_end {pl : Nat → Option (Nat × Nat)} {z : Array Value} : Instr.fill pl z [] = some z := rfl
theorem Zno {P : Program} {w0 : World} {c : Code} {ρ : Env} {M : List Asrt} {Q : XQ} (hm : P.follows .mixedOrders = true) (h : xC P w0 c ρ M (xng Q)) : xC P w0 (.scope c) ρ M Q := by
  intro F w H ds n a hfr hc
  refine wp_scope_straight (wp_mono (Zaa hm c ρ w _ a hfr hc (h F w H)) ?_)
  rintro e a' w' ⟨ρ', hfr', M', H', hq⟩
  cases e with
  | goto l => exact hq.elim
  | _ => exact ⟨ρ', hfr', M', H', hq⟩
theorem bs_drop {M : List Asrt} {b o c k : Nat} {l : List Byte} (h : Bs M (.slice (some ⟨b, o, none⟩) l.length c) l) (hk : k ≤ l.length) (hkc : k < c) : Bs M (.slice (some ⟨b, o + k, none⟩) (l.length - k) (c - k)) (l.drop k) := by
  have hl : (l.drop k).length = l.length - k := by simp
  refine ⟨?_, ?_⟩
  · rw [hl]
    intro w0 F w H
    obtain ⟨a', c', hv, h1, h2⟩ := h.sh w0 F w H
    simp only [Value.slice.injEq] at hv
    obtain ⟨rfl, _, rfl⟩ := hv
    have h3 := h.rd.cut hk h1 w0 F w H
    rw [if_neg (by omega)] at h3
    rw [List.map_drop]
    have e : Option.map (fun x : Addr => x.add (k * 1)) (some ⟨b, o, none⟩) = some ⟨b, o + k, none⟩ := by simp [Option.map, addr_add]
    rw [e] at h3
    exact h3
  · intro w0 F w H
    obtain ⟨a', c', hv, h1, h2⟩ := h.sh w0 F w H
    simp only [Value.slice.injEq] at hv
    obtain ⟨_, _, rfl⟩ := hv
    exact ⟨_, _, by rw [hl], by rw [hl]; omega, by omega⟩
theorem rx4 {P : Program} {w0 : World} {ρ : Env} {M : List Asrt} {Φ : Value → List Asrt → Prop} {r r' r2 r3 : ResultVar} {v v' v2 v3 : Value} (hr : resX P w0 ρ M [r, r', r2, r3] [v, v', v2, v3]) (h : ∃ N, Φ (.tuple #[v, v', v2, v3]) N ∧ Imp M N) : retX P w0 [r, r', r2, r3] Φ .ret ρ M := by
  obtain ⟨N, h, hM⟩ := h; exact ⟨[v, v', v2, v3], N, hr, h, hM⟩
theorem PV.eq {P : Program} {op : Op} {ρ : Env} {v v' : Value} (h : PV P op ρ v) (e : v = v') : PV P op ρ v' := e ▸ h
theorem wr_pre {α : Type} {f : α → Value} (l z : List α) (h : l.length ≤ z.length) : wr ((z.map f).toArray) 0 (l.map f) = ((l ++ z.drop l.length).map f).toArray := by
  apply Array.ext'
  rw [wr_toList _ _ _ (by simp; omega)]
  simp
theorem copy_pre (l : List Byte) (k : Nat) : wr (((List.replicate (l.length + k) 0#8).map u8b).toArray) 0 ((l.map u8b).take (min l.length l.length * 1)) = ((l ++ List.replicate k 0#8).map u8b).toArray := by
  rw [Nat.min_self, Nat.mul_one, List.take_of_length_le (by simp), wr_pre l (List.replicate (l.length + k) 0#8) (by simp)]
  simp
def RdAt (M : List Asrt) (b o : Nat) (v : Value) : Prop := ∀ w0 F w, St w0 w (F :: M) → ∃ c E fr, w.heap[b]? = some (.cells c E fr) ∧ c[o]? = some v
def RdAg (M : List Asrt) (b o n : Nat) (cs : Array Value) : Prop := ∀ w0 F w, St w0 w (F :: M) → ∃ c E fr, w.heap[b]? = some (.cells c E fr) ∧ o + n ≤ c.size ∧ c.extract o (o + n) = cs
section
variable {M M' : List Asrt} {b o : Nat}
theorem RdAg.imp {n : Nat} {cs : Array Value} (h : RdAg M b o n cs) (hi : Imp M' M) : RdAg M' b o n cs := fun _ _ _ H => h _ _ _ (H.enx hi)
theorem RdAg.cl {c cs : Array Value} {E n : Nat} (hm : Has M (Sl.cl b c E) M') (hv : o + n ≤ c.size) (hc : c.extract o (o + n) = cs) : RdAg M b o n cs := fun _ _ _ H => ⟨c, E, (0, 0), (H.pick (.there hm)).cl_get, hv, hc⟩
theorem Rd.at {m k j : Nat} {xs : List Value} {v : Value} (h : Rd M 1 (.slice (some ⟨b, o, none⟩) m k) m xs) (hj : j < m) (hv : xs[j]? = some v) : RdAt M b (o + j) v := fun _ _ _ H => by
  obtain ⟨c, E, fr, hb, hc⟩ := (h _ _ _ H).cellAt hj
  exact ⟨c, E, fr, hb, hc.trans hv⟩
theorem Rd.at0 {m k j : Nat} {xs : List Value} {v : Value} (h : Rd M 1 (.slice (some ⟨b, 0, none⟩) m k) m xs) (hj : j < m) (hv : xs[j]? = some v) : RdAt M b j v := by
  have := h.at hj hv; rwa [Nat.zero_add] at this
theorem Rd.agN {α : Type} {enc : α → List Value} {l : List α} {sz k i : Nat} (h : Rd M sz (.slice (some ⟨b, o, none⟩) l.length k) l.length (l.flatMap enc)) (he : ∀ a, (enc a).length = sz) (hsz : 0 < sz) (hi : i < l.length) : RdAg M b (o + i * sz) sz (enc l[i]).toArray := fun _ _ _ H => by
  obtain ⟨c, E, fr, hb, hle, hc⟩ := (h _ _ _ H).cellsAt he hsz hi
  exact ⟨c, E, fr, hb, hle, hc⟩
theorem Rd.ag0 {m k : Nat} {xs : List Value} (h : Rd M 1 (.slice (some ⟨b, 0, none⟩) m k) m xs) (hm : 0 < m) : RdAg M b 0 m xs.toArray := fun _ _ _ H => by
  obtain ⟨hx, h2⟩ := h _ _ _ H
  rcases h2 with ⟨a, k', _, h0⟩|⟨b', o', k', c, E, fr, hv, hb, hle, he⟩
  · omega
  · simp only [Value.slice.injEq, Option.some.injEq, Addr.mk.injEq] at hv
    obtain ⟨⟨rfl, rfl, _⟩, _, rfl⟩ := hv
    refine ⟨c, E, fr, hb, by omega, ?_⟩
    apply Array.ext'
    rw [← he, Nat.mul_one]
end
section
variable {P : Program} {w0 : World} {ops : Array Oper} {dst : Option Nat} {ty T : TypeId} {pos : String} {after : Array Edge} {rest : List Oper} {ρ : Env} {K : XK} {M SM : List Asrt} {x : Operand} {b o i j n by' : Nat} {z v : Value} {cs : Array Value} {r : Ord} {t : Bool}
theorem run_ldc {oo : Oper} {w : World} [hs : TyScal P T] (hoo : oo.op = .load T x) (hx : ev ρ x = .pointer (some ⟨b, o, none⟩)) (h : RdAt SM b o v) {F : Asrt} (H : St w0 w (F :: SM)) : (execOp (ev ρ) oo).run P w = .ok (.value v) w := by
  obtain ⟨c, E, fr, hb, hc⟩ := h _ _ _ H
  have hr : (Instr.loadAt T (ev ρ x)).run P w = .ok v w := by
    rw [hx]; unfold Instr.loadAt
    rw [run_bind P _ _ w w _ rfl]; unfold loadVar
    rw [run_bind P _ _ w w _ (run_isAgg hs.h)]
    exact run_load1 hb hc
  unfold execOp; rw [hoo]
  exact op_run_value hr
theorem run_ldg {oo : Oper} {w : World} [hs : TyAggr P T] [hi : TyI P T n by' z] (hoo : oo.op = .load T x) (hx : ev ρ x = .pointer (some ⟨b, o, none⟩)) (h : RdAg SM b o n cs) {F : Asrt} (H : St w0 w (F :: SM)) : (execOp (ev ρ) oo).run P w = .ok (.value (.agg cs)) w := by
  obtain ⟨c, E, fr, hb, hv, hc⟩ := h _ _ _ H
  have hr := run_loadAgg (P := P) (ρ := ρ) (x := x) (T := T) (n := n) hb hv hx
  rw [hc] at hr
  unfold execOp; rw [hoo]
  exact op_run_value hr
theorem Zff [hs : TyScal P T] (hx : ev ρ x = .pointer (some ⟨b, o, none⟩)) (h : RdAt M b o v) (kk : xOps P w0 ops rest (put ρ dst v) M K) : xOps P w0 ops (⟨dst, .load T x, ty, pos, after, none⟩ :: rest) ρ M K := fun F w H => by
  obtain ⟨c, E, fr, hb, hc⟩ := h _ _ _ H
  exact Zfs hx hb hc (kk F w H)
theorem Zfg [hs : TyAggr P T] [hi : TyI P T n by' z] (hx : ev ρ x = .pointer (some ⟨b, o, none⟩)) (h : RdAg M b o n cs) (kk : xOps P w0 ops rest (put ρ dst (.agg cs)) M K) : xOps P w0 ops (⟨dst, .load T x, ty, pos, after, none⟩ :: rest) ρ M K := fun F w H => by
  obtain ⟨c, E, fr, hb, hv, hc⟩ := h _ _ _ H
  exact Zft hx hb hv hc (kk F w H)
theorem Zfh [hs : TyScal P T] (ho : ops[i]? = some ⟨dst, .load T x, ty, pos, after, none⟩) (hx : ev ρ x = .pointer (some ⟨b, o, none⟩)) (h : RdAt SM b o v) (k : cX P w0 ops SM r (put ρ dst v) M K) : cX P w0 ops SM (.r i r) ρ M K :=
  Zit ho (fun F w H => run_ldc rfl hx h H) k
theorem Zfj [hs : TyAggr P T] [hi : TyI P T n by' z] (ho : ops[i]? = some ⟨dst, .load T x, ty, pos, after, none⟩) (hx : ev ρ x = .pointer (some ⟨b, o, none⟩)) (h : RdAg SM b o n cs) (k : cX P w0 ops SM r (put ρ dst (.agg cs)) M K) : cX P w0 ops SM (.r i r) ρ M K :=
  Zit ho (fun F w H => run_ldg rfl hx h H) k
end
end Go.Sl
namespace Go.Sl
open Go Go.RowKit
end Go.Sl
namespace Go.Sl
open Go Go.Proofs
attribute [local irreducible] pt own old pur ex all den denOps denS xOps xC cX CX xthen xblk xcut xloop xng retX resX Calls PV Rd Con
open Go.RowKit Go.Maps Go.Sort Go.Shelf
abbrev ownI (a : Option Addr) (c : Nat) (zs : List Int) : Asrt := own 3 1 (.slice a zs.length c) zs.length (zs.map (Value.int .i64))
end Go.Sl
namespace Go.Sl
open Go
def Keys1 (es : List Ent) : Prop := (es.map (·.1)).Nodup
theorem esGet_none {es : List Ent} {k : Int} : esGet es k = none ↔ k ∉ es.map (·.1) := by
  induction es with
  | nil => simp [esGet]
  | cons e r ih =>
    unfold esGet
    by_cases h : e.1 = k
    · simp [h]
    · rw [if_neg h, ih]; simp only [List.map_cons, List.mem_cons, not_or]
      exact ⟨fun hh => ⟨fun hk => h hk.symm, hh⟩, fun hh => hh.2⟩
theorem esSet_get {es : List Ent} {k : Int} {v : Value} {c : Nat} (k' : Int) : esGet (esSet es k v c) k' = if k' = k then some v else esGet es k' := by
  induction es with
  | nil =>
    simp only [esSet, esGet]
    by_cases h : k' = k
    · rw [if_pos h, if_pos h.symm]
    · rw [if_neg h, if_neg (fun hh => h hh.symm)]
  | cons e r ih =>
    unfold esSet
    by_cases h : e.1 = k
    · rw [if_pos h]
      simp only [esGet]
      by_cases h2 : k' = k
      · rw [if_pos h2.symm, if_pos h2]
      · rw [if_neg (fun hh => h2 hh.symm), if_neg h2, if_neg (fun hh => h2 (by rw [← hh, h]))]
    · rw [if_neg h]
      simp only [esGet]
      by_cases h2 : e.1 = k'
      · rw [if_pos h2, if_neg (fun hh => h (h2.trans hh)), if_pos h2]
      · rw [if_neg h2, ih, if_neg h2]
theorem esSet_keys {es : List Ent} {k : Int} {v : Value} {c : Nat} : (esSet es k v c).map (·.1) = if k ∈ es.map (·.1) then es.map (·.1) else es.map (·.1) ++ [k] := by
  induction es with
  | nil => simp [esSet]
  | cons e r ih =>
    unfold esSet
    by_cases h : e.1 = k
    · rw [if_pos h]; simp [h]
    · rw [if_neg h]
      simp only [List.map_cons, List.mem_cons, ih]
      by_cases h2 : k ∈ r.map (·.1)
      · rw [if_pos h2, if_pos (.inr h2)]
      · rw [if_neg h2, if_neg (fun hh => hh.elim (fun hk => h hk.symm) h2)]; rfl
theorem esSet_nodup {es : List Ent} {k : Int} {v : Value} {c : Nat} (h : Keys1 es) : Keys1 (esSet es k v c) := by
  unfold Keys1
  rw [esSet_keys]
  by_cases h2 : k ∈ es.map (·.1)
  · rw [if_pos h2]; exact h
  · rw [if_neg h2, List.nodup_append]
    refine ⟨h, by simp, ?_⟩
    intro a ha b hb
    simp only [List.mem_singleton] at hb
    subst hb
    exact fun e => h2 (e ▸ ha)
theorem esDel_get {es : List Ent} {k : Int} (h : Keys1 es) (k' : Int) : esGet (esDel es k) k' = if k' = k then none else esGet es k' := by
  induction es with
  | nil => simp [esDel, esGet]
  | cons e r ih =>
    have hn : Keys1 r := (List.nodup_cons.1 h).2
    have hk : e.1 ∉ r.map (·.1) := (List.nodup_cons.1 h).1
    unfold esDel
    by_cases h1 : e.1 = k
    · rw [if_pos h1]
      by_cases h2 : k' = k
      · rw [if_pos h2, h2, esGet_none, ← h1]; exact hk
      · rw [if_neg h2]; simp only [esGet]; rw [if_neg (fun hh => h2 (by rw [← hh, h1]))]
    · rw [if_neg h1]
      simp only [esGet]
      by_cases h2 : e.1 = k'
      · rw [if_pos h2, if_pos h2, if_neg (fun hh => h1 (h2.trans hh))]
      · rw [if_neg h2, if_neg h2, ih hn]
theorem esDel_sub {es : List Ent} {k : Int} : (esDel es k).map (·.1) = (es.map (·.1)).erase k := by
  induction es with
  | nil => rfl
  | cons e r ih =>
    unfold esDel
    by_cases h : e.1 = k
    · rw [if_pos h]; simp [h]
    · rw [if_neg h, List.map_cons, List.map_cons, List.erase_cons_tail (by simpa using h), ih]
theorem esDel_nodup {es : List Ent} {k : Int} (h : Keys1 es) : Keys1 (esDel es k) := by
  unfold Keys1; rw [esDel_sub]; exact h.erase k
def fmA (b : Nat) (f : Int → Option Value) : Asrt := ex fun es : List Ent => ex fun c : Nat => all [pur (Keys1 es ∧ ∀ k, esGet es k = f k), pt b (.map (mapE es) c)]
def fput (f : Int → Option Value) (k : Int) (o : Option Value) : Int → Option Value := fun k' => if k' = k then o else f k'
section
variable {w0 w : World} {L M M' M2 : List Asrt} {b : Nat} {f : Int → Option Value} {k : Int}
theorem St.fm_get (H : St w0 w (fmA b f :: L)) : ∃ es c, Keys1 es ∧ (∀ k, esGet es k = f k) ∧ St w0 w (pt b (.map (mapE es) c) :: L) := by
  unfold fmA at H
  obtain ⟨es, H⟩ := H.ex_get; obtain ⟨c, H⟩ := H.ex_get
  have H := H.all_get
  have hp := H.pur_get
  exact ⟨es, c, hp.1, hp.2, H.drop⟩
theorem St.fm_mk {es : List Ent} {c : Nat} (h1 : Keys1 es) (h2 : ∀ k, esGet es k = f k) (H : St w0 w (pt b (.map (mapE es) c) :: L)) : St w0 w (fmA b f :: L) := by
  unfold fmA
  exact St.ex_mk es (St.ex_mk c (St.all_mk [pur (Keys1 es ∧ ∀ k, esGet es k = f k), pt b (.map (mapE es) c)] (H.pur_mk ⟨h1, h2⟩)))
end
section
variable {P : Program} {w0 : World} {ops : Array Oper} {dst : Option Nat} {ty : TypeId} {pos : String} {after : Array Edge} {rest : List Oper} {ρ : Env} {K : XK} {M M' M2 SM : List Asrt}
variable {x y z' : Operand} {T Kt E b : Nat} {f : Int → Option Value} {k : Int} {v : Value}
theorem run_fm {n by' : Nat} {z : Value} {w : World} {F : Asrt} [hm : TyMap P T Kt E] [hk : TyInt P Kt .i64] [hz : TyI P E n by' z] (hh : Has M (fmA b f) M') (hv : (f k).getD z = v) (H : St w0 w (F :: M)) :
    (Instr.lookup T (.map (some b)) (.int .i64 k) false).run P w = .ok v w := by
  obtain ⟨es, c, _, h2, H1⟩ := (H.pick (.there hh)).fm_get
  rw [run_lookup (Kt := Kt) (E := E) (z := z) H1.pt_get, h2, hv]
theorem Zoc {n by' : Nat} {z : Value} [hm : TyMap P T Kt E] [hk : TyInt P Kt .i64] [hz : TyI P E n by' z] (hx : ev ρ x = .map (some b)) (hy : ev ρ y = .int .i64 k) (hh : Has M (fmA b f) M') (hv : (f k).getD z = v)
    (kk : xOps P w0 ops rest (put ρ dst v) M K) : xOps P w0 ops (⟨dst, .lookup T x y false, ty, pos, after, none⟩ :: rest) ρ M K := by
  intro F w H
  refine Zcy ?_
  have : (execOp (ev ρ) ⟨dst, .lookup T x y false, ty, pos, after, none⟩).run P w = .ok (.value v) w := op_run_value (by rw [hx, hy]; exact run_fm (Kt := Kt) (E := E) hh hv H)
  rw [this]; exact kk F w H
theorem Zod {r : Ord} {i n by' : Nat} {z : Value} [hm : TyMap P T Kt E] [hk : TyInt P Kt .i64] [hz : TyI P E n by' z] (ho : ops[i]? = some ⟨dst, .lookup T x y false, ty, pos, after, none⟩) (hx : ev ρ x = .map (some b)) (hy : ev ρ y = .int .i64 k) (hh : Has SM (fmA b f) M') (hv : (f k).getD z = v)
    (kk : cX P w0 ops SM r (put ρ dst v) M K) : cX P w0 ops SM (.r i r) ρ M K :=
  Zit ho (fun F w H => op_run_value (by rw [hx, hy]; exact run_fm (Kt := Kt) (E := E) hh hv H)) kk
theorem Zoe {n by' : Nat} {z : Value} {t : Bool} [hm : TyMap P T Kt E] [hk : TyInt P Kt .i64] [hz : TyI P E n by' z] (hx : ev ρ x = .map (some b)) (hy : ev ρ y = .int .i64 k) (hh : Has M (fmA b f) M') (hv : (f k).getD z = v) (ht : (f k).isSome = t)
    (kk : xOps P w0 ops rest (put ρ dst (.tuple #[v, .bool t])) M K) : xOps P w0 ops (⟨dst, .lookup T x y true, ty, pos, after, none⟩ :: rest) ρ M K := by
  intro F w H
  refine Zcy ?_
  obtain ⟨es, c, _, h2, H1⟩ := (H.pick (.there hh)).fm_get
  have : (execOp (ev ρ) ⟨dst, .lookup T x y true, ty, pos, after, none⟩).run P w = .ok (.value (.tuple #[v, .bool t])) w := op_run_value (by rw [hx, hy, run_lookup2 (Kt := Kt) (E := E) (z := z) H1.pt_get, h2, hv, ht])
  rw [this]; exact kk F w H
theorem Zof [hm : TyMap P T Kt E] [hk : TyInt P Kt .i64] (hx : ev ρ x = .map (some b)) (hy : ev ρ y = .int .i64 k) (hz : ev ρ z' = v) (hh : Repl M (fmA b f) (fmA b (fput f k (some v))) M2) (kk : xOps P w0 ops rest (put ρ dst undef) M2 K) :
    xOps P w0 ops (⟨dst, .mapUpdate T x y z', ty, pos, after, none⟩ :: rest) ρ M K := by
  intro F w H
  refine Zcy ?_
  obtain ⟨R, h1, h2⟩ := hh.has
  obtain ⟨es, c, g1, g2, H1⟩ := (H.pick (.there h1)).fm_get
  have : (execOp (ev ρ) ⟨dst, .mapUpdate T x y z', ty, pos, after, none⟩).run P w = .ok .skip _ := op_run_unit (by rw [hx, hy, hz]; exact run_mapUpdate (Kt := Kt) (E := E) H1.pt_get)
  rw [this]
  refine kk F _ (St.unpick (St.fm_mk (es := esSet es k v c) (c := esClock es k c) (esSet_nodup g1) (fun k' => ?_) (H1.set _)) (.there h2))
  rw [esSet_get, g2]; rfl
theorem Zog {K2 : Nat} [hm : TyMap P T Kt E] [hk : TyInt P Kt .i64] (hx : ev ρ x = .map (some b)) (hy : ev ρ y = .int .i64 k) (hh : Repl M (fmA b f) (fmA b (fput f k none)) M2) (kk : xOps P w0 ops rest (put ρ dst (.tuple #[])) M2 K) :
    xOps P w0 ops (⟨dst, .call { callee := .builtin .delete, args := #[x, y], argTypes := #[T, K2] }, ty, pos, after, none⟩ :: rest) ρ M K := by
  intro F w H
  refine Zcy ?_
  obtain ⟨R, h1, h2⟩ := hh.has
  obtain ⟨es, c, g1, g2, H1⟩ := (H.pick (.there h1)).fm_get
  have : (execOp (ev ρ) ⟨dst, .call { callee := .builtin .delete, args := #[x, y], argTypes := #[T, K2] }, ty, pos, after, none⟩).run P w = .ok (.value (.tuple #[])) { w with heap := w.heap.setIfInBounds b (.map (mapE (esDel es k)) c) } := by
    refine op_run_value ?_
    simp only [List.map_toArray, List.map_cons, List.map_nil, hx, hy]
    exact run_delete (Kt := Kt) (E := E) H1.pt_get
  rw [this]
  refine kk F _ (St.unpick (St.fm_mk (es := esDel es k) (c := c) (esDel_nodup g1) (fun k' => ?_) (H1.set _)) (.there h2))
  rw [esDel_get g1, g2]; rfl
theorem Zoh (kk : ∀ b, xOps P w0 ops rest (put ρ dst (.map (some b))) (fmA b (fun _ => none) :: M) K) :
    xOps P w0 ops (⟨dst, .makeMap T none, ty, pos, after, none⟩ :: rest) ρ M K := by
  intro F w H
  refine Zcy ?_
  have : (execOp (ev ρ) ⟨dst, .makeMap T none, ty, pos, after, none⟩).run P w = .ok (.value (.map (some w.heap.size))) { w with heap := w.heap.push (.map #[] 0) } := rfl
  rw [this]
  exact kk w.heap.size F _ (St.swap (St.fm_mk (es := []) (c := 0) (by simp [Keys1]) (fun _ => rfl) (H.alloc (.map #[] 0))))
theorem run_bounds3i {len cap : Nat} {lo y m : Operand} {k1 k2 k3 : IntKind} {l h mx : Nat} {w : World} (hl : ev ρ lo = .int k1 (l : Int)) (hh : ev ρ y = .int k2 (h : Int)) (hm : ev ρ m = .int k3 (mx : Int)) (h1 : l ≤ h) (h2 : h ≤ mx) (hc : mx ≤ cap) :
    (Instr.sliceBounds true len cap (some (ev ρ lo)) (some (ev ρ y)) (some (ev ρ m))).run P w = .ok (l, h, mx) w := by
  unfold Instr.sliceBounds
  simp only []
  rw [run_bind P _ _ w w _ (run_bound hm ⟨by omega, by omega⟩), Int.toNat_natCast, run_bind P _ _ w w _ (run_bound hh ⟨by omega, by omega⟩), Int.toNat_natCast, run_bind P _ _ w w _ (run_bound hl ⟨by omega, by omega⟩), Int.toNat_natCast]
  rfl
theorem Zok {lo m : Operand} {S sz by' bb o len cap : Nat} {z : Value} {k1 k2 k3 : IntKind} {l h mx : Nat} [hs : TySlice P S E] [hi' : TyI P E sz by' z] (hx : ev ρ x = .slice (some ⟨bb, o, none⟩) len cap)
    (hl : ev ρ lo = .int k1 (l : Int)) (hh : ev ρ y = .int k2 (h : Int)) (hm : ev ρ m = .int k3 (mx : Int)) (h1 : l ≤ h) (h2 : h ≤ mx) (hc : mx ≤ cap) :
    PV P (.slice S x (some lo) (some y) (some m)) ρ (.slice (some ⟨bb, cutOff o l mx sz, none⟩) (h - l) (mx - l)) := by
  intro oo w ho; unfold execOp; rw [ho]; refine op_run_value ?_; rw [hx]
  unfold Instr.sliceAt
  rw [run_bind P _ _ w w _ (run_under hs.h)]
  simp only []
  unfold Instr.slice
  rw [run_bind P _ _ w w _ (run_under hs.h)]
  simp only [Option.map_some]
  rw [run_bind P _ _ w w _ (run_bounds3i hl hh hm h1 h2 hc), run_bind P _ _ w w _ (run_size hi')]
  show (Result.ok (Value.slice _ _ _) w : Result Value) = _
  unfold cutOff
  split
  · rfl
  · simp only [Option.map_some, addr_add]
theorem Zoi {size by' n m T' E' g cap : Nat} {z sv : Value} {cur cur' : Array Value} {news : List Value} [hs : TySlice P T E] [hi : TyI P E size by' z] [ht : TySlice P T' E']
    (hx : ev ρ x = .slice (some ⟨g, 0, none⟩) n cap) (hy : ev ρ y = sv) (hsl : Rd M size sv m news) (hm : Repl M (cl g cur E) (cl g cur' E) M2) (h1 : news.all oneC = true) (hroom : n + m ≤ cap) (hsz : cur.size = cap * size) (hc : wr cur (n * size) news = cur')
    (k : xOps P w0 ops rest (put ρ dst (.slice (some ⟨g, 0, none⟩) (n + m) cap)) M2 K) :
    xOps P w0 ops (⟨dst, .call { callee := .builtin .append, args := #[x, y], argTypes := #[T, T'] }, ty, pos, after, none⟩ :: rest) ρ M K := by
  intro F w H
  have hsl := hsl _ _ _ H
  refine Zcy ?_
  obtain ⟨R, hh1, hh2⟩ := hm.has
  have H1 := H.pick (.there hh1)
  have hr : (Builtin.append_ #[T, T'] ty #[.slice (some ⟨g, 0, none⟩) n cap, sv]).run P w = .ok (.slice (some ⟨g, 0, none⟩) (n + m) cap) { w with heap := w.heap.setIfInBounds g (.cells (wr cur (n * size) news) E (0, 0)) } :=
    run_append_room ht.h hsl.lenOf (by
      have := hsl.first (P := P) m (Nat.le_refl _)
      rwa [← hsl.1, List.take_length] at this) hsl.1 h1 hroom H1.cl_get hsz
  have : (execOp (ev ρ) ⟨dst, .call { callee := .builtin .append, args := #[x, y], argTypes := #[T, T'] }, ty, pos, after, none⟩).run P w = .ok (.value (.slice (some ⟨g, 0, none⟩) (n + m) cap)) { w with heap := w.heap.setIfInBounds g (.cells (wr cur (n * size) news) E (0, 0)) } := by
    refine op_run_value ?_
    simp only [List.map_toArray, List.map_cons, List.map_nil, hx, hy]
    exact hr
  rw [this]
  subst hc
  exact k F _ (St.unpick (H1.set (.cells (wr cur (n * size) news) E (0, 0))) (.there hh2))
theorem Zoj {by' n g o cap : Nat} {z : Value} {cur cur' : Array Value} [hs : TySlice P T E] [hi : TyI P E 1 by' z] (hz : z.cells = #[z]) (h1 : oneC z = true)
    (hx : ev ρ x = .slice (some ⟨g, o, none⟩) (n + 1) cap) (hm : Repl M (cl g cur E) (cl g cur' E) M2) (hle : o + (n + 1) ≤ cur.size) (hc : wr cur o (List.replicate (n + 1) z) = cur')
    (k : xOps P w0 ops rest (put ρ dst (.tuple #[])) M2 K) :
    xOps P w0 ops (⟨dst, .call { callee := .builtin .clear, args := #[x], argTypes := #[T] }, ty, pos, after, none⟩ :: rest) ρ M K := by
  intro F w H
  refine Zcy ?_
  obtain ⟨R, hh1, hh2⟩ := hm.has
  have H1 := H.pick (.there hh1)
  have hzc : (Builtin.zeroCells z.cells (n + 1)).toList = List.replicate (n + 1) z := by
    rw [hz]; simp [Builtin.zeroCells, Nat.mod_one, List.map_const']
  have hr : (Builtin.clear_ #[T] ty #[.slice (some ⟨g, o, none⟩) (n + 1) cap]).run P w = .ok (.tuple #[]) { w with heap := w.heap.setIfInBounds g (.cells (wr cur o (List.replicate (n + 1) z)) E (0, 0)) } := by
    simp only [Builtin.clear_, List.getElem?_toArray, List.getElem?_cons_zero]
    rw [run_bind P _ _ w w _ (run_under hs.h)]
    simp only []
    rw [run_bind P _ _ w w _ (run_zero hi), hzc]
    have := run_storeCells (P := P) (List.replicate (n + 1) z) H1.cl_get o 0 (by simpa using hle) (by simp [h1])
    rw [run_bind P _ _ w _ () this]
    rfl
  have : (execOp (ev ρ) ⟨dst, .call { callee := .builtin .clear, args := #[x], argTypes := #[T] }, ty, pos, after, none⟩).run P w = .ok (.value (.tuple #[])) { w with heap := w.heap.setIfInBounds g (.cells (wr cur o (List.replicate (n + 1) z)) E (0, 0)) } := by
    refine op_run_value ?_
    simp only [List.map_toArray, List.map_cons, List.map_nil, hx]
    exact hr
  rw [this]
  subst hc
  exact k F _ (St.unpick (H1.set (.cells (wr cur o (List.replicate (n + 1) z)) E (0, 0))) (.there hh2))
end
end Go.Sl
namespace Go.Sl
open Go
theorem run_bounds3 {P : Program} {ρ : Env} {len cap : Nat} {y m : Operand} {k k' : IntKind} {h : Nat} {w : World} (hh : ev ρ y = .int k (h : Int)) (hm : ev ρ m = .int k' (h : Int)) (hc : h ≤ cap) :
    (Instr.sliceBounds true len cap none (some (ev ρ y)) (some (ev ρ m))).run P w = .ok (0, h, h) w := by
  unfold Instr.sliceBounds
  simp only []
  rw [run_bind P _ _ w w _ (run_bound hm ⟨by omega, by omega⟩), Int.toNat_natCast, run_bind P _ _ w w _ (run_bound hh ⟨by omega, by omega⟩), Int.toNat_natCast]
  rfl
theorem Zns {P : Program} {ρ : Env} {x y m : Operand} {S E sz by' bb o len cap : Nat} {z : Value} {k k' : IntKind} {h : Nat} [hs : TySlice P S E] [hi' : TyI P E sz by' z] (hx : ev ρ x = .slice (some ⟨bb, o, none⟩) len cap)
    (hh : ev ρ y = .int k (h : Int)) (hm : ev ρ m = .int k' (h : Int)) (hc : h ≤ cap) (h0 : 0 < h) :
    PV P (.slice S x none (some y) (some m)) ρ (.slice (some ⟨bb, o, none⟩) h h) := by
  intro oo w ho; unfold execOp; rw [ho]; refine op_run_value ?_; rw [hx]
  unfold Instr.sliceAt
  rw [run_bind P _ _ w w _ (run_under hs.h)]
  simp only []
  unfold Instr.slice
  rw [run_bind P _ _ w w _ (run_under hs.h)]
  simp only [Option.map_none, Option.map_some]
  rw [run_bind P _ _ w w _ (run_bounds3 hh hm hc), run_bind P _ _ w w _ (run_size hi')]
  show (Result.ok (Value.slice _ _ _) w : Result Value) = _
  rw [if_neg (show ¬ h = 0 from by omega)]
  simp [Option.map, addr_add]
theorem getE0 (v : Value) (l : Array Value) : (#[v] ++ l)[0]? = some v := by
  rw [← Array.getElem?_toList, Array.toList_append]; rfl
theorem getE1 (v : Value) (l : Array Value) : (#[v] ++ l).extract 1 (#[v] ++ l).size = l := by
  apply Array.ext'
  rw [Array.toList_extract, Array.toList_append, Array.size_append]
  simp only [List.extract_eq_take_drop, List.cons_append, List.nil_append, List.drop_succ_cons, List.drop_zero]
  exact List.take_of_length_le (by simp)
def Met (P : Program) (t : TypeId) (v : Value) (name : String) (F : FuncId) (rv : Value) : Prop := ∀ w, (Go.method (P.types.size + Made.depth) t v name).run P w = .ok (F, rv) w
section
variable {P : Program} {w0 : World} {ops : Array Oper} {dst : Option Nat} {ty : TypeId} {pos : String} {after : Array Edge} {rest : List Oper} {ρ : Env} {K : XK} {M : List Asrt}
theorem run_callMethod {w : World} {t : TypeId} {v rv : Value} {name : String} {F : FuncId} {args : Array Value} (hm : Met P t v name F rv) : (callMethod (.iface t v) name args).run P w = (callFunc F (#[rv] ++ args)).run P w := by
  unfold callMethod
  simp only []
  show ((program >>= fun p => method (p.types.size + Made.depth) t v name >>= _) : Sem Next).run P w = _
  rw [run_bind P _ _ w w P rfl, run_bind P _ _ w w _ (hm w)]
theorem Znt {F : FuncId} {r : Operand} {name : String} {ars : Array Operand} {ts : Array TypeId} {t : TypeId} {v rv : Value} {vs : List Value} {M1 R : List Asrt} {Φ : Value → List Asrt → Prop} (hr : ev ρ r = .iface t v) (hm : Met P t v name F rv) (hb : callable P F = true)
    (hc : Con P F (rv :: vs) M1 Φ) (ha : (ars.toList.map (ev ρ)) = vs) (hs : Take M M1 R) (k : ∀ v M', Φ v M' → xOps P w0 ops rest (put ρ dst v) (M' ++ R) K) :
    xOps P w0 ops (⟨dst, .call { callee := .invoke r name, args := ars, argTypes := ts }, ty, pos, after, none⟩ :: rest) ρ M K := by
  intro F' w H
  have H1 : St w0 w (F' :: (M1 ++ R)) := H.enx hs.ent
  have H2 : St w0 w (all (F' :: R) :: M1) := by
    refine H1.ent (Imp.trans (Imp.cons Imp.app) (Imp.trans Imp.swap ?_))
    have h3 : Imp (all M1 :: (F' :: R)) ((F' :: R) ++ [all M1]) := Imp.comm (L := [all M1]) (M := F' :: R)
    refine h3.trans (Imp.app.trans (Imp.cons ?_))
    have := Imp.unapp (L := M1) (M := [])
    rwa [List.append_nil] at this
  refine Zcy ?_
  subst ha
  have : (execOp (ev ρ) ⟨dst, .call { callee := .invoke r name, args := ars, argTypes := ts }, ty, pos, after, none⟩).run P w = .ok (.enter F (rv :: ars.toList.map (ev ρ)).toArray) w := by
    unfold execOp
    simp only [resolve, hr, pure_bind, invoke]
    have e0 : (#[Value.iface t v] ++ ars.map (ev ρ))[0]? = some (.iface t v) := getE0 _ _
    have e1 : (#[Value.iface t v] ++ ars.map (ev ρ)).extract 1 (#[Value.iface t v] ++ ars.map (ev ρ)).size = ars.map (ev ρ) := getE1 _ _
    rw [e0]
    simp only [e1]
    rw [run_callMethod hm]
    unfold callFunc
    unfold callable at hb
    show ((program >>= _) : Sem Next).run P w = _
    rw [run_bind P _ _ w w P rfl]
    split at hb
    · rename_i fn hfn
      simp only [hfn]
      simp only [Bool.and_eq_true, bne_iff_ne, ne_eq, Option.isSome_iff_ne_none] at hb
      rw [if_neg (by simp [hb.1]), if_neg (by simp [hb.2])]
      have : #[rv] ++ Array.map (ev ρ) ars = (rv :: ars.toList.map (ev ρ)).toArray := by
        apply Array.ext'
        simp
      rw [this]; rfl
    · cases hb
  rw [this]
  refine Calls.mono (hc w0 _ w H2) (Ret.mono fun v w' hq => ?_)
  obtain ⟨M', H', hφ⟩ := hq
  exact k v M' hφ F' w' (H'.ent (Imp.unapp.trans (Imp.cons Imp.comm)))
theorem Znu {F : FuncId} {r : Operand} {name : String} {ars : Array Operand} {ts : Array TypeId} {t : TypeId} {v rv u : Value} {vs : List Value} (hr : ev ρ r = .iface t v) (hm : Met P t v name F rv) (h : extv P F (rv :: vs) u) (ha : (ars.toList.map (ev ρ)) = vs) :
    PV P (.call { callee := .invoke r name, args := ars, argTypes := ts }) ρ u := by
  intro oo w ho
  unfold execOp
  subst ha
  simp only [ho, resolve, hr, pure_bind, invoke]
  have e0 : (#[Value.iface t v] ++ ars.map (ev ρ))[0]? = some (.iface t v) := getE0 _ _
  have e1 : (#[Value.iface t v] ++ ars.map (ev ρ)).extract 1 (#[Value.iface t v] ++ ars.map (ev ρ)).size = ars.map (ev ρ) := getE1 _ _
  rw [e0]
  simp only [e1]
  rw [run_callMethod hm]
  have : #[rv] ++ Array.map (ev ρ) ars = (rv :: ars.toList.map (ev ρ)).toArray := by
    apply Array.ext'
    simp
  rw [this]
  exact h w
theorem extv_of {F : FuncId} {fn : Func} {e : Array Value → Sem Value} {vs : List Value} {v : Value} (hf : P.funcs[F]? = some fn) (hname : (fn.name == "runtime.NumGoroutine") = false)
    (hb : fn.body.isNone = true) (hn : Extern.findNext fn = none) (he : Extern.find fn = some e) (h : ∀ w, (e vs.toArray).run P w = .ok v w) : extv P F vs v := by
  intro w
  rw [run_callFunc_extern hf hname hb hn he, h w]
  rfl
theorem Znv {x : Operand} {X U t : TypeId} {want : Array (String × TypeId)} {v z : Value} (hx : ev ρ x = .iface t v) (hu : P.underlying U = some (.interface want)) (h : (P.info? t).map (fun i => (lacking want i.methods).isEmpty) = some false) (hz : (P.info? U).map (·.zero) = some (some z)) :
    PV P (.typeAssert x X U true) ρ (.tuple #[z, .bool false]) := by
  intro oo w ho; unfold execOp; rw [ho]; refine op_run_value ?_; rw [hx]
  exact run_typeAssert_lacksB hu h hz v X w
theorem Znw {x y : Operand} {T T' t : TypeId} {v : Value} (hT : P.isIface T = true) (hx : ev ρ x = .iface t v) (hy : ev ρ y = .nilIface) : PV P (.binOp .eql T x y T') ρ (.bool false) :=
  Zb9 hx hy (fun w => by unfold eqGuard; rfl) fun w => run_eql_iface_nil w T hT t v
theorem Zny {x y : Operand} {T T' t : TypeId} {ms : Array (String × TypeId)} {k q : IntKind} {a b : Int} (ht : P.underlying T = some (.interface ms)) (hc : (P.info? t).map (·.comparable) = some true) (hq : P.underlying t = some (.int q)) (hx : ev ρ x = .iface t (.int k a)) (hy : ev ρ y = .iface t (.int k b)) : PV P (.binOp .eql T x y T') ρ (.bool (decide (a = b))) :=
  Zb9 hx hy (fun w => by unfold eqGuard; rfl) fun w => Go.Lib.run_eql_iface_int (P := P) w (k := k) a b ht hc hq
end
theorem own_cap {E size n c : Nat} {a : Option Addr} {xs : List Value} {w0 w : World} {F : Asrt} {M M' : List Asrt} (hm : Has M (Sl.own E size (.slice a n c) n xs) M') (H : St w0 w (F :: M)) : n ≤ c ∧ c ≤ 9223372036854775807 := by
  obtain ⟨a', c', hv, h1, h2⟩ := own_shape (H.pick (.there hm))
  simp only [Value.slice.injEq] at hv
  obtain ⟨_, _, rfl⟩ := hv
  exact ⟨h1, h2⟩
end Go.Sl
namespace Go.Sl
open Go Go.ChangeShapes Go.WideShapes Go.ChangeAt Go.RowKit
section
variable {H : Type} {enc : TypeId × Value → H} {P : Program} {w : World} {base : Nat} {spare : Nat → Bool} {held : Bool}
end
theorem Znz {P : Program} {w0 : World} {c : Code} {ρ : Env} {Q : XQ} {E sz n cp : Nat} {a : Option Addr} {xs : List Value} {M M' : List Asrt} (hm : Has M (Sl.own E sz (.slice a n cp) n xs) M') (hn : 0 < n)
    (k : ∀ g rest, a = some ⟨g, 0, none⟩ → n ≤ cp → cp ≤ 9223372036854775807 → rest.length + n * sz = cp * sz → xC P w0 c ρ (Sl.cl g (xs ++ rest).toArray E :: M') Q) : xC P w0 c ρ M Q := by
  refine Zgu (α := { p : Nat × List Value // a = some ⟨p.1, 0, none⟩ ∧ n ≤ cp ∧ cp ≤ 9223372036854775807 ∧ p.2.length + n * sz = cp * sz }) (A := fun p => Sl.cl p.val.1 (xs ++ p.val.2).toArray E :: M') ?_ (fun p => k p.val.1 p.val.2 p.property.1 p.property.2.1 p.property.2.2.1 p.property.2.2.2)
  intro F w H
  rcases (H.pick (.there hm)).own_get with ⟨hv, rfl, _⟩|⟨g, cap, cur, hv, h2, h3, h4, h5, h6, H'⟩
  · omega
  · simp only [Value.slice.injEq] at hv
    obtain ⟨rfl, _, rfl⟩ := hv
    have e : cur = (xs ++ cur.toList.drop (n * sz)).toArray := by rw [← h5, List.take_append_drop]
    have hle : n * sz ≤ cp * sz := Nat.mul_le_mul_right _ h2
    refine ⟨⟨(g, cur.toList.drop (n * sz)), rfl, h2, h3, by rw [List.length_drop, Array.length_toList, h4]; omega⟩, ?_⟩
    dsimp only
    rw [← e]
    exact H'.swap
theorem wr_mid (A B C V : List Value) (o : Nat) (ho : o = A.length) (hv : V.length = B.length) : wr (A ++ (B ++ C)).toArray o V = (A ++ (V ++ C)).toArray := by
  subst ho
  apply Array.ext'
  rw [wr_toList _ _ _ (by simp [hv])]
  simp [hv]
theorem own_someN {E sz n c : Nat} {a : Option Addr} {xs : List Value} {w0 w : World} {F : Asrt} {M M' : List Asrt} (hm : Has M (Sl.own E sz (.slice a n c) n xs) M') (hn : 0 < n) (H : St w0 w (F :: M)) : ∃ g, a = some ⟨g, 0, none⟩ := by
  rcases (H.pick (.there hm)).own_get with ⟨hv, rfl, _⟩|⟨g, cap, cur, hv, _⟩
  · omega
  · simp only [Value.slice.injEq] at hv
    exact ⟨g, hv.1⟩
end Go.Sl
namespace Go.Sl
open Go
abbrev nvv (n : Nat) : Value := .int .i64 (n : Int)
end Go.Sl
namespace Go.Sl
open Go Go.Proofs
attribute [local irreducible] pt own old pur ex all den denOps denS xOps xC cX CX xthen xblk xcut xloop xng retX resX Calls PV Rd Con
abbrev zv (zs : List Int) : List Value := zs.map (Value.int .i64)
theorem zv_one (zs : List Int) : (zv zs).all oneC = true := by simp [oneC]
theorem index_yes {L : List Asrt} {a : Option Addr} {c : Nat} {zs : List Int} {n : Int} (h : Rd L 1 (.slice a zs.length c) zs.length (zv zs)) (hl : zs.length ≤ 9223372036854775807) (hn : n ∈ zs) : Con Tryz.prog 156 [.slice a zs.length c, .int .i64 n] L (fun v M => (∃ i, ∃ hi : i < zs.length, zs[i] = n ∧ v = nvv i) ∧ L = M) := by
  refine fn_y Tryz.func156 Tryz.mixed ?_
  intro w0
  refine V8 ?_
  refine Zgo [(4, 5), (8, 18)] (by kernel_rfl) (fun i : Nat => i < zs.length ∧ n ∉ zs.take i) (fun _ => L) (fun i => [(8, nvv i)]) (fun i => zs.length - i) 0 ⟨List.length_pos_of_mem hn, by simp⟩ qI ⟨rfl, trivial⟩ ?_
  rintro i u ⟨hi, he⟩
  refine Zgt (fun F w H => h.someAt (by omega) H) ?_
  rintro ⟨s1, s2, rfl⟩
  refine Y2 ?_
  refine Zos 9 rfl (hi) ?_
  refine V6 ?_
  by_cases hz : n = zs[i]
  · refine Y5 ?_
    refine Zff rfl ((h.at hi (by rw [List.getElem?_map, List.getElem?_eq_getElem hi]; rfl))) ?_
    refine Zhg (Zbr (b := zs[i]) rfl rfl) ?_
    refine Zos 16 rfl (hz) ?_
    refine V6 ?_
    refine rx1 (Zg9 rfl (Zg7)) ?_
    exact ⟨_, ⟨⟨i, hi, hz.symm, rfl⟩, rfl⟩, qI⟩
  · refine Y5 ?_
    refine Zff rfl ((h.at hi (by rw [List.getElem?_map, List.getElem?_eq_getElem hi]; rfl))) ?_
    refine Zhg (Zbr (b := zs[i]) rfl rfl) ?_
    refine Zot 16 rfl (hz) ?_
    refine V6 ?_
    have he2 : n ∉ zs.take (i + 1) := by
      rw [List.take_succ_eq_append_getElem hi, List.mem_append, List.mem_singleton]
      exact fun hh => hh.elim he hz
    have hi2 : i + 1 < zs.length := by
      by_cases hh : i + 1 < zs.length
      · exact hh
      · exact absurd (by rw [List.take_of_length_le (by omega)]; exact hn) he2
    exact Zgl (i + 1) qO ⟨hi2, he2⟩ qI ⟨rfl, trivial⟩
theorem index_no {L : List Asrt} {a : Option Addr} {c : Nat} {zs : List Int} {n : Int} (h : Rd L 1 (.slice a zs.length c) zs.length (zv zs)) (hl : zs.length ≤ 9223372036854775807) (hn : n ∉ zs) : Con Tryz.prog 156 [.slice a zs.length c, .int .i64 n] L (fun v M => v = .int .i64 (-1) ∧ L = M) := by
  refine fn_y Tryz.func156 Tryz.mixed ?_
  intro w0
  refine V8 ?_
  refine Zgo [(4, 5), (8, 18)] (by kernel_rfl) (fun i : Nat => i ≤ zs.length) (fun _ => L) (fun i => [(8, nvv i)]) (fun i => zs.length - i) 0 (Nat.zero_le _) qI ⟨rfl, trivial⟩ ?_
  intro i u hi
  refine V3 ?_
  refine Zgg rfl (fun hB => ?_) (fun hB => ?_)
  · refine Zgt (fun F w H => h.someAt (by omega) H) ?_
    rintro ⟨s1, s2, rfl⟩
    refine Y9 ?_
    refine Zff rfl ((h.at hB (by rw [List.getElem?_map, List.getElem?_eq_getElem hB]; rfl))) ?_
    refine Zhg (Zbr (b := zs[i]) rfl rfl) ?_
    refine Zot 16 rfl ((fun hh => hn (hh ▸ List.getElem_mem hB))) ?_
    refine V6 ?_
    exact Zgl (i + 1) qO (by omega) qI ⟨rfl, trivial⟩
  · refine V3 ?_
    refine rx1 (Zg9 rfl (Zg7)) ?_
    exact ⟨_, ⟨rfl, rfl⟩, qI⟩
theorem del_take (xs rest news : List Value) (z : Value) (i n : Nat) (hx : xs.length = n) (hi : i < n) (hl : news.length = n - (i + 1)) : ((wr (wr (xs ++ rest).toArray i news) (n - 1) [z]).toList).take (n - 1) = xs.take i ++ news := by
  have e1 : ((xs ++ rest).take i ++ news ++ (xs ++ rest).drop (i + news.length)).take (n - 1) = xs.take i ++ news := by
    rw [List.take_append_of_le_length (by simp; omega), List.take_append_of_le_length (show i ≤ xs.length by omega), List.take_of_length_le (by simp; omega)]
  have h2 : n - 1 ≤ (((xs ++ rest).take i ++ news ++ (xs ++ rest).drop (i + news.length)).take (n - 1)).length := by rw [e1]; simp; omega
  rw [wr_toList _ _ _ (by rw [wr_size]; simp; omega), wr_toList _ _ _ (by simp; omega), List.append_assoc, List.take_append_of_le_length h2, List.take_take, Nat.min_self, e1]
theorem rd_cut {M M' : List Asrt} {g c i n E : Nat} {xs rest : List Value} (hm : Has M (cl g (xs ++ rest).toArray E) M') (hx : xs.length = n) (hi : i < n) (hnc : n ≤ c) : Rd M 1 (.slice (some ⟨g, cutOff 0 (i + 1) c 1, none⟩) (n - (i + 1)) (c - (i + 1))) (n - (i + 1)) (xs.drop (i + 1)) := by
  by_cases h0 : n = i + 1
  · rw [show n - (i + 1) = 0 by omega, List.drop_of_length_le (by omega)]; exact Rd.nil
  · unfold cutOff
    rw [if_neg (show ¬ c = i + 1 by omega)]
    refine Rd.cl (o := 0 + (i + 1) * 1) hm (by simp; omega) (by simp; omega) ?_
    simp only [Array.toList_extract, List.extract_eq_take_drop]
    rw [show 0 + (i + 1) * 1 = i + 1 by omega, show i + 1 + (n - (i + 1)) * 1 - (i + 1) = n - (i + 1) by omega, List.drop_append_of_le_length (by omega), List.take_append_of_le_length (by simp; omega), List.take_of_length_le (by simp; omega)]
theorem delete_x {g c i : Nat} {zs : List Int} (hi : i < zs.length) (hzl : zs.length ≤ 1000000) : Con Tryz.prog 150 [.slice (some ⟨g, 0, none⟩) zs.length c, nvv i, nvv (i + 1)] [ownI (some ⟨g, 0, none⟩) c zs] (fun v M => v = .slice (some ⟨g, 0, none⟩) (zs.length - 1) c ∧ M = [own 3 1 (.slice (some ⟨g, 0, none⟩) (zs.length - 1) c) (zs.length - 1) (zv (zs.take i ++ zs.drop (i + 1)))]) := by
  refine Con.get (fun w0 w F H => own_cap (n := zs.length) (c := c) .here H) ?_
  rintro ⟨hc, hcm⟩
  refine fn_y Tryz.func150 Tryz.mixed ?_
  intro w0
  refine Y9 ?_
  refine Zhg (Zok (l := i) (h := i + 1) (mx := zs.length) rfl rfl rfl rfl (by omega) (by omega) (by omega)) ?_
  refine Y4 ?_
  refine Zhg (Zmj (a := i) (b := i + 1) rfl rfl) ?_
  refine Zot 16 rfl ((by omega)) ?_
  refine V7 ?_
  refine Znz (n := zs.length) (cp := c) .here (by omega) ?_
  intro g' rest hg _ _ hr
  obtain rfl : g = g' := by simpa using hg
  have hlen : (zv zs).length = zs.length := by simp
  have hdl : (zv (zs.drop (i + 1))).length = zs.length - (i + 1) := by simp
  refine Ct.o ?_
  refine Zij ([]) [] (.q 0 (.q 1 (.q 2 (.q 3 (.q 4 (.q 5 (.e 6 false (.q 7 .nil)))))))) (by kernel_rfl) (by kernel_rfl) (Imp.arr Arr.stop) ?_
  refine W2 ?_
  refine Zim rfl (Zm0 (h := i) rfl rfl (by omega)) ?_
  refine W2 ?_
  refine Zim rfl (Zci (l := ((i + 1 : Nat) : Int)) (h := (zs.length : Int)) rfl rfl rfl (by omega) (by omega)) ?_
  refine Ziq rfl ?_; refine Zoi (n := i) (m := zs.length - (i + 1)) (news := zv (zs.drop (i + 1))) (cap := c) (size := 1) rfl rfl (by rw [zv, List.map_drop]; exact rd_cut qH hlen hi (by omega)) qR (zv_one _) (by omega) (by simp; omega) rfl ?_; refine Zg3 ⟨(fun hh => Bool.noConfusion hh), ?_⟩
  refine W2 ?_
  refine Ct.o ?_
  rw [show i + (zs.length - (i + 1)) = zs.length - 1 by omega]
  refine Y5 ?_
  refine Zhg (Zna (l := zs.length - 1) (h := zs.length) rfl rfl rfl (by omega) (by omega) (by omega)) ?_
  refine Zoj (n := 0) (o := zs.length - 1) (z := .int .i64 0) rfl rfl (by rw [show zs.length - (zs.length - 1) = 0 + 1 by omega]; rfl) qR (by rw [wr_size]; simp; omega) rfl ?_
  refine V1 ?_
  refine Zgp ((Imp.arr (N := [cl g (wr (wr (zv zs ++ rest).toArray (i * 1) (zv (zs.drop (i + 1)))) (zs.length - 1) (List.replicate (0 + 1) (Value.int .i64 0))) 3]) qV).trans (Imp.own_mk (E := 3) (size := 1) (n := zs.length - 1) (cap := c) (xs := zv (zs.take i ++ zs.drop (i + 1))) (by omega) (by omega) (by rw [wr_size, wr_size]; simp; omega) (by
    rw [Nat.mul_one, Nat.mul_one, show zv (zs.take i ++ zs.drop (i + 1)) = (zv zs).take i ++ zv (zs.drop (i + 1)) from by simp]
    exact del_take _ _ _ _ _ _ hlen hi hdl))) ?_
  refine V4 ?_
  refine rx1 (Zhc rfl (Zg7)) ?_
  exact ⟨_, ⟨rfl, rfl⟩, qI⟩
theorem cloneB_x {L : List Asrt} {a : Option Addr} {c : Nat} {b : List Byte} (h : Rd L 1 (.slice a b.length c) b.length (b.map u8b)) (hl : b.length ≤ 1000000) : Con Tryz.prog 121 [.slice a b.length c] L (fun v M => ∃ a' c', v = .slice a' b.length c' ∧ M = own 5 1 (.slice a' b.length c') b.length (b.map u8b) :: L) := by
  cases ha : a.isNone with
  | true =>
    obtain rfl : a = none := by simpa using ha
    by_cases h0 : b.length = 0
    · obtain rfl : b = [] := List.eq_nil_of_length_eq_zero h0
      refine fn_y Tryz.func121 Tryz.mixed ?_
      intro w0
      refine Y6 ?_
      refine Zhm 4 rfl (rfl) ?_
      refine V5 ?_
      refine rx1 (Zhc rfl (Zg7)) ?_
      exact ⟨_, ⟨none, 0, rfl, rfl⟩, (Imp.arr (N := L) qV).trans Imp.own_nil⟩
    · refine Con.get (fun w0 w F H => h.someAt (by omega) H) ?_
      rintro ⟨s1, s2, hh⟩
      cases hh
  | false =>
    refine fn_y Tryz.func121 Tryz.mixed ?_
    intro w0
    refine Y6 ?_
    refine Zhn 4 rfl (ha) ?_
    refine Y3 ?_
    refine Zh7 (cs := #[]) (by omega) (by omega) rfl ?_; intro b5; refine Zgw ((Imp.arr (N := cl b5 #[] 5 :: L) qV).trans (Imp.own_mk (E := 5) (size := 1) (n := 0) (cap := 0) (xs := []) (by omega) (by omega) rfl rfl)) ?_
    refine Y1 ?_
    refine Zia rfl rfl qH (h.imp (Imp.arr qV)) qN (by omega) qS ?_; intro a3 c3
    refine V2 ?_
    rw [Nat.zero_add, List.nil_append]
    refine rx1 (Zhc rfl (Zg7)) ?_
    exact ⟨_, ⟨a3, c3, rfl, rfl⟩, qI⟩
end Go.Sl
namespace Go.Sl.HostS
open Go Go.Sl

structure Fault where
  (at_ kind page byte : Int)
  by_ : Byte
  back : Int
structure Touch where
  (op page len : Int)
  head : List Byte
theorem Touch.eq_iff (a b : Touch) : (a.op = b.op ∧ a.page = b.page ∧ a.len = b.len ∧ a.head = b.head) ↔ a = b := by
  constructor
  · rintro ⟨h1, h2, h3, h4⟩
    cases a; cases b
    simp only at h1 h2 h3 h4
    rw [h1, h2, h3, h4]
  · rintro rfl
    exact ⟨rfl, rfl, rfl, rfl⟩
instance : DecidableEq Touch := fun a b => decidable_of_iff _ (Touch.eq_iff a b)
abbrev Bytes := List Byte

structure HS where
  pages : Int
  size : Nat
  lay : Int → List Bytes
  reg : BitVec 64
  coming : Int → List Fault
  ops : Nat
  log : List Touch
  down : Bool

def setF {α : Type} (f : Int → α) (k : Int) (x : α) : Int → α := fun k' => if k' = k then x else f k'
def back (s : HS) (page writes : Int) : Bytes :=
  let l := s.lay page
  let at_ : Int := (l.length : Int) - 1 - max writes 0
  if 0 ≤ at_ then l.getD at_.toNat [] else List.replicate s.size 0#8
def there (s : HS) (page : Int) : Prop := 0 ≤ page ∧ page < s.pages
instance (s : HS) (page : Int) : Decidable (there s page) := inferInstanceAs (Decidable (_ ∧ _))
def headOf (b : Bytes) : List Byte := b.take 12 ++ List.replicate (12 - b.length) 0#8
def touchOf (s : HS) (op page : Int) (b : Bytes) : Touch :=
  if op = 1 then ⟨1, page, s.size, headOf b⟩
  else if op = 0 then ⟨0, page, s.size, List.replicate 12 0#8⟩
  else ⟨op, 0, 8, List.replicate 12 0#8⟩
structure FOk (f : Fault) : Prop where
  b0 : -9223372036854775808 ≤ f.back
  b1 : f.back ≤ 9223372036854775807
structure Ok (s : HS) : Prop where
  p0 : 0 ≤ s.pages
  p1 : s.pages ≤ 65536
  z0 : 1 ≤ s.size
  z1 : s.size ≤ 4124
  row : ∀ p, ∀ r ∈ s.lay p, r.length = s.size
  many : ∀ p, (s.lay p).length ≤ s.ops
  log : s.log.length ≤ s.ops
  flt : ∀ k, ∀ f ∈ s.coming k, FOk f
  fln : ∀ k, (s.coming k).length ≤ 2932031007401
def spoil1 (s : HS) (page : Int) (b : Bytes) (f : Fault) : Bytes :=
  if f.kind = 0 then (if 0 ≤ f.byte ∧ f.byte < (b.length : Int) then b.set f.byte.toNat (b.getD f.byte.toNat 0#8 ^^^ f.by_) else b)
  else if f.kind = 1 then back s page f.back
  else if f.kind = 2 then (if there s f.page then back s f.page 0 else b)
  else b
def spoilt (s : HS) (page : Int) (l : List Fault) : Bytes := l.foldl (spoil1 s page) (back s page 0)
def taken (s : HS) : HS := { s with coming := setF s.coming s.ops [], ops := s.ops + 1 }
def logged (s : HS) (op page : Int) (b : Bytes) : HS := { taken s with log := s.log ++ [touchOf s op page b] }
def before (fl : List Fault) : Bool := fl.any fun f => f.kind == 3
def behind (fl : List Fault) : Bool := fl.any fun f => f.kind == 4
def does (s : HS) (op page : Int) (b : Bytes) (act : HS → HS) : HS × Nat :=
  if s.down then (s, 110) else
  let fl := s.coming s.ops
  if before fl then ({ taken s with down := true }, 110) else
  let s2 := act (logged s op page b)
  if behind fl then ({ s2 with down := true }, 110) else (s2, 0)
def done (s : HS) : Bool := !s.down && !before (s.coming s.ops)
def wrote (page : Int) (b : Bytes) (s : HS) : HS := { s with lay := setF s.lay page (s.lay page ++ [b]) }
def readR (s : HS) (page : Int) : Bytes × Nat × HS :=
  if there s page then
    let r := does s 0 page [] id
    if r.2 = 0 then (spoilt s page (s.coming s.ops), 0, r.1) else ([], r.2, r.1)
  else ([], 2, s)
def writeR (s : HS) (page : Int) (b : Bytes) : Nat × HS :=
  if there s page then
    if b.length = s.size then
      let r := does s 1 page b (wrote page b)
      (r.2, r.1)
    else (4, s)
  else (2, s)
def comes (fl : List Fault) : Int → List Fault := fun k => fl.filter fun f => f.at_ == k
def fresh (pages : Int) (size : Nat) (fl : List Fault) : HS := ⟨pages, size, fun _ => [], 0#64, comes fl, 0, [], false⟩
def kindly (f : Fault) : Bool := decide (0 ≤ f.kind) && decide (f.kind ≤ 4)
def mayBe (pages size : Int) (fl : List Fault) : Prop := (0 ≤ pages ∧ pages ≤ 65536 ∧ 1 ≤ size ∧ size ≤ 4124) ∧ fl.all kindly = true
end Go.Sl.HostS
namespace Go.Sl
open Go
abbrev Wd := BitVec 32
def leB {w : Nat} (x : BitVec w) (n : Nat) : List Byte := (List.range n).map fun i => (x >>> (8 * i)).setWidth 8
theorem leB_len {w : Nat} (x : BitVec w) (n : Nat) : (leB x n).length = n := by simp [leB]
theorem leB_succ {w : Nat} (x : BitVec w) (n : Nat) : leB x (n + 1) = leB x n ++ [(x >>> (8 * n)).setWidth 8] := by simp [leB, List.range_succ]
def lowB (w : Nat) (b : List Byte) : BitVec w := (b.zipIdx).foldl (fun (v : BitVec w) (x : Byte × Nat) => v ||| (x.1.setWidth w) <<< (8 * x.2)) 0#w
theorem lowB_snoc (w : Nat) (b : List Byte) (x : Byte) : lowB w (b ++ [x]) = lowB w b ||| (x.setWidth w) <<< (8 * b.length) := by
  unfold lowB
  rw [List.zipIdx_append, List.foldl_append]
  simp
def rotW (x : Wd) (n : Nat) : Wd := x <<< n ||| x >>> (32 - n)
def quarterW (a b c d : Wd) : Wd × Wd × Wd × Wd :=
  let a1 := a + b
  let d1 := rotW (d ^^^ a1) 16
  let c1 := c + d1
  let b1 := rotW (b ^^^ c1) 12
  let a2 := a1 + b1
  let d2 := rotW (d1 ^^^ a2) 8
  let c2 := c1 + d2
  let b2 := rotW (b1 ^^^ c2) 7
  (a2, b2, c2, d2)
abbrev Quad := Nat × Nat × Nat × Nat
def qAt (s : List Wd) (q : Quad) : List Wd :=
  let r := quarterW (s.getD q.1 0) (s.getD q.2.1 0) (s.getD q.2.2.1 0) (s.getD q.2.2.2 0)
  (((s.set q.1 r.1).set q.2.1 r.2.1).set q.2.2.1 r.2.2.1).set q.2.2.2 r.2.2.2
theorem qAt_len (s : List Wd) (q : Quad) : (qAt s q).length = s.length := by simp [qAt]
def quadOf (turn i : Nat) : Quad := (i, 4 + (i + turn) % 4, 8 + (i + 2 * turn) % 4, 12 + (i + 3 * turn) % 4)
def quads : List Quad := [quadOf 0 0, quadOf 0 1, quadOf 0 2, quadOf 0 3, quadOf 1 0, quadOf 1 1, quadOf 1 2, quadOf 1 3]
def twiceN (s : List Wd) (n : Nat) : List Wd := (quads.take n).foldl qAt s
def twiceW (s : List Wd) : List Wd := twiceN s 8
theorem foldq_len (l : List Quad) (s : List Wd) : (l.foldl qAt s).length = s.length := by
  induction l generalizing s with
  | nil => rfl
  | cons q l ih => rw [List.foldl_cons, ih, qAt_len]
theorem twiceN_len (s : List Wd) (n : Nat) : (twiceN s n).length = s.length := foldq_len _ _
theorem twiceW_len (s : List Wd) : (twiceW s).length = s.length := twiceN_len _ _
theorem twiceN_succ (s : List Wd) (n : Nat) (h : n < 8) : twiceN s (n + 1) = qAt (twiceN s n) (quadOf (n / 4) (n % 4)) := by
  have e : ∀ m : Fin 8, quads.take (m.val + 1) = quads.take m.val ++ [quadOf (m.val / 4) (m.val % 4)] := by decide
  unfold twiceN
  rw [e ⟨n, h⟩, List.foldl_append]; rfl
def iterW : Nat → List Wd → List Wd
  | 0, s => s
  | n + 1, s => twiceW (iterW n s)
theorem iterW_len (n : Nat) (s : List Wd) : (iterW n s).length = s.length := by
  induction n with
  | zero => rfl
  | succ n ih => rw [iterW, twiceW_len, ih]
def stateW (key : List Byte) (ctr : Wd) (nonce : List Byte) : List Wd :=
  [1634760805#32, 857760878#32, 2036477234#32, 1797285236#32] ++ ((List.range 8).map (fun i => lowB 32 ((key.drop (4 * i)).take 4)) ++ (ctr :: (List.range 3).map (fun i => lowB 32 ((nonce.drop (4 * i)).take 4))))
theorem stateW_len (key : List Byte) (ctr : Wd) (nonce : List Byte) : (stateW key ctr nonce).length = 16 := by simp [stateW]
def sumW (s f : List Wd) (i : Nat) : Wd := s.getD i 0 + f.getD i 0
def outW64 (s f : List Wd) (n : Nat) : List Byte := (List.range n).flatMap fun i => leB (sumW s f i) 4
theorem outW64_len (s f : List Wd) (n : Nat) : (outW64 s f n).length = 4 * n := by
  induction n with
  | zero => rfl
  | succ n ih => rw [outW64, List.range_succ, List.flatMap_append, List.length_append]; rw [outW64] at ih; rw [ih]; simp [leB_len]; omega
theorem outW64_succ (s f : List Wd) (n : Nat) : outW64 s f (n + 1) = outW64 s f n ++ leB (sumW s f n) 4 := by
  unfold outW64; rw [List.range_succ, List.flatMap_append]; simp
def blockB (key : List Byte) (ctr : Wd) (nonce : List Byte) : List Byte := outW64 (iterW 10 (stateW key ctr nonce)) (stateW key ctr nonce) 16
theorem blockB_len (key : List Byte) (ctr : Wd) (nonce : List Byte) : (blockB key ctr nonce).length = 64 := outW64_len _ _ _
def ksB (key nonce : List Byte) (p : Nat) : Byte := (blockB key (BitVec.ofNat 32 (p / 64)) nonce).getD (p % 64) 0#8
def xorB (key nonce : List Byte) (p : Nat) (b : List Byte) : List Byte := (List.range b.length).map fun j => b.getD j 0#8 ^^^ ksB key nonce (p + j)
theorem xorB_len (key nonce : List Byte) (p : Nat) (b : List Byte) : (xorB key nonce p b).length = b.length := by simp [xorB]
theorem xorB_get (key nonce : List Byte) (p : Nat) (b : List Byte) (j : Nat) (h : j < b.length) : (xorB key nonce p b)[j]'(by rw [xorB_len]; exact h) = b[j] ^^^ ksB key nonce (p + j) := by
  simp only [xorB, List.getElem_map, List.getElem_range]
  rw [List.getD_eq_getElem?_getD, List.getElem?_eq_getElem h]; rfl
theorem xorB_back (key nonce : List Byte) (p : Nat) (b : List Byte) : xorB key nonce p (xorB key nonce p b) = b := by
  apply List.ext_getElem (by rw [xorB_len, xorB_len])
  intro j h1 h2
  rw [xorB_get _ _ _ _ _ (by rw [xorB_len]; exact h2), xorB_get _ _ _ _ _ h2, BitVec.xor_assoc, BitVec.xor_self, BitVec.xor_zero]
end Go.Sl
namespace Go.Sl
open Go Go.Proofs
attribute [local irreducible] pt own old pur ex all den denOps denS xOps xC cX CX xthen xblk xcut xloop xng retX resX Calls PV Rd Con
def carry (x y c : BitVec 64) : BitVec 64 := BitVec.ofNat 64 ((x.toNat + y.toNat + c.toNat) / 18446744073709551616)
def borrow (x y c : BitVec 64) : BitVec 64 := if x.toNat < y.toNat + c.toNat then 1#64 else 0#64
theorem ext_add64 (x y c : BitVec 64) (hc : c.toNat ≤ 1) : extv Tryz.prog 247 [u64b x, u64b y, u64b c] (.tuple #[u64b (x + y + c), u64b (carry x y c)]) := by
  intro w
  show (callFunc _ #[u64b x, u64b y, u64b c]).run _ w = _
  rw [run_callFunc_extern Tryz.func247 (by kernel_rfl) (by kernel_rfl) (by kernel_rfl) (e := add64Entry) (by kernel_rfl), run_add64 _ _ _ (by omega) (by omega) (by omega) (by omega)]
  simp only [Result.andThen]
  have hx := x.isLt; have hy := y.isLt; have hz := c.isLt
  have e1 : ((x + y + c).toNat : Int) = (x.toNat + y.toNat + c.toNat) % 18446744073709551616 := by simp only [BitVec.toNat_add]; omega
  have e2 : ((carry x y c).toNat : Int) = (x.toNat + y.toNat + c.toNat) / 18446744073709551616 := by simp only [carry, BitVec.toNat_ofNat]; omega
  rw [← e1, ← e2]
def sub64E : Array Value → Sem Value := fun args => do
  let (x, y, b) ← Extern.MathBitsCarry.three "Sub64" args
  pure (Extern.MathBitsCarry.pair ((x + Extern.MathBitsCarry.m64 - y - b) % Extern.MathBitsCarry.m64) (if x < y + b then 1 else 0))
theorem run_sub64E {P : Program} (x y b : Nat) (hb : b ≤ 1) (w : World) :
    (sub64E #[.int .u64 x, .int .u64 y, .int .u64 b]).run P w =
      .ok (.tuple #[.int .u64 (((x + 18446744073709551616 - y - b) % 18446744073709551616 : Nat) : Int), .int .u64 ((if x < y + b then 1 else 0 : Nat) : Int)]) w := by
  have : b = 0 ∨ b = 1 := by omega
  rcases this with rfl|rfl <;> rfl
theorem ext_sub64 (x y c : BitVec 64) (hc : c.toNat ≤ 1) : extv Tryz.prog 246 [u64b x, u64b y, u64b c] (.tuple #[u64b (x - y - c), u64b (borrow x y c)]) := by
  intro w
  show (callFunc _ #[u64b x, u64b y, u64b c]).run _ w = _
  rw [run_callFunc_extern Tryz.func246 (by kernel_rfl) (by kernel_rfl) (by kernel_rfl) (e := sub64E) (by kernel_rfl), run_sub64E _ _ _ hc]
  simp only [Result.andThen]
  have hx := x.isLt; have hy := y.isLt; have hz := c.isLt
  have e1 : (x - y - c).toNat = (x.toNat + 18446744073709551616 - y.toNat - c.toNat) % 18446744073709551616 := by simp only [BitVec.toNat_sub]; omega
  have e2 : (borrow x y c).toNat = if x.toNat < y.toNat + c.toNat then 1 else 0 := by unfold borrow; split <;> rfl
  rw [← e1, ← e2]
def wordB (b : List (BitVec 8)) : BitVec 64 := b.foldr (fun x a => a <<< 8 ||| x.setWidth 64) 0#64
theorem word_c (b : List (BitVec 8)) (hb : b.length = 8) : Con Tryz.prog 244 [.agg (b.map u8b).toArray] [] (fun v M => v = u64b (wordB b) ∧ M = []) := by
  refine fn_y Tryz.func244 Tryz.mixed ?_
  intro w0
  refine Y1 ?_
  refine Zh5 rfl ?_; intro b1
  refine V8 ?_
  refine Zgo [(3, 15)] (by kernel_rfl) (fun i : Nat => i ≤ 8) (fun _ => [cl b1 (b.map u8b).toArray 322]) (fun i => [(3, u64b (wordB (b.drop i))), (4, .int .i64 ((i : Int) - 1))]) (fun i => i) 8 (by omega) qI ⟨by rw [List.drop_of_length_le (by omega)]; rfl, rfl, trivial⟩ ?_
  intro i u hi
  refine V4 ?_
  refine Zgg rfl (fun hB => ?_) (fun hB => ?_)
  · obtain ⟨k, rfl⟩ : ∃ k, i = k + 1 := ⟨i - 1, by omega⟩
    refine Y2 ?_
    refine Zhg (Zlj (m := 8) rfl rfl) ?_
    refine Y1 ?_
    first|refine Zhg (Zl5 (n := k) rfl (int_eq (by push_cast; omega))) ?_|refine Zhg (Zl3 (n := k) rfl (int_eq (by push_cast; omega))) ?_
    refine Zhp rfl qH (getL (by omega)) ?_
    refine Zhg (Zjx rfl) ?_
    refine V8 ?_
    refine Zgl k qO qO qI ⟨?_, ?_, trivial⟩
    · rw [List.drop_eq_getElem_cons (show k < b.length by omega)]; rfl
    · show Value.int _ _ = _; congr 1; omega
  · have : i = 0 := by omega
    subst this
    refine V4 ?_
    refine rx1 (Zg9 rfl (Zg7)) ?_
    exact ⟨_, ⟨rfl, rfl⟩, by exact Imp.arr (by repeat (first|exact Arr.nil|exact Arr.stop|refine Arr.cons (by repeat constructor) ?_|refine Arr.skip ?_))⟩
theorem carry_le (x y c : BitVec 64) (hc : c.toNat ≤ 1) : (carry x y c).toNat ≤ 1 := by
  have hx := x.isLt; have hy := y.isLt
  simp only [carry, BitVec.toNat_ofNat]; omega
theorem borrow_le (x y c : BitVec 64) : (borrow x y c).toNat ≤ 1 := by
  unfold borrow; split <;> simp
def mulHi (x y : BitVec 64) : BitVec 64 := BitVec.ofNat 64 (x.toNat * y.toNat / 18446744073709551616)
theorem mulHi_eq (x y : BitVec 64) : (x >>> 32) * (y >>> 32) + (((x >>> 32) * (y &&& 4294967295#64) + ((x &&& 4294967295#64) * (y &&& 4294967295#64)) >>> 32) >>> 32) +
    ((((x >>> 32) * (y &&& 4294967295#64) + ((x &&& 4294967295#64) * (y &&& 4294967295#64)) >>> 32) &&& 4294967295#64) + (x &&& 4294967295#64) * (y >>> 32)) >>> 32 = mulHi x y := by
  have hx := x.isLt; have hy := y.isLt
  obtain ⟨h1, h2, h3, h4⟩ := Lib.mul64_hi x.toNat y.toNat hx hy
  have m : ∀ a : BitVec 64, (a &&& 4294967295#64).toNat = a.toNat % 4294967296 := fun a => by
    rw [BitVec.toNat_and]; exact Nat.and_two_pow_sub_one_eq_mod a.toNat 32
  have s : ∀ a : BitVec 64, (a >>> 32).toNat = a.toNat / 4294967296 := fun a => by
    rw [BitVec.toNat_ushiftRight, Nat.shiftRight_eq_div_pow]
  have ha := Lib.half_mul_le (a := x.toNat / 4294967296) (b := y.toNat / 4294967296) (by omega) (by omega)
  have hb := Lib.half_mul_le (a := x.toNat / 4294967296) (b := y.toNat % 4294967296) (by omega) (by omega)
  have hc := Lib.half_mul_le (a := x.toNat % 4294967296) (b := y.toNat / 4294967296) (by omega) (by omega)
  have hd := Lib.half_mul_le (a := x.toNat % 4294967296) (b := y.toNat % 4294967296) (by omega) (by omega)
  apply BitVec.eq_of_toNat_eq
  simp only [BitVec.toNat_add, BitVec.toNat_mul, m, s, mulHi, BitVec.toNat_ofNat]
  rw [← h4]
  generalize x.toNat / 4294967296 * (y.toNat / 4294967296) = a at *
  generalize x.toNat / 4294967296 * (y.toNat % 4294967296) = b at *
  generalize x.toNat % 4294967296 * (y.toNat / 4294967296) = c at *
  generalize x.toNat % 4294967296 * (y.toNat % 4294967296) = d at *
  omega
theorem mul64_c (x y : BitVec 64) : Con Tryz.prog 272 [u64b x, u64b y] [] (fun v M => v = .tuple #[u64b (mulHi x y), u64b (x * y)] ∧ M = []) := by
  refine fn_y Tryz.func272 Tryz.mixed ?_
  intro w0
  refine Y6 ?_
  refine Zhg (Zlf (y := 4294967295#64) rfl rfl) ?_
  refine Y4 ?_
  refine Zhg (Zlk (m := 32) rfl rfl) ?_
  refine Y4 ?_
  refine Zhg (Zlf (y := 4294967295#64) rfl rfl) ?_
  refine Y4 ?_
  refine Zhg (Zlk (m := 32) rfl rfl) ?_
  refine Y5 ?_
  refine Zhg (Zle rfl rfl) ?_
  refine Y5 ?_
  refine Zhg (Zle rfl rfl) ?_
  refine Y1 ?_
  refine Zhg (Zlk (m := 32) rfl rfl) ?_
  refine Y5 ?_
  refine Zhg (Zlf (y := 4294967295#64) rfl rfl) ?_
  refine Y4 ?_
  refine Zhg (Zlk (m := 32) rfl rfl) ?_
  refine Y6 ?_
  refine Zhg (Zle rfl rfl) ?_
  refine Y6 ?_
  refine Zhg (Zle rfl rfl) ?_
  refine Y3 ?_
  refine Zhg (Zlk (m := 32) rfl rfl) ?_
  refine Y6 ?_
  refine Zhg (Zle rfl rfl) ?_
  refine V2 ?_
  rw [mulHi_eq]
  refine rx2 (Zg9 rfl (Zg9 rfl (Zg7))) ?_
  exact ⟨_, ⟨rfl, rfl⟩, by exact Imp.arr (by repeat (first|exact Arr.nil|exact Arr.stop|refine Arr.cons (by repeat constructor) ?_|refine Arr.skip ?_))⟩
abbrev W128 := BitVec 64 × BitVec 64
abbrev W192 := BitVec 64 × BitVec 64 × BitVec 64
def wA (x : W128) : Array Value := #[u64b x.1, u64b x.2]
def hA (x : W192) : Array Value := #[u64b x.1, u64b x.2.1, u64b x.2.2]
def mulW (x y : BitVec 64) : W128 := (x * y, mulHi x y)
theorem mul_c (x y : BitVec 64) : Con Tryz.prog 268 [u64b x, u64b y] [] (fun v M => v = .agg (wA (mulW x y)) ∧ M = []) := by
  refine fn_y Tryz.func268 Tryz.mixed ?_
  intro w0
  refine Y1 ?_
  refine Zhz (cs := #[u64b 0#64, u64b 0#64]) rfl ?_; intro b4
  refine Y4 ?_
  refine Zor (c := mul64_c _ _) (k := ?_)
  rintro _ _ ⟨rfl, rfl⟩
  refine Y10 ?_
  refine Zhg (Zdm (cs := #[.int .u64 _, .int .u64 _]) rfl) ?_
  first|refine Zhy rfl rfl qR qZ qN qZ ?_|refine Zhx rfl rfl qR qZ qN qZ rfl ?_
  refine V1 ?_
  refine rx1 (Zhe rfl qH qZ (Zg7)) ?_
  exact ⟨_, ⟨rfl, rfl⟩, by exact Imp.arr (by repeat (first|exact Arr.nil|exact Arr.stop|refine Arr.cons (by repeat constructor) ?_|refine Arr.skip ?_))⟩
def addW (x y : W128) : W128 := (x.1 + y.1 + 0#64, x.2 + y.2 + carry x.1 y.1 0#64)
theorem add_c (x y : W128) : Con Tryz.prog 269 [.agg (wA x), .agg (wA y)] [] (fun v M => v = .agg (wA (addW x y)) ∧ M = []) := by
  refine fn_y Tryz.func269 Tryz.mixed ?_
  intro w0
  refine Y1 ?_
  refine Zh5 rfl ?_; intro b2
  refine Zh5 rfl ?_; intro b3
  refine Zhz (cs := #[u64b 0#64, u64b 0#64]) rfl ?_; intro b4
  refine Y6 ?_
  refine Zhg (Zh9 rfl (ext_add64 _ _ 0#64 (by decide)) rfl) ?_
  refine Y12 ?_
  refine Zhg (Zh9 rfl (ext_add64 _ _ _ (carry_le _ _ _ (by decide))) rfl) ?_
  refine Y9 ?_
  refine Zhg (Zdm (cs := #[.int .u64 _, .int .u64 _]) rfl) ?_
  first|refine Zhy rfl rfl qR qZ qN qZ ?_|refine Zhx rfl rfl qR qZ qN qZ rfl ?_
  refine V1 ?_
  refine rx1 (Zhe rfl qH qZ (Zg7)) ?_
  exact ⟨_, ⟨rfl, rfl⟩, by exact Imp.arr (by repeat (first|exact Arr.nil|exact Arr.stop|refine Arr.cons (by repeat constructor) ?_|refine Arr.skip ?_))⟩
def plusW (h : W192) (x : W128) : W192 := (h.1 + x.1 + 0#64, h.2.1 + x.2 + carry h.1 x.1 0#64, h.2.2 + carry h.2.1 x.2 (carry h.1 x.1 0#64))
theorem plus_c (h : W192) (x : W128) : Con Tryz.prog 270 [.agg (hA h), .agg (wA x)] [] (fun v M => v = .agg (hA (plusW h x)) ∧ M = []) := by
  refine fn_y Tryz.func270 Tryz.mixed ?_
  intro w0
  refine Y1 ?_
  refine Zh5 rfl ?_; intro b2
  refine Zh5 rfl ?_; intro b3
  refine Zhz (cs := #[u64b 0#64, u64b 0#64, u64b 0#64]) rfl ?_; intro b4
  refine Y5 ?_
  first|refine Zhg (Zl5 (n := 0) rfl rfl) ?_|refine Zhg (Zl3 (n := 0) rfl rfl) ?_
  refine Y3 ?_
  refine Zhg (Zh9 rfl (ext_add64 _ _ 0#64 (by decide)) rfl) ?_
  refine Y3 ?_
  first|refine Zhg (Zl5 (n := 0) rfl rfl) ?_|refine Zhg (Zl3 (n := 0) rfl rfl) ?_
  refine Y4 ?_
  first|refine Zhg (Zl5 (n := 1) rfl rfl) ?_|refine Zhg (Zl3 (n := 1) rfl rfl) ?_
  refine Y4 ?_
  refine Zhg (Zh9 rfl (ext_add64 _ _ _ (carry_le _ _ _ (by decide))) rfl) ?_
  refine Y3 ?_
  first|refine Zhg (Zl5 (n := 1) rfl rfl) ?_|refine Zhg (Zl3 (n := 1) rfl rfl) ?_
  refine Y4 ?_
  first|refine Zhg (Zl5 (n := 2) rfl rfl) ?_|refine Zhg (Zl3 (n := 2) rfl rfl) ?_
  refine Y3 ?_
  first|refine Zhg (Zl5 (n := 2) rfl rfl) ?_|refine Zhg (Zl3 (n := 2) rfl rfl) ?_
  refine Y4 ?_
  first|refine Zhy rfl rfl qR qZ qN qZ ?_|refine Zhx rfl rfl qR qZ qN qZ rfl ?_
  refine V1 ?_
  refine rx1 (Zhe rfl qH qZ (Zg7)) ?_
  exact ⟨_, ⟨rfl, rfl⟩, by exact Imp.arr (by repeat (first|exact Arr.nil|exact Arr.stop|refine Arr.cons (by repeat constructor) ?_|refine Arr.skip ?_))⟩
def timesW (h : W192) (r : W128) : W192 :=
  let m0 := mulW h.1 r.1
  let m1 := addW (mulW h.2.1 r.1) (mulW h.1 r.2)
  let m2 := addW (mulW h.2.2 r.1) (mulW h.2.1 r.2)
  let m3 := mulW h.2.2 r.2
  let t1 := m1.1 + m0.2 + 0#64
  let c1 := carry m1.1 m0.2 0#64
  let t2 := m2.1 + m1.2 + c1
  let c2 := carry m2.1 m1.2 c1
  let t3 := m3.1 + m2.2 + c2
  let f : W128 := (t2 &&& ~~~ 3#64, t3)
  plusW (plusW (m0.1, t1, t2 &&& 3#64) f) (f.1 >>> 2 ||| f.2 <<< 62, f.2 >>> 2)
theorem times_c (h : W192) (r : W128) : Con Tryz.prog 261 [.agg (hA h), .agg (wA r)] [] (fun v M => v = .agg (hA (timesW h r)) ∧ M = []) := by
  refine fn_y Tryz.func261 Tryz.mixed ?_
  intro w0
  refine Y1 ?_
  refine Zh5 rfl ?_; intro b2
  refine Zh5 rfl ?_; intro b3
  refine Zhz (cs := #[u64b 0#64, u64b 0#64, u64b 0#64]) rfl ?_; intro b4
  refine Y2 ?_
  first|refine Zhg (Zl5 (n := 0) rfl rfl) ?_|refine Zhg (Zl3 (n := 0) rfl rfl) ?_
  refine Y1 ?_
  first|refine Zhg (Zl5 (n := 0) rfl rfl) ?_|refine Zhg (Zl3 (n := 0) rfl rfl) ?_
  refine Y1 ?_
  refine Zor (c := mul_c _ _) (k := ?_)
  rintro _ _ ⟨rfl, rfl⟩
  refine Y1 ?_
  refine Zhz (cs := #[u64b 0#64, u64b 0#64]) rfl ?_; intro b5
  first|refine Zhy rfl rfl qR qZ qN qZ ?_|refine Zhx rfl rfl qR qZ qN qZ rfl ?_
  refine V1 ?_
  refine Zij (_) [3, 4, 6, 8, 9, 10, 11] (.q 0 (.q 2 (.q 5 (.q 7 (.r 1 (.r 3 (.r 6 (.r 8 (.e 4 true (.e 9 true (.e 10 true (.a 11 (.e 12 false .nil))))))))))))) (by kernel_rfl) (by kernel_rfl) (Imp.refl _) ?_
  first|refine Zim rfl (Zl5 (n := 1) rfl rfl) ?_|refine Zim rfl (Zl3 (n := 1) rfl rfl) ?_
  first|refine Zim rfl (Zl5 (n := 0) rfl rfl) ?_|refine Zim rfl (Zl3 (n := 0) rfl rfl) ?_
  first|refine Zim rfl (Zl5 (n := 0) rfl rfl) ?_|refine Zim rfl (Zl3 (n := 0) rfl rfl) ?_
  first|refine Zim rfl (Zl5 (n := 1) rfl rfl) ?_|refine Zim rfl (Zl3 (n := 1) rfl rfl) ?_
  refine W4 ?_
  refine Ziq rfl ?_
  refine Zor (c := mul_c _ _) (k := ?_)
  rintro _ _ ⟨rfl, rfl⟩
  refine Y1 ?_
  refine Zg3 ⟨fun _ => Imp.arr qV, ?_⟩
  refine Ziq rfl ?_
  refine Zor (c := mul_c _ _) (k := ?_)
  rintro _ _ ⟨rfl, rfl⟩
  refine Y1 ?_
  refine Zg3 ⟨fun _ => Imp.arr qV, ?_⟩
  refine Ziq rfl ?_
  refine Zor (c := add_c _ _) (k := ?_)
  rintro _ _ ⟨rfl, rfl⟩
  refine Y1 ?_
  refine Zg3 ⟨fun _ => Imp.arr qV, ?_⟩
  refine Zir rfl (cs := #[u64b 0#64, u64b 0#64]) rfl ?_; intro b6
  refine Ziq rfl ?_
  first|refine Zhy rfl rfl qR qZ qN qZ ?_|refine Zhx rfl rfl qR qZ qN qZ rfl ?_
  refine Zg3 ⟨(fun hh => Bool.noConfusion hh), ?_⟩
  refine Zik ?_
  refine Ct.o ?_
  refine Zij (_) [3, 4, 6, 8, 9, 10, 11] (.q 0 (.q 2 (.q 5 (.q 7 (.r 1 (.r 3 (.r 6 (.r 8 (.e 4 true (.e 9 true (.e 10 true (.a 11 (.e 12 false .nil))))))))))))) (by kernel_rfl) (by kernel_rfl) (Imp.refl _) ?_
  first|refine Zim rfl (Zl5 (n := 2) rfl rfl) ?_|refine Zim rfl (Zl3 (n := 2) rfl rfl) ?_
  first|refine Zim rfl (Zl5 (n := 0) rfl rfl) ?_|refine Zim rfl (Zl3 (n := 0) rfl rfl) ?_
  first|refine Zim rfl (Zl5 (n := 1) rfl rfl) ?_|refine Zim rfl (Zl3 (n := 1) rfl rfl) ?_
  first|refine Zim rfl (Zl5 (n := 1) rfl rfl) ?_|refine Zim rfl (Zl3 (n := 1) rfl rfl) ?_
  refine W4 ?_
  refine Ziq rfl ?_
  refine Zor (c := mul_c _ _) (k := ?_)
  rintro _ _ ⟨rfl, rfl⟩
  refine Y1 ?_
  refine Zg3 ⟨fun _ => Imp.arr qV, ?_⟩
  refine Ziq rfl ?_
  refine Zor (c := mul_c _ _) (k := ?_)
  rintro _ _ ⟨rfl, rfl⟩
  refine Y1 ?_
  refine Zg3 ⟨fun _ => Imp.arr qV, ?_⟩
  refine Ziq rfl ?_
  refine Zor (c := add_c _ _) (k := ?_)
  rintro _ _ ⟨rfl, rfl⟩
  refine Y1 ?_
  refine Zg3 ⟨fun _ => Imp.arr qV, ?_⟩
  refine Zir rfl (cs := #[u64b 0#64, u64b 0#64]) rfl ?_; intro b7
  refine Ziq rfl ?_
  first|refine Zhy rfl rfl qR qZ qN qZ ?_|refine Zhx rfl rfl qR qZ qN qZ rfl ?_
  refine Zg3 ⟨(fun hh => Bool.noConfusion hh), ?_⟩
  refine Zik ?_
  refine Y1 ?_
  first|refine Zhg (Zl5 (n := 2) rfl rfl) ?_|refine Zhg (Zl3 (n := 2) rfl rfl) ?_
  refine Y1 ?_
  first|refine Zhg (Zl5 (n := 1) rfl rfl) ?_|refine Zhg (Zl3 (n := 1) rfl rfl) ?_
  refine Y1 ?_
  refine Zor (c := mul_c _ _) (k := ?_)
  rintro _ _ ⟨rfl, rfl⟩
  refine Y1 ?_
  refine Zhz (cs := #[u64b 0#64, u64b 0#64]) rfl ?_; intro b8
  first|refine Zhy rfl rfl qR qZ qN qZ ?_|refine Zhx rfl rfl qR qZ qN qZ rfl ?_
  refine Y11 ?_
  refine Zhg (Zh9 rfl (ext_add64 _ _ 0#64 (by decide)) rfl) ?_
  refine Y12 ?_
  refine Zhg (Zh9 rfl (ext_add64 _ _ _ (carry_le _ _ _ (by decide))) rfl) ?_
  refine Y12 ?_
  refine Zhg (Zh9 rfl (ext_add64 _ _ _ (carry_le _ _ _ (carry_le _ _ _ (by decide)))) rfl) ?_
  refine Y10 ?_
  refine Zhg (Zlf (y := 3#64) rfl rfl) ?_
  refine Zhg (Zdn (cs := #[.int .u64 _, .int .u64 _, .int .u64 _]) rfl) ?_
  refine Zhz (cs := #[u64b 0#64, u64b 0#64, u64b 0#64]) rfl ?_; intro b15
  first|refine Zhy rfl rfl qR qZ qN qZ ?_|refine Zhx rfl rfl qR qZ qN qZ rfl ?_
  refine Y3 ?_
  refine Zhg (Zli (y := 3#64) rfl rfl) ?_
  refine Y1 ?_
  refine Zhg (Zdm (cs := #[.int .u64 _, .int .u64 _]) rfl) ?_
  refine Zhz (cs := #[u64b 0#64, u64b 0#64]) rfl ?_; intro b16
  first|refine Zhy rfl rfl qR qZ qN qZ ?_|refine Zhx rfl rfl qR qZ qN qZ rfl ?_
  refine Y4 ?_
  refine Zor (c := plus_c (_, _, _) (_, _)) (k := ?_)
  rintro _ _ ⟨rfl, rfl⟩
  refine Y1 ?_
  first|refine Zhy rfl rfl qR qZ qN qZ ?_|refine Zhx rfl rfl qR qZ qN qZ rfl ?_
  refine Y5 ?_
  refine Zhg (Zlk (m := 2) rfl rfl) ?_
  refine Y2 ?_
  refine Zhg (Zlj (m := 62) rfl rfl) ?_
  refine Y3 ?_
  refine Zhg (Zlk (m := 2) rfl rfl) ?_
  refine Zhg (Zdm (cs := #[.int .u64 _, .int .u64 _]) rfl) ?_
  refine Zor (c := plus_c _ (_, _)) (k := ?_)
  rintro _ _ ⟨rfl, rfl⟩
  refine Y1 ?_
  first|refine Zhy rfl rfl qR qZ qN qZ ?_|refine Zhx rfl rfl qR qZ qN qZ rfl ?_
  refine V1 ?_
  refine rx1 (Zhe rfl qH qZ (Zg7)) ?_
  exact ⟨_, ⟨rfl, rfl⟩, by exact Imp.arr (by repeat (first|exact Arr.nil|exact Arr.stop|refine Arr.cons (by repeat constructor) ?_|refine Arr.skip ?_))⟩
end Go.Sl
namespace Go.Sl
open Go
structure PolyS where
  r : W128
  s : W128
  h : W192
  rest : List Byte
  used : Nat
def setU (t : PolyS) (n : Nat) : PolyS := ⟨t.r, t.s, t.h, t.rest, n⟩
def setH (t : PolyS) (h : W192) : PolyS := ⟨t.r, t.s, h, t.rest, t.used⟩
def pc (t : PolyS) : Array Value :=
  (u64b t.r.1 :: u64b t.r.2 :: u64b t.s.1 :: u64b t.s.2 :: u64b t.h.1 :: u64b t.h.2.1 :: u64b t.h.2.2 :: (t.rest.map u8b ++ [.int .i64 t.used])).toArray
def takeW (h : W192) (r : W128) (b : List Byte) (top : BitVec 64) : W192 :=
  let c0 := carry h.1 (wordB (b.take 8)) 0#64
  timesW (h.1 + wordB (b.take 8) + 0#64, h.2.1 + wordB (b.drop 8) + c0, h.2.2 + (carry h.2.1 (wordB (b.drop 8)) c0 + top)) r
def newS (key : List Byte) : PolyS :=
  ⟨(wordB (key.take 8) &&& 1152921487695413247#64, wordB ((key.drop 8).take 8) &&& 1152921487695413244#64), (wordB ((key.drop 16).take 8), wordB (key.drop 24)), (0#64, 0#64, 0#64), List.replicate 16 0#8, 0⟩
def push (t : PolyS) (x : Byte) : PolyS :=
  if t.used + 1 = 16 then { t with h := takeW t.h t.r (t.rest.set t.used x) 1#64, rest := t.rest.set t.used x, used := 0 }
  else { t with rest := t.rest.set t.used x, used := t.used + 1 }
def writeS (t : PolyS) (b : List Byte) : PolyS := b.foldl push t
structure PolyOk (t : PolyS) : Prop where
  rest : t.rest.length = 16
  used : t.used < 16
theorem newS_ok (key : List Byte) : PolyOk (newS key) := ⟨by simp [newS], by simp [newS]⟩
theorem push_ok {t : PolyS} (h : PolyOk t) (x : Byte) : PolyOk (push t x) := by
  have hu := h.used
  unfold push
  split
  · exact ⟨by simp [h.rest], by simp⟩
  · exact ⟨by simp [h.rest], by show t.used + 1 < 16; omega⟩
theorem writeS_ok {b : List Byte} : ∀ {t : PolyS}, PolyOk t → PolyOk (writeS t b) := by
  induction b with
  | nil => exact fun h => h
  | cons x b ih => exact fun h => ih (push_ok h x)
theorem writeS_nil (t : PolyS) : writeS t [] = t := rfl
theorem writeS_zero (t : PolyS) (b : List Byte) : writeS t (b.take 0) = t := rfl
theorem writeS_append (t : PolyS) (a b : List Byte) : writeS t (a ++ b) = writeS (writeS t a) b := by simp [writeS, List.foldl_append]
def put1 (t : PolyS) (x : List Byte) : PolyS := { t with rest := t.rest.take t.used ++ x ++ t.rest.drop (t.used + x.length), used := t.used + x.length }
def full (t : PolyS) : PolyS := if t.used = 16 then setU (setH t (takeW t.h t.r t.rest 1#64)) 0 else t
theorem set_split {l : List Byte} {i : Nat} {x : Byte} (h : i < l.length) : l.set i x = l.take i ++ x :: l.drop (i + 1) := by
  rw [List.set_eq_take_append_cons_drop, if_pos h]
theorem write_put {x : List Byte} : ∀ {t : PolyS}, PolyOk t → t.used + x.length ≤ 16 → writeS t x = full (put1 t x) := by
  induction x with
  | nil =>
    intro t ht _
    have := ht.used
    show t = full (put1 t [])
    have e : put1 t [] = t := by simp [put1]
    rw [e, full, if_neg (by omega)]
  | cons a x ih =>
    intro t ht hl
    simp only [List.length_cons] at hl
    have hr := ht.rest
    have hu := ht.used
    show writeS (push t a) x = _
    by_cases h16 : t.used + 1 = 16
    · have hx : x = [] := List.eq_nil_of_length_eq_zero (by omega)
      subst hx
      show push t a = _
      have e : put1 t [a] = { t with rest := t.rest.set t.used a, used := t.used + 1 } := by
        simp only [put1, List.length_cons, List.length_nil, set_split (show t.used < t.rest.length by omega)]
        simp
      rw [e, full, if_pos h16, push, if_pos h16]; rfl
    · have hp : push t a = { t with rest := t.rest.set t.used a, used := t.used + 1 } := by rw [push, if_neg h16]
      rw [ih (push_ok ht a) (by rw [hp]; show t.used + 1 + x.length ≤ 16; omega)]
      congr 1
      rw [hp]
      simp only [put1, List.length_cons]
      have e : List.take (t.used + 1) (t.rest.set t.used a) = t.rest.take t.used ++ [a] := by
        rw [set_split (by omega), List.take_append, List.take_take]
        have e2 : (t.rest.take t.used).length = t.used := by simp; omega
        rw [e2]
        simp
      have e3 : List.drop (t.used + 1 + x.length) (t.rest.set t.used a) = t.rest.drop (t.used + (x.length + 1)) := by
        rw [List.drop_set_of_lt (by omega)]; congr 1; omega
      rw [e, e3]
      simp; omega
theorem put1_rest {t : PolyS} {x : List Byte} (ht : PolyOk t) (h : t.used + x.length ≤ 16) : (put1 t x).rest.length = 16 := by
  have := ht.rest
  simp [put1]; omega
theorem pc_size {t : PolyS} (h : t.rest.length = 16) : (pc t).size = 24 := by simp [pc, h]
theorem pc_used {t : PolyS} (h : t.rest.length = 16) : (pc t)[23]? = some (.int .i64 t.used) := by
  simp [pc, List.getElem?_append, h]
theorem pc_rest {t : PolyS} (h : t.rest.length = 16) : (pc t).extract 7 23 = (t.rest.map u8b).toArray := by
  apply Array.ext'
  simp only [pc, Array.toList_extract, List.extract_eq_take_drop]
  simp [h]
theorem pc_setUsed {t : PolyS} (h : t.rest.length = 16) (n : Nat) : (pc t).setIfInBounds 23 (.int .i64 n) = pc (setU t n) := by
  apply Array.ext'
  simp [pc, setU, List.set_append, h]
theorem pc_copy {t : PolyS} {x : List Byte} (h : t.rest.length = 16) (hx : t.used + x.length ≤ 16) : wr (pc t) (7 + t.used) (x.map u8b) = pc (setU (put1 t x) t.used) := by
  apply Array.ext'
  rw [wr_toList _ _ _ (by rw [pc_size h, List.length_map]; omega)]
  have e : (pc t).toList = [u64b t.r.1, u64b t.r.2, u64b t.s.1, u64b t.s.2, u64b t.h.1, u64b t.h.2.1, u64b t.h.2.2] ++ (t.rest.map u8b ++ [.int .i64 t.used]) := rfl
  rw [e, List.take_append, List.drop_append]
  have l7 : [u64b t.r.1, u64b t.r.2, u64b t.s.1, u64b t.s.2, u64b t.h.1, u64b t.h.2.1, u64b t.h.2.2].length = 7 := rfl
  rw [l7, List.take_of_length_le (by rw [l7]; omega), List.drop_of_length_le (by rw [l7, List.length_map]; omega)]
  have e1 : 7 + t.used - 7 = t.used := by omega
  have e2 : 7 + t.used + (x.map u8b).length - 7 = t.used + x.length := by rw [List.length_map]; omega
  rw [e1, e2, List.take_append_of_le_length (by simp; omega), List.drop_append_of_le_length (by simp; omega)]
  simp [pc, setU, put1, ← List.map_take, ← List.map_drop]
theorem pc_h (t : PolyS) : (pc t).extract 4 7 = hA t.h := by
  apply Array.ext'
  simp [pc, hA, List.extract_eq_take_drop]
theorem pc_r (t : PolyS) : (pc t).extract 0 2 = wA t.r := by
  apply Array.ext'
  simp [pc, wA, List.extract_eq_take_drop]
theorem pc_setH (t : PolyS) (h : W192) : wr (pc t) 4 (hA h).toList = pc (setH t h) := rfl
theorem ext_map (b : List Byte) (i j : Nat) : ((b.map u8b).toArray).extract i j = (((b.drop i).take (j - i)).map u8b).toArray := by
  apply Array.ext'
  simp [List.extract_eq_take_drop]
def lastB (t : PolyS) : List Byte := (t.rest.take t.used ++ List.replicate (16 - t.used) 0#8).set t.used 1#8
def finS (t : PolyS) : PolyS := if 0 < t.used then setH t (takeW t.h t.r (lastB t) 0#64) else t
def outW (h : W192) (s : W128) : W128 :=
  let b0 := borrow h.1 18446744073709551611#64 0#64
  let l0 := h.1 - 18446744073709551611#64 - 0#64
  let l1 := h.2.1 - 18446744073709551615#64 - b0
  let b1 := borrow h.2.1 18446744073709551615#64 b0
  let keep := - borrow h.2.2 3#64 b1
  let k0 := h.1 &&& keep ||| l0 &&& ~~~ keep
  let k1 := h.2.1 &&& keep ||| l1 &&& ~~~ keep
  (k0 + s.1 + 0#64, k1 + s.2 + carry k0 s.1 0#64)
def outB (o : W128) (i : Nat) : Byte := ((if i / 8 = 0 then o.1 else o.2) >>> (8 * (i % 8))).setWidth 8
def bytesOf (o : W128) : List Byte := (List.range 16).map (outB o)
def sumS (t : PolyS) : List Byte := bytesOf (outW (finS t).h (finS t).s)
def code (key all : List Byte) : List Byte := sumS (writeS (newS key) all)
def upto (f : Nat → Byte) (i : Nat) : List Byte := (List.range 16).map fun j => if j < i then f j else 0#8
theorem upto_set (f : Nat → Byte) (i : Nat) : (upto f i).set i (f i) = upto f (i + 1) := by
  apply List.ext_getElem (by simp [upto])
  intro j h1 h2
  simp only [upto, List.getElem_set, List.getElem_map, List.getElem_range]
  by_cases e : i = j
  · subst e; simp
  · rw [if_neg e]
    by_cases h : j < i
    · rw [if_pos h, if_pos (by omega)]
    · rw [if_neg h, if_neg (by omega)]
theorem upto_zero (f : Nat → Byte) : upto f 0 = List.replicate 16 0#8 := by simp [upto, List.range_succ]
theorem upto_end (f : Nat → Byte) : upto f 16 = (List.range 16).map f := by
  apply List.map_congr_left
  intro j hj
  rw [if_pos (by simpa using hj)]
theorem pc_restTake {t : PolyS} (h : t.rest.length = 16) (hu : t.used ≤ 16) : ((pc t).extract 7 (7 + t.used * 1)).toList = (t.rest.take t.used).map u8b := by
  simp only [pc, Array.toList_extract, List.extract_eq_take_drop, Nat.mul_one]
  have e : 7 + t.used - 7 = t.used := by omega
  rw [e]
  show List.take t.used (t.rest.map u8b ++ [.int .i64 t.used]) = _
  rw [List.take_append_of_le_length (by simp; omega), List.map_take]
theorem copy_last {t : PolyS} (h : t.rest.length = 16) (hu : t.used < 16) : wr ((List.replicate 16 0#8).map u8b).toArray 0 ((t.rest.take t.used).map u8b) = ((t.rest.take t.used ++ List.replicate (16 - t.used) 0#8).map u8b).toArray := by
  apply Array.ext'
  rw [wr_toList _ _ _ (by simp; omega)]
  have e : (0 + ((t.rest.take t.used).map u8b).length) = t.used := by simp; omega
  rw [e, List.map_replicate, List.map_append, List.map_replicate]
  show List.take 0 (List.replicate 16 (u8b 0#8)) ++ _ ++ List.drop t.used (List.replicate 16 (u8b 0#8)) = _
  rw [List.drop_replicate]; rfl
theorem pc_one (t : PolyS) : (pc t).toList.all oneC = true := by simp [pc, oneC]
theorem pc_s0 (t : PolyS) : (pc t)[2]? = some (u64b t.s.1) := rfl
theorem pc_s1 (t : PolyS) : (pc t)[3]? = some (u64b t.s.2) := rfl
theorem finS_rest (t : PolyS) : (finS t).rest = t.rest := by unfold finS; split <;> rfl
theorem lastB_len {t : PolyS} (h : t.rest.length = 16) (hu : t.used ≤ 16) : (lastB t).length = 16 := by simp [lastB, h]; omega
theorem bytesOf_len (o : W128) : (bytesOf o).length = 16 := by simp [bytesOf]
theorem code_len (key all : List Byte) : (code key all).length = 16 := bytesOf_len _
end Go.Sl
namespace Go.Sl
open Go
def padB (b : List Byte) : List Byte := List.replicate ((16 - b.length % 16) % 16) 0#8
def macB (more cover : List Byte) : List Byte := ((more ++ padB more) ++ (cover ++ padB cover)) ++ (leB (BitVec.ofNat 64 more.length) 8 ++ leB (BitVec.ofNat 64 cover.length) 8)
def oneKey (key nonce : List Byte) : List Byte := (blockB key 0#32 nonce).take 32
theorem oneKey_len (key nonce : List Byte) : (oneKey key nonce).length = 32 := by simp [oneKey, blockB_len]
def vouchB (key nonce more cover : List Byte) : List Byte := code (oneKey key nonce) (macB more cover)
theorem vouchB_len (key nonce more cover : List Byte) : (vouchB key nonce more cover).length = 16 := code_len _ _
def sealB (key nonce more text : List Byte) : List Byte := xorB key nonce 64 text ++ vouchB key nonce more (xorB key nonce 64 text)
theorem sealB_len (key nonce more text : List Byte) : (sealB key nonce more text).length = text.length + 16 := by simp [sealB, xorB_len, vouchB_len]
def coverB (box : List Byte) : List Byte := box.take (box.length - 16)
def tagB (box : List Byte) : List Byte := box.drop (box.length - 16)
def rightB (key nonce more box : List Byte) : Bool := decide (vouchB key nonce more (coverB box) = tagB box)
def textB (key nonce box : List Byte) : List Byte := xorB key nonce 64 (coverB box)
theorem textB_len (key nonce box : List Byte) : (textB key nonce box).length = box.length - 16 := by simp [textB, xorB_len, coverB]
theorem cover_seal (key nonce more text : List Byte) : coverB (sealB key nonce more text) = xorB key nonce 64 text := by
  unfold coverB; rw [sealB_len, Nat.add_sub_cancel]
  unfold sealB; rw [List.take_append_of_le_length (by rw [xorB_len]; exact Nat.le_refl _), List.take_of_length_le (by rw [xorB_len]; exact Nat.le_refl _)]
theorem tag_seal (key nonce more text : List Byte) : tagB (sealB key nonce more text) = vouchB key nonce more (xorB key nonce 64 text) := by
  unfold tagB; rw [sealB_len, Nat.add_sub_cancel]
  unfold sealB; rw [List.drop_append_of_le_length (by rw [xorB_len]; exact Nat.le_refl _), List.drop_of_length_le (by rw [xorB_len]; exact Nat.le_refl _)]; rfl
theorem right_seal (key nonce more text : List Byte) : rightB key nonce more (sealB key nonce more text) = true := by
  unfold rightB; rw [cover_seal, tag_seal]; exact decide_eq_true rfl
theorem text_seal (key nonce more text : List Byte) : textB key nonce (sealB key nonce more text) = text := by
  unfold textB; rw [cover_seal, xorB_back]
theorem seal_text (key nonce more box : List Byte) (h : rightB key nonce more box = true) : sealB key nonce more (textB key nonce box) = box := by
  unfold rightB at h
  have h := of_decide_eq_true h
  unfold sealB textB
  rw [xorB_back, h]
  unfold coverB tagB
  exact List.take_append_drop _ _
end Go.Sl
namespace Go.Sl
open Go
theorem lowB_bitn (w : Nat) : ∀ (n : Nat) (b : List Byte), b.length = n → ∀ i, i < w → (lowB w b).getLsbD i = (b.getD (i / 8) 0#8).getLsbD (i % 8) := by
  intro n
  induction n with
  | zero => intro b hb i hi; obtain rfl := List.eq_nil_of_length_eq_zero hb; simp [lowB]
  | succ n ihn =>
    intro b' hb'
    obtain ⟨b, x, rfl⟩ : ∃ b x, b' = b ++ [x] := by
      rcases List.eq_nil_or_concat b' with rfl|⟨b, x, rfl⟩
      · simp at hb'
      · exact ⟨b, x, by simp⟩
    have ih := ihn b (by simpa using hb')
    intro i hi
    rw [lowB_snoc, BitVec.getLsbD_or, BitVec.getLsbD_shiftLeft, ih i hi, BitVec.getLsbD_setWidth]
    have h8 : i = 8 * (i / 8) + i % 8 := by omega
    by_cases h1 : i / 8 < b.length
    · have h2 : i < 8 * b.length := by omega
      simp [List.getD_eq_getElem?_getD, List.getElem?_append_left h1, h2, hi]
    · by_cases h2 : i / 8 = b.length
      · have h3 : ¬ i < 8 * b.length := by omega
        have h4 : i - 8 * b.length = i % 8 := by omega
        have h5 : i % 8 < w := by omega
        simp [List.getD_eq_getElem?_getD, h2, h3, h4, h5, hi]
      · have h3 : ¬ i < 8 * b.length := by omega
        have h6 : x.getLsbD (i - 8 * b.length) = false := BitVec.getLsbD_of_ge _ _ (by omega)
        have h7 : (b ++ [x])[i / 8]? = none := List.getElem?_eq_none (by simp; omega)
        have h8 : b[i / 8]? = none := List.getElem?_eq_none (by omega)
        simp [List.getD_eq_getElem?_getD, h6, h7, h8]
theorem lowB_bit (w : Nat) (b : List Byte) (i : Nat) (hi : i < w) : (lowB w b).getLsbD i = (b.getD (i / 8) 0#8).getLsbD (i % 8) := lowB_bitn w _ b rfl i hi
theorem leB_get {w : Nat} (x : BitVec w) (n j : Nat) (h : j < n) : (leB x n).getD j 0#8 = (x >>> (8 * j)).setWidth 8 := by
  simp [leB, List.getD_eq_getElem?_getD, h]
theorem low_le {w n : Nat} (x : BitVec w) (h : w = 8 * n) : lowB w (leB x n) = x := by
  apply BitVec.eq_of_getLsbD_eq
  intro i hi
  rw [lowB_bit _ _ _ hi, leB_get _ _ _ (by omega), BitVec.getLsbD_setWidth, BitVec.getLsbD_ushiftRight]
  rw [show 8 * (i / 8) + i % 8 = i from by omega]
  simp; omega
theorem le_low {w n : Nat} (b : List Byte) (h : w = 8 * n) (hb : b.length = n) : leB (lowB w b) n = b := by
  apply List.ext_getElem (by rw [leB_len, hb])
  intro j h1 h2
  rw [leB_len] at h1
  have e := leB_get (lowB w b) n j h1
  rw [List.getD_eq_getElem?_getD, List.getElem?_eq_getElem (by rw [leB_len]; exact h1), Option.getD_some] at e
  rw [e]
  apply BitVec.eq_of_getLsbD_eq
  intro i hi
  rw [BitVec.getLsbD_setWidth, BitVec.getLsbD_ushiftRight, lowB_bit _ _ _ (by omega), show (8 * j + i) / 8 = j from by omega, show (8 * j + i) % 8 = i from by omega, List.getD_eq_getElem?_getD, List.getElem?_eq_getElem h2]
  simp [hi]
structure Plc where
  round : BitVec 64
  counter : BitVec 32
  page : BitVec 32
  version : BitVec 32
theorem Plc.eq_iff (a b : Plc) : (a.round = b.round ∧ a.counter = b.counter ∧ a.page = b.page ∧ a.version = b.version) ↔ a = b := by
  constructor
  · rintro ⟨h1, h2, h3, h4⟩
    cases a; cases b
    simp only at h1 h2 h3 h4
    rw [h1, h2, h3, h4]
  · rintro rfl
    exact ⟨rfl, rfl, rfl, rfl⟩
instance : DecidableEq Plc := fun a b => decidable_of_iff _ (Plc.eq_iff a b)
def headB (p : Plc) : List Byte := leB p.round 8 ++ leB p.counter 4
def moreB (p : Plc) : List Byte := leB p.page 4 ++ leB p.version 4
theorem headB_len (p : Plc) : (headB p).length = 12 := by simp [headB, leB_len]
theorem moreB_len (p : Plc) : (moreB p).length = 8 := by simp [moreB, leB_len]
def pgSealB (key : List Byte) (p : Plc) (text : List Byte) : List Byte := headB p ++ sealB key (headB p) (moreB p) text
theorem pgSealB_len (key : List Byte) (p : Plc) (text : List Byte) : (pgSealB key p text).length = text.length + 28 := by simp [pgSealB, headB_len, sealB_len]; omega
def pgSealR (key : List Byte) (p : Plc) (text : List Byte) : List Byte × Nat := if 4096 < text.length then ([], 3) else (pgSealB key p text, 0)
def pgHeadR (b : List Byte) : BitVec 64 × BitVec 32 × Nat := if b.length < 28 then (0#64, 0#32, 20) else (lowB 64 (b.take 8), lowB 32 ((b.drop 8).take 4), 0)
def pgFits (p : Plc) (box : List Byte) : Prop := 28 ≤ box.length ∧ box.length ≤ 4124 ∧ box.take 12 = headB p
instance (p : Plc) (box : List Byte) : Decidable (pgFits p box) := inferInstanceAs (Decidable (_ ∧ _))
def pgOpens (key : List Byte) (p : Plc) (box : List Byte) : Prop := pgFits p box ∧ rightB key (headB p) (moreB p) (box.drop 12) = true
instance (key : List Byte) (p : Plc) (box : List Byte) : Decidable (pgOpens key p box) := inferInstanceAs (Decidable (_ ∧ _))
def pgOpenR (key : List Byte) (p : Plc) (box : List Byte) : List Byte × Nat := if pgOpens key p box then (textB key (headB p) (box.drop 12), 0) else ([], 120)
theorem head_is (p : Plc) (box : List Byte) (h : 12 ≤ box.length) : box.take 12 = headB p ↔ lowB 64 (box.take 8) = p.round ∧ lowB 32 ((box.drop 8).take 4) = p.counter := by
  have e : box.take 12 = box.take 8 ++ (box.drop 8).take 4 := by
    rw [show (12 : Nat) = 8 + 4 from rfl, List.take_add]
  have l8 : (box.take 8).length = 8 := by simp; omega
  have l4 : ((box.drop 8).take 4).length = 4 := by simp; omega
  rw [e]
  constructor
  · intro hh
    unfold headB at hh
    have h2 := List.append_inj hh (by rw [l8, leB_len])
    rw [h2.1, h2.2, low_le (n := 8) _ rfl, low_le (n := 4) _ rfl]
    exact ⟨rfl, rfl⟩
  · rintro ⟨h1, h2⟩
    unfold headB
    rw [← h1, ← h2, le_low (n := 8) _ rfl l8, le_low (n := 4) _ rfl l4]
theorem pgSeal_head (key : List Byte) (p : Plc) (text : List Byte) : (pgSealB key p text).take 12 = headB p := by
  unfold pgSealB
  rw [List.take_append_of_le_length (by rw [headB_len]; exact Nat.le_refl _), List.take_of_length_le (by rw [headB_len]; exact Nat.le_refl _)]
theorem pgSeal_drop (key : List Byte) (p : Plc) (text : List Byte) : (pgSealB key p text).drop 12 = sealB key (headB p) (moreB p) text := by
  unfold pgSealB
  rw [List.drop_append_of_le_length (by rw [headB_len]; exact Nat.le_refl _), List.drop_of_length_le (by rw [headB_len]; exact Nat.le_refl _)]; rfl
theorem pg_back (key : List Byte) (p : Plc) (text : List Byte) (h : text.length ≤ 4096) : pgOpenR key p (pgSealB key p text) = (text, 0) := by
  unfold pgOpenR
  rw [if_pos ⟨⟨by rw [pgSealB_len]; omega, by rw [pgSealB_len]; omega, pgSeal_head key p text⟩, by rw [pgSeal_drop]; exact right_seal _ _ _ _⟩, pgSeal_drop, text_seal]
theorem pg_form (key : List Byte) (p : Plc) (box : List Byte) (h : pgOpens key p box) : pgSealB key p (pgOpenR key p box).1 = box ∧ (pgOpenR key p box).1.length + 28 = box.length := by
  obtain ⟨⟨h1, h2, h3⟩, h4⟩ := h
  unfold pgOpenR
  rw [if_pos ⟨⟨h1, h2, h3⟩, h4⟩]
  constructor
  · unfold pgSealB
    dsimp only
    rw [seal_text _ _ _ _ h4, ← h3, List.take_append_drop]
  · dsimp only
    rw [textB_len, List.length_drop]; omega
theorem pgSealR_ok (key : List Byte) (p : Plc) (text : List Byte) (h : ¬ 4096 < text.length) : pgSealR key p text = (pgSealB key p text, 0) := by unfold pgSealR; rw [if_neg h]
theorem pgOpenR_not (key : List Byte) (p : Plc) (box : List Byte) (h : ¬ pgOpens key p box) : pgOpenR key p box = ([], 120) := by unfold pgOpenR; rw [if_neg h]
theorem pgOpenR_yes (key : List Byte) (p : Plc) (box : List Byte) (h : pgOpens key p box) : pgOpenR key p box = ((pgOpenR key p box).1, 0) := by unfold pgOpenR; rw [if_pos h]
end Go.Sl
namespace Go.Sl.PagerS
open Go Go.Sl Go.Sl.HostS
structure Fr where
  page : Int
  text : Bytes
  is : Nat
structure PS where
  key : Bytes
  round : BitVec 64
  window : Nat
  pages : Int
  text : Nat
  held : List Fr
  last : Int → Option Plc
  most : Nat
  writes : Nat
  err : Nat
def frOf (s : PS) (n : Int) : Option Fr := s.held.find? fun f => f.page == n
def verOf (s : PS) (n : Int) : BitVec 32 := ((s.last n).map Plc.version).getD 0#32
def nextPl (s : PS) (n : Int) : Plc := ⟨s.round, BitVec.ofNat 32 s.writes, BitVec.ofInt 32 n, verOf s n + 1#32⟩
def die (s : PS) (e : Nat) : PS := { s with err := e }
def cleaned (l : List Fr) (n : Int) : List Fr := l.map fun f => if f.page = n then { f with is := 1 } else f
def wroteP (s : PS) (n : Int) : PS := { s with last := setF s.last n (some (nextPl s n)), writes := s.writes + 1, held := cleaned s.held n }
def textOf (s : PS) (n : Int) : Bytes := ((frOf s n).map Fr.text).getD []
def boxOf (s : PS) (n : Int) : Bytes := pgSealB s.key (nextPl s n) (textOf s n)
abbrev PH := PS × HS
def writeP (s : PS) (h : HS) (n : Int) : Nat × PH :=
  if s.writes = 4294967295 then (130, die s 130, h)
  else
    let r := writeR h n (boxOf s n)
    if r.1 = 0 then (0, wroteP s n, r.2) else (r.1, die s r.1, r.2)
def changedAt (s : PS) (n : Int) : Bool := ((frOf s n).map Fr.is).getD 0 == 2
def roomP (s : PS) (h : HS) : Nat × PH :=
  if s.held.length < s.window then (0, s, h)
  else
    let n := (s.held.head?.map Fr.page).getD 0
    if changedAt s n then
      let r := writeP s h n
      if r.1 = 0 then (0, { r.2.1 with held := r.2.1.held.tail }, r.2.2) else r
    else (0, { s with held := s.held.tail }, h)
def useP (s : PS) (f : Fr) : PS :=
  { s with held := (s.held.filter fun g => !(g.page == f.page)) ++ [f], most := max s.most ((s.held.filter fun g => !(g.page == f.page)) ++ [f]).length }
def rightP (s : PS) (n : Int) : Nat := if s.err ≠ 0 then s.err else if n < 0 ∨ s.pages ≤ n then 2 else 0
def fetchP (s : PS) (h : HS) (n : Int) : (Bytes × Nat) × PH :=
  match s.last n with
  | some pl =>
    let r := readR h n
    if r.2.1 = 0 then
      let o := pgOpenR s.key pl r.1
      if o.2 = 0 then ((o.1, 0), useP s ⟨n, o.1, 1⟩, r.2.2) else (([], o.2), die s o.2, r.2.2)
    else (([], r.2.1), die s r.2.1, r.2.2)
  | none => ((List.replicate s.text 0#8, 0), useP s ⟨n, List.replicate s.text 0#8, 0⟩, h)
def loadP (s : PS) (h : HS) (n : Int) : (Bytes × Nat) × PH :=
  if rightP s n = 0 then
    match frOf s n with
    | some f => ((f.text, 0), useP s f, h)
    | none =>
      let r := roomP s h
      if r.1 = 0 then fetchP r.2.1 r.2.2 n else (([], r.1), r.2)
  else (([], rightP s n), s, h)
def saveP (s : PS) (h : HS) (n : Int) (t : Bytes) : Nat × PH :=
  if rightP s n = 0 then
    if t.length = s.text then
      match frOf s n with
      | some _ => (0, useP s ⟨n, t, 2⟩, h)
      | none =>
        let r := roomP s h
        if r.1 = 0 then (0, useP r.2.1 ⟨n, t, 2⟩, r.2.2) else r
    else (4, s, h)
  else (rightP s n, s, h)
def numbers (s : PS) : List Int := s.held.map Fr.page
def freshP (key : Bytes) (round : BitVec 64) (window : Nat) (pages : Int) (text : Nat) : PS := ⟨key, round, window, pages, text, [], fun _ => none, 0, 0, 0⟩
structure Ok (s : PS) : Prop where
  key : s.key.length = 32
  w0 : 2 ≤ s.window
  w1 : s.window ≤ 16
  p0 : 0 ≤ s.pages
  p1 : s.pages ≤ 65536
  t0 : 1 ≤ s.text
  t1 : s.text ≤ 4096
  once : (numbers s).Nodup
  there : ∀ f ∈ s.held, 0 ≤ f.page ∧ f.page < s.pages
  len : ∀ f ∈ s.held, f.text.length = s.text
  is : ∀ f ∈ s.held, f.is ≤ 2
  many : s.held.length ≤ s.window
  most : s.most ≤ s.window
  writes : s.writes ≤ 4294967295
  err : s.err ≤ 1000
structure Over (s : PS) (h : HS) : Prop where
  pages : h.pages = s.pages
  size : h.size = s.text + 28
theorem frOf_mem {s : PS} {n : Int} {f : Fr} (h : frOf s n = some f) : f ∈ s.held ∧ f.page = n := by
  unfold frOf at h
  exact ⟨List.mem_of_find?_eq_some h, by have := List.find?_some h; simpa using this⟩
theorem frOf_none {s : PS} {n : Int} (h : frOf s n = none) : n ∉ numbers s := by
  unfold frOf at h
  rw [List.find?_eq_none] at h
  unfold numbers
  rw [List.mem_map]
  rintro ⟨f, hf, rfl⟩
  exact h f hf (by simp)
theorem frOf_of {s : PS} {n : Int} (h : n ∈ numbers s) : ∃ f, frOf s n = some f := by
  cases hf : frOf s n with
  | some f => exact ⟨f, rfl⟩
  | none => exact absurd h (frOf_none hf)
theorem ok_die {s : PS} (h : Ok s) (e : Nat) (he : e ≤ 1000) : Ok (die s e) := ⟨h.key, h.w0, h.w1, h.p0, h.p1, h.t0, h.t1, h.once, h.there, h.len, h.is, h.many, h.most, h.writes, he⟩
theorem cleaned_pages (l : List Fr) (n : Int) : (cleaned l n).map Fr.page = l.map Fr.page := by
  unfold cleaned
  rw [List.map_map]
  apply List.map_congr_left
  intro f _
  simp only [Function.comp]
  split <;> rfl
theorem cleaned_mem {l : List Fr} {n : Int} {f : Fr} (h : f ∈ cleaned l n) : ∃ g ∈ l, f.page = g.page ∧ f.text = g.text ∧ (f.is = 1 ∨ f.is = g.is) := by
  unfold cleaned at h
  obtain ⟨g, hg, rfl⟩ := List.mem_map.1 h
  refine ⟨g, hg, ?_⟩
  split
  · exact ⟨rfl, rfl, .inl rfl⟩
  · exact ⟨rfl, rfl, .inr rfl⟩
theorem ok_wrote {s : PS} (h : Ok s) (n : Int) (hw : s.writes < 4294967295) : Ok (wroteP s n) := by
  refine ⟨h.key, h.w0, h.w1, h.p0, h.p1, h.t0, h.t1, ?_, ?_, ?_, ?_, ?_, h.most, by show s.writes + 1 ≤ _; omega, h.err⟩
  · show ((cleaned s.held n).map Fr.page).Nodup
    rw [cleaned_pages]; exact h.once
  · intro f hf
    obtain ⟨g, hg, e, _⟩ := cleaned_mem hf
    rw [e]; exact h.there g hg
  · intro f hf
    obtain ⟨g, hg, _, e, _⟩ := cleaned_mem hf
    rw [e]; exact h.len g hg
  · intro f hf
    obtain ⟨g, hg, _, _, e⟩ := cleaned_mem hf
    rcases e with e|e
    · omega
    · rw [e]; exact h.is g hg
  · show (cleaned s.held n).length ≤ _
    unfold cleaned; rw [List.length_map]; exact h.many
theorem ok_tail {s : PS} (h : Ok s) : Ok { s with held := s.held.tail } := by
  refine ⟨h.key, h.w0, h.w1, h.p0, h.p1, h.t0, h.t1, ?_, fun f hf => h.there f (List.mem_of_mem_tail hf), fun f hf => h.len f (List.mem_of_mem_tail hf), fun f hf => h.is f (List.mem_of_mem_tail hf), ?_, h.most, h.writes, h.err⟩
  · show (s.held.tail.map Fr.page).Nodup
    rw [List.map_tail]
    exact h.once.sublist (List.tail_sublist _)
  · show s.held.tail.length ≤ s.window
    have := h.many
    rw [List.length_tail]; omega
theorem use_len {s : PS} {f : Fr} (h : Ok s) (hr : (frOf s f.page).isSome = true ∨ s.held.length < s.window) : ((s.held.filter fun g => !(g.page == f.page)) ++ [f]).length ≤ s.window := by
  rw [List.length_append, List.length_singleton]
  have hle := List.length_filter_le (fun g : Fr => !(g.page == f.page)) s.held
  have hm := h.many
  rcases hr with hr|hr
  · obtain ⟨g, hg⟩ := Option.isSome_iff_exists.1 hr
    obtain ⟨hg1, hg2⟩ := frOf_mem hg
    have : (s.held.filter fun g => !(g.page == f.page)).length < s.held.length := by
      refine List.length_filter_lt_length_iff_exists.2 ⟨g, hg1, by simp [hg2]⟩
    omega
  · omega
theorem ok_use {s : PS} {f : Fr} (h : Ok s) (hr : (frOf s f.page).isSome = true ∨ s.held.length < s.window) (hp : 0 ≤ f.page ∧ f.page < s.pages) (hl : f.text.length = s.text) (hi : f.is ≤ 2) : Ok (useP s f) := by
  have hlen := use_len h hr
  refine ⟨h.key, h.w0, h.w1, h.p0, h.p1, h.t0, h.t1, ?_, ?_, ?_, ?_, hlen, ?_, h.writes, h.err⟩
  · show (((s.held.filter fun g => !(g.page == f.page)) ++ [f]).map Fr.page).Nodup
    rw [List.map_append, List.nodup_append]
    refine ⟨h.once.sublist (List.filter_sublist.map _), by simp, ?_⟩
    intro a ha b hb
    simp only [List.map_cons, List.map_nil, List.mem_singleton] at hb
    subst hb
    obtain ⟨g, hg, rfl⟩ := List.mem_map.1 ha
    have := (List.mem_filter.1 hg).2
    intro e
    rw [e] at this
    simp at this
  · intro g hg
    simp only [useP, List.mem_append, List.mem_singleton] at hg
    rcases hg with hg|rfl
    · exact h.there g (List.mem_filter.1 hg).1
    · exact hp
  · intro g hg
    simp only [useP, List.mem_append, List.mem_singleton] at hg
    rcases hg with hg|rfl
    · exact h.len g (List.mem_filter.1 hg).1
    · exact hl
  · intro g hg
    simp only [useP, List.mem_append, List.mem_singleton] at hg
    rcases hg with hg|rfl
    · exact h.is g (List.mem_filter.1 hg).1
    · exact hi
  · show max s.most _ ≤ s.window
    have := h.most
    omega
theorem ok_fresh {key : Bytes} {round : BitVec 64} {window : Nat} {pages : Int} {text : Nat} (hk : key.length = 32) (hw : 2 ≤ window ∧ window ≤ 16) (hp : 0 ≤ pages ∧ pages ≤ 65536) (ht : 1 ≤ text ∧ text ≤ 4096) : Ok (freshP key round window pages text) :=
  ⟨hk, hw.1, hw.2, hp.1, hp.2, ht.1, ht.2, List.nodup_nil, fun f hf => (by cases hf), fun f hf => (by cases hf), fun f hf => (by cases hf), Nat.zero_le _, Nat.zero_le _, Nat.zero_le _, Nat.zero_le _⟩
end Go.Sl.PagerS
namespace Go.Sl
open Go
section
variable {α : Type} {M N : List Asrt}
theorem Imp.exE {β : Type} {A : β → Asrt} (h : ∀ a, Imp (A a :: M) N) : Imp (ex A :: M) N := by
  intro f hs
  obtain ⟨h1, h2, ⟨a, ha⟩, hr⟩ := hs
  exact h a f ⟨h1, h2, ha, hr⟩
theorem Imp.exI {β : Type} {A : β → Asrt} (a : β) : Imp (A a :: M) (ex A :: M) := Imp.head fun _ h => ⟨a, h⟩
theorem Imp.purE {p : Prop} (h : p → Imp M N) : Imp (pur p :: M) N := fun f hs => by
  have hp : p := by obtain ⟨h1, h2, hp, hr⟩ := hs; exact hp
  exact h hp f (hs.tail)
theorem Imp.purI {p : Prop} (hp : p) : Imp M (pur p :: M) := fun h hs => ⟨fun _ => none, h, hp, hs, Frag.none_disj _, Frag.none_sub _, Frag.sub_refl _⟩
variable {b : Nat} {A : Value → α → Asrt} {d : α} {f : Int → α} {k : Int} {v : Value} {x : α}
theorem Imp.oheld_close : Imp (A v x :: oheld b A d f k v :: M) (omap b A d (upd f k x) :: M) := by
  refine Imp.swap.trans (Imp.exE fun l => Imp.exE fun clock => Imp.unapp.trans ?_)
  simp only [List.cons_append]
  refine Imp.purE fun ⟨hn, hf, hg⟩ => ?_
  rcases xGet_esGet (l := l) (k := k) with ⟨v', x', h1, h2, n, pre, post, h3, h4⟩|⟨h1, h2, h3⟩
  · rw [hg] at h1; cases h1
    have hfl : l.filter (·.1 ≠ k) = pre ++ post := by rw [h3]; exact filter_split (h3 ▸ hn)
    rw [hfl]
    have he : ents (pre ++ (k, v, n, x) :: post) = ents l := by rw [h3]; simp [ents]
    refine Imp.trans ?_ ((Imp.exI clock).trans (Imp.exI (A := fun l : List (EntX α) => ex fun clock : Nat => all (pur ((l.map (·.1)).Nodup ∧ (∀ k', upd f k x k' = (xGet l k').getD d)) :: pt b (.map (mapE (ents l)) clock) :: l.map fun e => A e.2.1 e.2.2.2)) (pre ++ (k, v, n, x) :: post)))
    refine Imp.trans ?_ Imp.app
    simp only [List.cons_append]
    rw [he]
    refine Imp.trans ?_ (Imp.purI ⟨by rw [h3] at hn; simpa using hn, fun k' => ?_⟩)
    · have hh : Has ((pre ++ (k, v, n, x) :: post).map (fun e => A e.2.1 e.2.2.2) ++ M) (A v x) ((pre ++ post).map (fun e => A e.2.1 e.2.2.2) ++ M) := by
        simp only [List.map_append, List.map_cons, List.append_assoc, List.cons_append]
        exact Has.mid
      have hh2 : Has ((pre ++ post).map (fun e => A e.2.1 e.2.2.2) ++ A v x :: M) (A v x) ((pre ++ post).map (fun e => A e.2.1 e.2.2.2) ++ M) := Has.mid
      exact Imp.cons ((Imp.has hh2).trans (Imp.unhas hh))
    · unfold upd
      split
      · rename_i e; subst e; rw [xGet_append h4]; simp [xGet]
      · rename_i e; rw [hf k' e, h3, xGet_other e]
  · rw [hg] at h1; cases h1
theorem Imp.omap_close : Imp (A v (f k) :: ohole b A d f k v :: M) (omap b A d f :: M) := by
  refine Imp.swap.trans (Imp.exE fun l => Imp.exE fun clock => Imp.unapp.trans ?_)
  simp only [List.cons_append]
  refine Imp.purE fun ⟨hn, hf, hg⟩ => ?_
  rcases hg with hg|⟨hg, _, hfd⟩
  · have h2 : Imp (A v (f k) :: oheld b A d f k v :: M) (omap b A d f :: M) := by
      have := Imp.oheld_close (M := M) (b := b) (A := A) (d := d) (f := f) (k := k) (v := v) (x := f k)
      rwa [upd_self] at this
    refine Imp.trans ?_ (Imp.swap.trans h2)
    refine Imp.trans ?_ ((Imp.exI clock).trans (Imp.exI (A := fun l : List (EntX α) => ex fun clock : Nat => all (pur ((l.map (·.1)).Nodup ∧ (∀ k', k' ≠ k → f k' = (xGet l k').getD d) ∧ esGet (ents l) k = some v) :: pt b (.map (mapE (ents l)) clock) :: (l.filter (·.1 ≠ k)).map fun e => A e.2.1 e.2.2.2)) l))
    refine Imp.trans ?_ Imp.app
    simp only [List.cons_append]
    exact Imp.purI ⟨hn, hf, hg⟩
  · rcases xGet_esGet (l := l) (k := k) with ⟨v', x', h1, h2, n, pre, post, h3, h4⟩|⟨h1, h2, h3⟩
    · rw [hg] at h1; cases h1
    · have hfl : l.filter (·.1 ≠ k) = l := List.filter_eq_self.2 (by simpa using h3)
      rw [hfl]
      refine Imp.trans ?_ ((Imp.exI clock).trans (Imp.exI (A := fun l : List (EntX α) => ex fun clock : Nat => all (pur ((l.map (·.1)).Nodup ∧ (∀ k, f k = (xGet l k).getD d)) :: pt b (.map (mapE (ents l)) clock) :: l.map fun e => A e.2.1 e.2.2.2)) l))
      refine Imp.trans ?_ Imp.app
      simp only [List.cons_append]
      refine Imp.trans ?_ (Imp.purI ⟨hn, fun k' => ?_⟩)
      · have hh2 : Has (l.map (fun e => A e.2.1 e.2.2.2) ++ A v (f k) :: M) (A v (f k)) (l.map (fun e => A e.2.1 e.2.2.2) ++ M) := Has.mid
        exact Imp.cons ((Imp.has hh2).trans Imp.tail)
      · by_cases e : k' = k
        · subst e; rw [hfd, h2]; rfl
        · exact hf k' e
theorem Zom {P : Program} {w0 : World} {c : Code} {ρ : Env} {Q : XQ} (hd : (A (.slice none 0 0) d).on (fun _ => none)) (k : Int) (h : ∀ v, xC P w0 c ρ (A v (f k) :: ohole b A d f k v :: M) Q) : xC P w0 c ρ (omap b A d f :: M) Q :=
  Zgu (A := fun v => A v (f k) :: ohole b A d f k v :: M) (fun F w H => by
    obtain ⟨v, H1⟩ := St.omap_open hd H.swap k
    exact ⟨v, H1.pick (.there (.there .here))⟩) h
theorem Zon {P : Program} {w0 : World} {ops : Array Oper} {SM : List Asrt} {K : XK} {ρ : Env} {dst : Option Nat} {ty T E Kt : TypeId} {x y : Operand} {pos : String} {after : Array Edge} {r : Ord} {i by' : Nat} {M' : List Asrt} [hm : TyMap P T Kt E] [hk : TyInt P Kt .i64] [hz : TyI P E 1 by' (.slice none 0 0)] (ho : ops[i]? = some ⟨dst, .lookup T x y false, ty, pos, after, none⟩) (hx : ev ρ x = .map (some b)) (hy : ev ρ y = .int .i64 k) (hh : Has SM (ohole b A d f k v) M')
    (kk : cX P w0 ops SM r (put ρ dst v) M K) : cX P w0 ops SM (.r i r) ρ M K :=
  Zit ho (fun F w H => op_run_value (by rw [hx, hy]; exact run_lookupH (Kt := Kt) (E := E) H (.there hh))) kk
end
end Go.Sl
namespace Go.Sl
open Go Go.Proofs
attribute [local irreducible] pt own old pur ex all den denOps denS xOps xC cX CX xthen xblk xcut xloop xng retX resX Calls PV Rd Con
theorem bs_piece {M M' : List Asrt} {b E : Nat} {l : List Byte} {o n c : Nat} (hm : Has M (cl b (l.map u8b).toArray E) M') (hl : o + n ≤ l.length) (hc : n ≤ c) (hcm : c ≤ 9223372036854775807) : Bs M (.slice (some ⟨b, o, none⟩) n c) ((l.drop o).take n) := by
  have hn : ((l.drop o).take n).length = n := by simp; omega
  have := Bs.cl (M := M) (b := b) (o := o) (c := c) (l := (l.drop o).take n) hm (by simp [hn]; omega) (by
    rw [hn]; simp only [Array.toList_extract, List.extract_eq_take_drop, Nat.add_sub_cancel_left]
    rw [List.map_take, List.map_drop]) (by omega) hcm
  rwa [hn] at this
theorem bs_full {M M' : List Asrt} {b E : Nat} {l : List Byte} {n : Nat} (hm : Has M (cl b (l.map u8b).toArray E) M') (hn : l.length = n) (hc : n ≤ 9223372036854775807) : Bs M (.slice (some ⟨b, 0, none⟩) n n) l := by
  have := bs_piece (o := 0) (n := n) (c := n) hm (by omega) (by omega) hc
  rwa [List.drop_zero, List.take_of_length_le (by omega)] at this
end Go.Sl
namespace Go.Sl
open Go Go.Proofs
attribute [local irreducible] pt own old pur ex all den denOps denS xOps xC cX CX xthen xblk xcut xloop xng retX resX Calls PV Rd Con
abbrev hp (p : Nat) : Value := .pointer (some ⟨p, 0, none⟩)
abbrev ownB (a : Option Addr) (c : Nat) (b : List Byte) : Asrt := own 5 1 (.slice a b.length c) b.length (b.map u8b)
def bytesA (v : Value) (b : HostS.Bytes) : Asrt := own 5 1 v b.length (b.map u8b)
def fcells (f : HostS.Fault) : List Value := [.int .i64 f.at_, .int .i64 f.kind, .int .i64 f.page, .int .i64 f.byte, u8b f.by_, .int .i64 f.back]
def faultsA (v : Value) (l : List HostS.Fault) : Asrt := own 119 6 v l.length (l.flatMap fcells)
def tcells (t : HostS.Touch) : List Value := [.int .i64 t.op, .int .i64 t.page, .int .i64 t.len] ++ t.head.map u8b
abbrev ownLog (a : Option Addr) (c : Nat) (l : List HostS.Touch) : Asrt := own 158 15 (.slice a l.length c) l.length (l.flatMap tcells)
abbrev RV := Value × HostS.Bytes
abbrev rowE (e : RV) : Asrt := bytesA e.1 e.2
def rowsA (v : Value) (l : List HostS.Bytes) : Asrt := ex fun vs : List RV => all [pur (vs.map (·.2) = l), own 66 1 v vs.length (vs.map (·.1)), star rowE vs]
def powerOf (s : HostS.HS) : Int := if s.down then 1 else 0
abbrev HC := Nat × Nat × Option Addr × Nat
abbrev hcl (s : HostS.HS) (c : HC) : Array Value := #[.int .i64 s.pages, nvv s.size, .map (some c.1), u64b s.reg, .map (some c.2.1), nvv s.ops, .slice c.2.2.1 s.log.length c.2.2.2, .int .i64 (powerOf s)]
abbrev hostP (p : Nat) (s : HostS.HS) (c : HC) : List Asrt := [cl p (hcl s c) 141, omap c.1 rowsA [] s.lay, omap c.2.1 faultsA [] s.coming, ownLog c.2.2.1 c.2.2.2 s.log]
def hostQ (p : Nat) (s : HostS.HS) (c : HC) : Asrt := all (pur (HostS.Ok s) :: hostP p s c)
def hostA (p : Nat) (s : HostS.HS) : Asrt := ex (hostQ p s)
section
variable {p : Nat} {s : HostS.HS} {L : List Asrt}
theorem hostA_mk {c : HC} (h : HostS.Ok s) : Imp (hostP p s c ++ L) (hostA p s :: L) :=
  ((Imp.purI h).trans (Imp.app (L := pur (HostS.Ok s) :: hostP p s c))).trans (Imp.head fun f h => by unfold hostA Sl.ex; exact Exists.intro (p := fun x => (hostQ p s x).on f) c h)
theorem Con.hostA {F : FuncId} {args : List Value} {Φ : Value → List Asrt → Prop} (h : ∀ c : HC, HostS.Ok s → Con Tryz.prog F args (hostP p s c ++ L) Φ) : Con Tryz.prog F args (Sl.hostA p s :: L) Φ :=
  Con.ex fun c => Con.pre (Con.pur fun hk => h c hk) (Imp.unapp (L := Sl.pur (HostS.Ok s) :: hostP p s c))
theorem x_hostA {w0 : World} {c : Code} {ρ : Env} {Q : XQ} (h : ∀ t : HC, HostS.Ok s → xC Tryz.prog w0 c ρ (hostP p s t ++ L) Q) : xC Tryz.prog w0 c ρ (hostA p s :: L) Q := by
  unfold hostA
  exact Zgr fun t => Zgs (L := pur (HostS.Ok s) :: hostP p s t) (Zgq fun hk => h t hk)
theorem host_ok {M M' : List Asrt} {F : Asrt} {w0 w : World} (hm : Has M (hostA p s) M') (H : St w0 w (F :: M)) : HostS.Ok s := by
  have H := H.pick (.there hm)
  unfold hostA at H
  obtain ⟨t, H⟩ := H.ex_get
  exact St.pur_get (St.all_get H)
end
end Go.Sl
namespace Go.Sl
open Go Go.Proofs
theorem faults_nil : (faultsA (.slice none 0 0) []).on (fun _ => none) := by
  unfold faultsA own
  exact ⟨rfl, .inl ⟨rfl, rfl⟩⟩
theorem rows_nil : (rowsA (.slice none 0 0) []).on (fun _ => none) := by
  refine ⟨([] : List RV), ?_⟩
  refine ⟨fun _ => none, fun _ => none, rfl, ?_, Frag.none_disj _, Frag.none_sub _, Frag.none_sub _⟩
  refine ⟨fun _ => none, fun _ => none, ?_, ?_, Frag.none_disj _, Frag.none_sub _, Frag.none_sub _⟩
  · unfold own
    exact ⟨rfl, .inl ⟨rfl, rfl⟩⟩
  · exact ⟨fun _ => none, fun _ => none, trivial, trivial, Frag.none_disj _, Frag.none_sub _, Frag.none_sub _⟩
theorem rows_mk {v : Value} {vs : List RV} {l : List HostS.Bytes} {L : List Asrt} (h : vs.map (·.2) = l) : Imp (own 66 1 v vs.length (vs.map (·.1)) :: star rowE vs :: L) (rowsA v l :: L) := by
  have h1 : Imp ([pur (vs.map (·.2) = l), own 66 1 v vs.length (vs.map (·.1)), star rowE vs] ++ L) (all [pur (vs.map (·.2) = l), own 66 1 v vs.length (vs.map (·.1)), star rowE vs] :: L) := Imp.app
  have h2 : Imp (all [pur (vs.map (·.2) = l), own 66 1 v vs.length (vs.map (·.1)), star rowE vs] :: L) (rowsA v l :: L) := Imp.head fun f hf => ⟨vs, hf⟩
  exact ((Imp.purI h).trans h1).trans h2
theorem x_rows {v : Value} {l : List HostS.Bytes} {L : List Asrt} {w0 : World} {c : Code} {ρ : Env} {Q : XQ} (h : ∀ vs : List RV, vs.map (·.2) = l → xC Tryz.prog w0 c ρ (own 66 1 v vs.length (vs.map (·.1)) :: star rowE vs :: L) Q) : xC Tryz.prog w0 c ρ (rowsA v l :: L) Q :=
  Zgr fun vs => Zgs (L := [pur (vs.map (·.2) = l), own 66 1 v vs.length (vs.map (·.1)), star rowE vs]) (Zgq fun hk => h vs hk)
theorem row_shape {vs : List RV} {i : Nat} (hi : i < vs.length) {M M' : List Asrt} {F : Asrt} {w0 w : World} (hm : Has M (star rowE vs) M') (H : St w0 w (F :: M)) : ∃ a c, vs[i].1 = .slice a vs[i].2.length c := by
  obtain ⟨R, hR⟩ := star_has (A := rowE) (List.getElem_mem hi) hm
  have H2 : St w0 w (F :: rowE vs[i] :: R) := H.enx hR
  obtain ⟨a, c, h, _⟩ := own_shape (H2.pick (.there .here))
  exact ⟨a, c, h⟩
theorem fcells_len (f : HostS.Fault) : (fcells f).length = 6 := rfl
theorem back_len {s : HostS.HS} (hs : HostS.Ok s) (page writes : Int) : (HostS.back s page writes).length = s.size := by
  simp only [HostS.back]
  split
  · rename_i h
    have h2 : (((s.lay page).length : Int) - 1 - max writes 0).toNat < (s.lay page).length := by omega
    have : (s.lay page).getD (((s.lay page).length : Int) - 1 - max writes 0).toNat [] = (s.lay page)[(((s.lay page).length : Int) - 1 - max writes 0).toNat]'h2 := by simp [h2]
    rw [this]; exact hs.row page _ (List.getElem_mem _)
  · simp
theorem spoil1_len {s : HostS.HS} (hs : HostS.Ok s) (page : Int) (b : HostS.Bytes) (f : HostS.Fault) (hb : b.length = s.size) : (HostS.spoil1 s page b f).length = s.size := by
  unfold HostS.spoil1
  split
  · split <;> simp [hb]
  · split
    · exact back_len hs _ _
    · split
      · split
        · exact back_len hs _ _
        · exact hb
      · exact hb
theorem spoil_len {s : HostS.HS} (hs : HostS.Ok s) (page : Int) (l : List HostS.Fault) : ∀ (b : HostS.Bytes), b.length = s.size → (l.foldl (HostS.spoil1 s page) b).length = s.size := by
  induction l with
  | nil => exact fun b h => h
  | cons f r ih => exact fun b h => ih _ (spoil1_len hs page b f h)
theorem take_fold {s : HostS.HS} (page : Int) (b : HostS.Bytes) (l : List HostS.Fault) (i : Nat) (hi : i < l.length) : (l.take (i + 1)).foldl (HostS.spoil1 s page) b = HostS.spoil1 s page ((l.take i).foldl (HostS.spoil1 s page) b) l[i] := by
  rw [List.take_succ_eq_append_getElem hi, List.foldl_append]; rfl

theorem tcells_len (t : HostS.Touch) (h : t.head.length = 12) : (tcells t).length = 15 := by simp [tcells, h]
theorem headOf_len (b : HostS.Bytes) : (HostS.headOf b).length = 12 := by simp [HostS.headOf]; omega
theorem touchOf_len (s : HostS.HS) (op page : Int) (b : HostS.Bytes) : (HostS.touchOf s op page b).head.length = 12 := by
  unfold HostS.touchOf
  split
  · exact headOf_len b
  · split <;> simp
theorem tcells_one (t : HostS.Touch) : (tcells t).all oneC = true := by simp [tcells, oneC, u8b]
theorem before_take (l : List HostS.Fault) (i : Nat) (hi : i < l.length) : HostS.before (l.take (i + 1)) = (HostS.before (l.take i) || l[i].kind == 3) := by
  rw [List.take_succ_eq_append_getElem hi]; simp only [HostS.before, List.any_append, List.any_cons, List.any_nil, Bool.or_false]
theorem behind_take (l : List HostS.Fault) (i : Nat) (hi : i < l.length) : HostS.behind (l.take (i + 1)) = (HostS.behind (l.take i) || l[i].kind == 4) := by
  rw [List.take_succ_eq_append_getElem hi]; simp only [HostS.behind, List.any_append, List.any_cons, List.any_nil, Bool.or_false]
theorem ok_taken {s : HostS.HS} (hs : HostS.Ok s) : HostS.Ok (HostS.taken s) :=
  ⟨hs.p0, hs.p1, hs.z0, hs.z1, hs.row, fun p => Nat.le_succ_of_le (hs.many p), Nat.le_succ_of_le hs.log,
    fun k f hf => by
      simp only [HostS.taken, HostS.setF] at hf
      split at hf
      · cases hf
      · exact hs.flt k f hf,
    fun k => by
      simp only [HostS.taken, HostS.setF]
      split
      · simp
      · exact hs.fln k⟩
theorem ok_down {s : HostS.HS} (b : Bool) (hs : HostS.Ok s) : HostS.Ok { s with down := b } := ⟨hs.p0, hs.p1, hs.z0, hs.z1, hs.row, hs.many, hs.log, hs.flt, hs.fln⟩
theorem ok_wrote {s : HostS.HS} (page op : Int) (b : HostS.Bytes) (hb : b.length = s.size) (h0 : HostS.Ok s) (h : HostS.Ok (HostS.logged s op page b)) : HostS.Ok (HostS.wrote page b (HostS.logged s op page b)) := by
  refine ⟨h.p0, h.p1, h.z0, h.z1, ?_, ?_, h.log, h.flt, h.fln⟩
  · intro q r hr
    by_cases e : q = page
    · simp only [HostS.wrote, HostS.setF, e, if_true, List.mem_append, List.mem_singleton] at hr
      rcases hr with hr|rfl
      · exact h.row _ _ hr
      · exact hb
    · simp only [HostS.wrote, HostS.setF, e, if_false] at hr
      exact h.row _ _ hr
  · intro q
    have := h0.many q
    have e2 : (HostS.wrote page b (HostS.logged s op page b)).ops = s.ops + 1 := rfl
    rw [e2]
    by_cases e : q = page
    · subst e
      have e3 : (HostS.wrote q b (HostS.logged s op q b)).lay q = s.lay q ++ [b] := by simp [HostS.wrote, HostS.setF, HostS.logged, HostS.taken]
      rw [e3]; simp; exact this
    · have e3 : (HostS.wrote page b (HostS.logged s op page b)).lay q = s.lay q := by simp [HostS.wrote, HostS.setF, e, HostS.logged, HostS.taken]
      rw [e3]; omega
theorem does_zero {s : HostS.HS} {op page : Int} {b : HostS.Bytes} {act : HostS.HS → HostS.HS} (h : HostS.done s = false) : (HostS.does s op page b act).2 = 110 := by
  simp only [HostS.done] at h
  simp only [HostS.does]
  cases hd : s.down <;> simp [hd] at h ⊢
  simp [h]
theorem log_one (l : List HostS.Touch) (h : l.length ≤ 3518437208880) : (l.flatMap tcells).all oneC = true := by
  rw [List.all_eq_true]
  intro v hv
  obtain ⟨t, _, hv⟩ := List.mem_flatMap.1 hv
  simp only [tcells, List.mem_append, List.mem_map] at hv
  rcases hv with hv|⟨n, _, rfl⟩
  · simp at hv; rcases hv with rfl|rfl|rfl <;> rfl
  · rfl
theorem comes_take (fl : List HostS.Fault) (i : Nat) (hi : i < fl.length) : upd (HostS.comes (fl.take i)) fl[i].at_ (HostS.comes (fl.take i) fl[i].at_ ++ [fl[i]]) = HostS.comes (fl.take (i + 1)) := by
  funext k
  have h2 : fl.take (i + 1) = fl.take i ++ [fl[i]] := by rw [List.take_succ_eq_append_getElem hi]
  unfold upd HostS.comes
  rw [h2, List.filter_append]
  by_cases e : k = fl[i].at_
  · subst e
    simp
  · have e2 : (fl[i].at_ == k) = false := by simp; omega
    simp [e, e2]
theorem kindly_take (fl : List HostS.Fault) (i : Nat) (hi : i < fl.length) : (fl.take (i + 1)).all HostS.kindly = ((fl.take i).all HostS.kindly && HostS.kindly fl[i]) := by
  rw [List.take_succ_eq_append_getElem hi, List.all_append]; simp
theorem kindly_no {fl : List HostS.Fault} (i : Nat) (hi : i < fl.length) (h : HostS.kindly fl[i] = false) : fl.all HostS.kindly = false := by
  rw [Bool.eq_false_iff, Ne, List.all_eq_true]
  intro hh
  have := hh _ (List.getElem_mem hi)
  rw [h] at this; cases this
theorem ok_fresh (pages : Int) (size : Nat) (fl : List HostS.Fault) (hp : 0 ≤ pages ∧ pages ≤ 65536 ∧ 1 ≤ (size : Int) ∧ (size : Int) ≤ 4124) (hfo : ∀ f ∈ fl, HostS.FOk f) (hfl : fl.length ≤ 2932031007401) : HostS.Ok (HostS.fresh pages size fl) := by
  refine ⟨hp.1, hp.2.1, by simp [HostS.fresh]; omega, by simp [HostS.fresh]; omega, fun p r hr => by simp [HostS.fresh] at hr, fun p => by simp [HostS.fresh], by simp [HostS.fresh], ?_, ?_⟩
  · intro k f hf
    exact hfo f (List.mem_filter.1 hf).1
  · intro k
    exact Nat.le_trans (List.length_filter_le _ _) hfl
end Go.Sl
namespace Go.Sl
open Go Go.Proofs
attribute [local irreducible] pt own old pur ex all den denOps denS xOps xC cX CX xthen xblk xcut xloop xng retX resX Calls PV Rd Con
attribute [local irreducible] hostA omap ohole oheld rowsA
theorem cpy_full {l : List Byte} {z : Nat} (h : l.length = z) : wr (((List.replicate z 0#8).map u8b).toArray) 0 ((l.map u8b).take (min l.length z * 1)) = (l.map u8b).toArray := by
  subst h
  have := copy_pre l 0
  simpa using this
theorem row_rd {vs : List RV} {i : Nat} (hi : i < vs.length) {M M' : List Asrt} (hm : Has M (star rowE vs) M') : Rd M 1 vs[i].1 vs[i].2.length (vs[i].2.map u8b) := by
  obtain ⟨R, hR⟩ := star_has (A := rowE) (List.getElem_mem hi) hm
  exact (Rd.own (E := 5) .here).imp hR
section
variable {p : Nat} {s : HostS.HS} {L : List Asrt}
theorem host_close {bl bc lc : Nat} {la : Option Addr} {v : Value} {vs : List RV} {page : Int} (hs : HostS.Ok s) (h : vs.map (·.2) = s.lay page) : Imp (own 66 1 v vs.length (vs.map (·.1)) :: star rowE vs :: ohole bl rowsA [] s.lay page v :: cl p (hcl s (bl, bc, la, lc)) 141 :: omap bc faultsA [] s.coming :: ownLog la lc s.log :: L) (hostA p s :: L) :=
  ((rows_mk h).trans Imp.omap_close).trans ((Imp.arr (N := hostP p s (bl, bc, la, lc) ++ L) qV).trans (hostA_mk hs))
theorem pages_x : Con Tryz.prog 291 [hp p] [hostA p s] (fun v M => v = .int .i64 s.pages ∧ M = [hostA p s]) := by
  refine Con.hostA fun c hs => ?_
  simp only [List.cons_append, List.nil_append]
  refine fn_y Tryz.func291 Tryz.mixed ?_
  intro w0
  refine Y6 ?_
  refine Zhn 4 rfl (rfl) ?_
  refine V9 ?_
  refine rx1 (Zg9 rfl (Zg7)) ?_
  exact ⟨_, ⟨rfl, rfl⟩, (Imp.arr (N := hostP p s c ++ []) qV).trans (hostA_mk hs)⟩
theorem size_x : Con Tryz.prog 293 [hp p] [hostA p s] (fun v M => v = nvv s.size ∧ M = [hostA p s]) := by
  refine Con.hostA fun c hs => ?_
  simp only [List.cons_append, List.nil_append]
  refine fn_y Tryz.func293 Tryz.mixed ?_
  intro w0
  refine Y6 ?_
  refine Zhn 4 rfl (rfl) ?_
  refine V9 ?_
  refine rx1 (Zg9 rfl (Zg7)) ?_
  exact ⟨_, ⟨rfl, rfl⟩, (Imp.arr (N := hostP p s c ++ []) qV).trans (hostA_mk hs)⟩
theorem there_x (page : Int) : Con Tryz.prog 295 [hp p, .int .i64 page] [hostA p s] (fun v M => v = .bool (decide (HostS.there s page)) ∧ M = [hostA p s]) := by
  refine Con.hostA fun c hs => ?_
  simp only [List.cons_append, List.nil_append]
  by_cases h0 : 0 ≤ page
  · by_cases h1 : page < s.pages
    · rw [decide_eq_true (show HostS.there s page from ⟨h0, h1⟩)]
      refine fn_y Tryz.func295 Tryz.mixed ?_
      intro w0
      refine Y5 ?_
      refine Zhg (Zbq (b := 0) rfl rfl) ?_
      refine Zos 6 rfl (h0) ?_
      refine Y6 ?_
      first|refine Y0 ?_|(refine Zhh rfl ?_; (refine Zhg (Zbn (b := s.pages) rfl rfl) ?_))
      refine Zos 13 rfl (h1) ?_
      refine V3 ?_
      refine rx1 (Zha rfl (Zg7)) ?_
      exact ⟨_, ⟨rfl, rfl⟩, (Imp.arr (N := hostP p s c ++ []) qV).trans (hostA_mk hs)⟩
    · rw [decide_eq_false (show ¬ HostS.there s page from fun h => h1 h.2)]
      refine fn_y Tryz.func295 Tryz.mixed ?_
      intro w0
      refine Y5 ?_
      refine Zhg (Zbq (b := 0) rfl rfl) ?_
      refine Zos 6 rfl (h0) ?_
      refine Y6 ?_
      first|refine Y0 ?_|(refine Zhh rfl ?_; (refine Zhg (Zbn (b := s.pages) rfl rfl) ?_))
      refine Zot 13 rfl (h1) ?_
      refine V3 ?_
      refine rx1 (Zha rfl (Zg7)) ?_
      exact ⟨_, ⟨rfl, rfl⟩, (Imp.arr (N := hostP p s c ++ []) qV).trans (hostA_mk hs)⟩
  · rw [decide_eq_false (show ¬ HostS.there s page from fun h => h0 h.1)]
    refine fn_y Tryz.func295 Tryz.mixed ?_
    intro w0
    refine Y5 ?_
    refine Zhg (Zbq (b := 0) rfl rfl) ?_
    refine Zot 6 rfl (h0) ?_
    refine V10 ?_
    refine rx1 (Zha rfl (Zg7)) ?_
    exact ⟨_, ⟨rfl, rfl⟩, (Imp.arr (N := hostP p s c ++ []) qV).trans (hostA_mk hs)⟩
theorem back_x (page writes : Int) (hw : -9223372036854775808 ≤ writes ∧ writes ≤ 9223372036854775807) (hops : s.ops ≤ 3518437208880) :
    Con Tryz.prog 301 [hp p, .int .i64 page, .int .i64 writes] [hostA p s] (fun r M => ∃ a c, r = .slice a (HostS.back s page writes).length c ∧ M = [ownB a c (HostS.back s page writes), hostA p s]) := by
  refine Con.hostA fun c hs => ?_
  obtain ⟨bl, bc, la, lc⟩ := c
  simp only [List.cons_append, List.nil_append, List.append_nil]
  have hz1 := hs.z1
  have hmany := hs.many page
  have hbl := back_len hs page writes
  refine fn_y Tryz.func301 Tryz.mixed ?_
  intro w0
  refine Y8 ?_
  refine Zm3 (f := u8b) (a := 0#8) rfl rfl rfl qS qS qS ?_; intro b14
  refine V2 ?_
  refine Zgp (Imp.arr (N := omap bl rowsA [] s.lay :: cl p (hcl s (bl, bc, la, lc)) 141 :: omap bc faultsA [] s.coming :: ownLog la lc s.log :: [cl b14 ((List.replicate s.size 0#8).map u8b).toArray 5]) qV) ?_
  refine Zom rows_nil page ?_
  intro v
  refine x_rows fun vs hvs => ?_
  have hvl : vs.length = (s.lay page).length := by rw [← hvs, List.length_map]
  refine Zgt (fun F w H => own_shape (H.pick (.there .here))) ?_
  rintro ⟨ra, rc, rfl, hrc, hrcm⟩
  refine Y6 ?_
  refine Zig rfl rfl qH ?_
  refine Y5 ?_
  refine Zhg (Zbh (a := (vs.length : Int)) (b := 1) rfl rfl (by omega)) ?_
  refine Y1 ?_
  refine Zhg (Zcv (a := writes) (b := 0) rfl rfl) ?_
  refine Zhg (Zbh (a := (vs.length : Int) - 1) (b := max writes 0) rfl rfl (by omega)) ?_
  refine V2 ?_
  by_cases h0 : (vs.length : Int) - 1 - max writes 0 ≥ 0
  · obtain ⟨n, hn⟩ : ∃ n : Nat, (vs.length : Int) - 1 - max writes 0 = n := ⟨((vs.length : Int) - 1 - max writes 0).toNat, by omega⟩
    have hnl : n < vs.length := by omega
    have e : HostS.back s page writes = vs[n].2 := by
      unfold HostS.back
      dsimp only
      rw [← hvl, if_pos (by omega), hn, ← hvs]
      simp [hnl]
    rw [e] at hbl ⊢
    refine Zgt (fun F w H => own_someN (a := ra) (n := vs.length) qH (by omega) H) ?_
    rintro ⟨g, rfl⟩
    refine Zgt (fun F w H => row_shape hnl qH H) ?_
    rintro ⟨xa, xc, hsh⟩
    have hrr : ∀ {M M' : List Asrt}, Has M (star rowE vs) M' → Rd M 1 (.slice xa vs[n].2.length xc) vs[n].2.length (vs[n].2.map u8b) := fun hm => by rw [← hsh]; exact row_rd hnl hm
    refine Y2 ?_
    refine Zhg (Zbq (b := 0) rfl rfl) ?_
    refine Zos 28 rfl (h0) ?_
    refine Y6 ?_
    refine Zhg (Zl4 (n := n) rfl (int_eq hn) hnl) ?_
    refine Zff rfl (((Rd.own (n := vs.length) qH).at0 hnl (by rw [List.getElem?_map, List.getElem?_eq_getElem hnl]; exact congrArg some hsh))) ?_
    refine Zib rfl rfl (hrr qH) qR qZ (by first|rfl|exact oneM_u8 _|exact oneL_u8 _|assumption|(simp [oneC]; done)) (cpy_full hbl) ?_
    refine V5 ?_
    refine rx1 (Zhc rfl (Zg7)) ?_
    refine ⟨_, ⟨some ⟨b14, 0, none⟩, s.size, by rw [hbl], rfl⟩, ?_⟩
    exact (Imp.arr (N := cl b14 (vs[n].2.map u8b).toArray 5 :: own 66 1 (.slice (some ⟨g, 0, none⟩) vs.length rc) vs.length (vs.map (·.1)) :: star rowE vs :: ohole bl rowsA [] s.lay page (.slice (some ⟨g, 0, none⟩) vs.length rc) :: cl p (hcl s (bl, bc, la, lc)) 141 :: omap bc faultsA [] s.coming :: ownLog la lc s.log :: []) qV).trans ((Imp.own_mk (E := 5) (size := 1) (n := vs[n].2.length) (cap := s.size) (xs := vs[n].2.map u8b) (by omega) (by omega) (by simp [hbl]) (by rw [Nat.mul_one, List.take_of_length_le (by simp)])).trans (Imp.cons (host_close hs hvs)))
  · have e : HostS.back s page writes = List.replicate s.size 0#8 := by
      unfold HostS.back
      dsimp only
      rw [← hvl, if_neg (by omega)]
    rw [e]
    refine Y2 ?_
    refine Zhg (Zbq (b := 0) rfl rfl) ?_
    refine Zot 28 rfl (h0) ?_
    refine V6 ?_
    refine rx1 (Zhc rfl (Zg7)) ?_
    refine ⟨_, ⟨some ⟨b14, 0, none⟩, s.size, by rw [List.length_replicate], rfl⟩, ?_⟩
    exact (Imp.arr (N := cl b14 ((List.replicate s.size 0#8).map u8b).toArray 5 :: own 66 1 (.slice ra vs.length rc) vs.length (vs.map (·.1)) :: star rowE vs :: ohole bl rowsA [] s.lay page (.slice ra vs.length rc) :: cl p (hcl s (bl, bc, la, lc)) 141 :: omap bc faultsA [] s.coming :: ownLog la lc s.log :: []) qV).trans ((Imp.own_mk (E := 5) (size := 1) (n := (List.replicate s.size 0#8).length) (cap := s.size) (xs := (List.replicate s.size 0#8).map u8b) (by simp) (by omega) (by simp) (by simp)).trans (Imp.cons (host_close hs hvs)))
theorem touch_fill (op page len : Int) (b : List Byte) : wr (tcells ⟨op, page, len, List.replicate 12 0#8⟩).toArray 3 ((b.map u8b).take (min b.length 12 * 1)) = (tcells ⟨op, page, len, HostS.headOf b⟩).toArray := by
  apply Array.ext'
  rw [wr_toList _ _ _ (by simp [tcells]; omega)]
  have hd : ∀ (A : List Value) (q : Value) (n : Nat), A.length = 3 → List.drop (3 + n) (A ++ List.replicate 12 q) = List.replicate (12 - n) q := by
    intro A q n hA
    rw [List.drop_append, List.drop_of_length_le (by omega), List.nil_append, hA, List.drop_replicate, Nat.add_sub_cancel_left]
  have ht : ∀ (A B : List Value), A.length = 3 → List.take 3 (A ++ B) = A := fun A B hA => List.take_left' hA
  unfold tcells HostS.headOf
  dsimp only
  rw [List.map_replicate, ht _ _ rfl, hd _ _ _ rfl, List.map_append, List.map_replicate, List.map_take]
  have e1 : (List.map u8b b).take (min b.length 12 * 1) = (List.map u8b b).take 12 := by
    rw [Nat.mul_one]
    by_cases h : b.length ≤ 12
    · rw [Nat.min_eq_left h, List.take_of_length_le (by simp), List.take_of_length_le (by simpa using h)]
    · rw [Nat.min_eq_right (by omega)]
  have e2 : 12 - ((List.map u8b b).take 12).length = 12 - b.length := by simp; omega
  rw [e1, e2, List.append_assoc]
theorem touch_x {bv : Value} {b : List Byte} {c : HC} (op page : Int) (hb : Bs L bv b) (hbl : b.length ≤ 9223372036854775807) :
    Con Tryz.prog 300 [hp p, .int .i64 op, .int .i64 page, bv] (cl p (hcl s c) 141 :: L) (fun r M => r = .agg (tcells (HostS.touchOf s op page b)).toArray ∧ M = cl p (hcl s c) 141 :: L) := by
  refine Con.get (fun w0 w F H => hb.sh _ _ _ (H.enx Imp.tail)) ?_
  rintro ⟨ba, bc, rfl, hbc, hbcm⟩
  have hz : (tcells ⟨op, 0, 8, List.replicate 12 0#8⟩).toArray = #[.int .i64 op, .int .i64 0, .int .i64 8, u8b 0#8, u8b 0#8, u8b 0#8, u8b 0#8, u8b 0#8, u8b 0#8, u8b 0#8, u8b 0#8, u8b 0#8, u8b 0#8, u8b 0#8, u8b 0#8] := rfl
  by_cases h1 : op = 1
  · subst h1
    have e : HostS.touchOf s 1 page b = ⟨1, page, s.size, HostS.headOf b⟩ := rfl
    rw [e]
    have hsz : (tcells ⟨1, 0, 8, HostS.headOf b⟩).toArray.size = 15 := by simp [tcells, HostS.headOf]; omega
    refine fn_y Tryz.func300 Tryz.mixed ?_
    intro w0
    refine Y1 ?_
    refine Zhz (cs := #[.int .i64 0, .int .i64 0, .int .i64 0, u8b 0#8, u8b 0#8, u8b 0#8, u8b 0#8, u8b 0#8, u8b 0#8, u8b 0#8, u8b 0#8, u8b 0#8, u8b 0#8, u8b 0#8, u8b 0#8]) rfl ?_; intro b8
    refine Y3 ?_
    refine Zhg (Zdm (cs := (tcells ⟨1, 0, 8, List.replicate 12 0#8⟩).toArray) (by kernel_rfl)) ?_
    refine Zhz (cs := #[.int .i64 0, .int .i64 0, .int .i64 0, u8b 0#8, u8b 0#8, u8b 0#8, u8b 0#8, u8b 0#8, u8b 0#8, u8b 0#8, u8b 0#8, u8b 0#8, u8b 0#8, u8b 0#8, u8b 0#8]) rfl ?_; intro b9
    first|refine Zhy rfl rfl qR qZ (by first|rfl|exact oneM_u8 _|exact oneL_u8 _|assumption|(simp [oneC]; done)) qZ ?_|refine Zhx rfl rfl qR qZ (by first|rfl|exact oneM_u8 _|exact oneL_u8 _|assumption|(simp [oneC]; done)) qZ rfl ?_
    refine Y5 ?_
    refine Zhg (Zbr (b := 1) rfl rfl) ?_
    refine Zos 14 rfl (rfl) ?_
    refine Y5 ?_
    refine Zhg (Zmx (l := 0) (h := 12) rfl qB qB (by omega) (by omega) (by omega)) ?_
    refine Y1 ?_
    refine Zib rfl rfl ((hb.rd.imp qI)) qR qZ (by first|rfl|exact oneM_u8 _|exact oneL_u8 _|assumption|(simp [oneC]; done)) (touch_fill 1 0 8 b) ?_
    refine Y8 ?_
    refine Zht rfl rfl qR qZ ((by rfl)) ?_
    refine Y1 ?_
    refine Zht rfl rfl qR qZ ((by rfl)) ?_
    refine Y3 ?_
    first|refine Zhy rfl rfl qR qZ (by first|rfl|exact oneM_u8 _|exact oneL_u8 _|assumption|(simp [oneC]; done)) qZ ?_|refine Zhx rfl rfl qR qZ (by first|rfl|exact oneM_u8 _|exact oneL_u8 _|assumption|(simp [oneC]; done)) qZ rfl ?_
    refine V1 ?_
    refine rx1 (Zhe rfl qH qZ (Zg7)) ?_
    exact ⟨_, ⟨rfl, rfl⟩, qI⟩
  · by_cases h0 : op = 0
    · subst h0
      have e : HostS.touchOf s 0 page b = ⟨0, page, s.size, List.replicate 12 0#8⟩ := rfl
      rw [e]
      refine fn_y Tryz.func300 Tryz.mixed ?_
      intro w0
      refine Y1 ?_
      refine Zhz (cs := #[.int .i64 0, .int .i64 0, .int .i64 0, u8b 0#8, u8b 0#8, u8b 0#8, u8b 0#8, u8b 0#8, u8b 0#8, u8b 0#8, u8b 0#8, u8b 0#8, u8b 0#8, u8b 0#8, u8b 0#8]) rfl ?_; intro b8
      refine Y3 ?_
      refine Zhg (Zdm (cs := (tcells ⟨0, 0, 8, List.replicate 12 0#8⟩).toArray) (by kernel_rfl)) ?_
      refine Zhz (cs := #[.int .i64 0, .int .i64 0, .int .i64 0, u8b 0#8, u8b 0#8, u8b 0#8, u8b 0#8, u8b 0#8, u8b 0#8, u8b 0#8, u8b 0#8, u8b 0#8, u8b 0#8, u8b 0#8, u8b 0#8]) rfl ?_; intro b9
      first|refine Zhy rfl rfl qR qZ (by first|rfl|exact oneM_u8 _|exact oneL_u8 _|assumption|(simp [oneC]; done)) qZ ?_|refine Zhx rfl rfl qR qZ (by first|rfl|exact oneM_u8 _|exact oneL_u8 _|assumption|(simp [oneC]; done)) qZ rfl ?_
      refine Y5 ?_
      refine Zhg (Zbr (b := 1) rfl rfl) ?_
      refine Zot 14 rfl (h1) ?_
      refine Y4 ?_
      refine Zhg (Zbr (b := 0) rfl rfl) ?_
      refine Zos 16 rfl (rfl) ?_
      refine Y10 ?_
      refine Zht rfl rfl qR qZ ((by rfl)) ?_
      refine Y1 ?_
      refine Zht rfl rfl qR qZ ((by rfl)) ?_
      refine Y3 ?_
      first|refine Zhy rfl rfl qR qZ (by first|rfl|exact oneM_u8 _|exact oneL_u8 _|assumption|(simp [oneC]; done)) qZ ?_|refine Zhx rfl rfl qR qZ (by first|rfl|exact oneM_u8 _|exact oneL_u8 _|assumption|(simp [oneC]; done)) qZ rfl ?_
      refine V1 ?_
      refine rx1 (Zhe rfl qH qZ (Zg7)) ?_
      exact ⟨_, ⟨rfl, rfl⟩, qI⟩
    · have e : HostS.touchOf s op page b = ⟨op, 0, 8, List.replicate 12 0#8⟩ := by unfold HostS.touchOf; rw [if_neg h1, if_neg h0]
      rw [e]
      refine fn_y Tryz.func300 Tryz.mixed ?_
      intro w0
      refine Y1 ?_
      refine Zhz (cs := #[.int .i64 0, .int .i64 0, .int .i64 0, u8b 0#8, u8b 0#8, u8b 0#8, u8b 0#8, u8b 0#8, u8b 0#8, u8b 0#8, u8b 0#8, u8b 0#8, u8b 0#8, u8b 0#8, u8b 0#8]) rfl ?_; intro b8
      refine Y3 ?_
      refine Zhg (Zdm (cs := (tcells ⟨op, 0, 8, List.replicate 12 0#8⟩).toArray) (by kernel_rfl)) ?_
      refine Zhz (cs := #[.int .i64 0, .int .i64 0, .int .i64 0, u8b 0#8, u8b 0#8, u8b 0#8, u8b 0#8, u8b 0#8, u8b 0#8, u8b 0#8, u8b 0#8, u8b 0#8, u8b 0#8, u8b 0#8, u8b 0#8]) rfl ?_; intro b9
      first|refine Zhy rfl rfl qR qZ (by first|rfl|exact oneM_u8 _|exact oneL_u8 _|assumption|(simp [oneC]; done)) qZ ?_|refine Zhx rfl rfl qR qZ (by first|rfl|exact oneM_u8 _|exact oneL_u8 _|assumption|(simp [oneC]; done)) qZ rfl ?_
      refine Y5 ?_
      refine Zhg (Zbr (b := 1) rfl rfl) ?_
      refine Zot 14 rfl (h1) ?_
      refine Y4 ?_
      refine Zhg (Zbr (b := 0) rfl rfl) ?_
      refine Zot 16 rfl (h0) ?_
      refine Y5 ?_
      first|refine Zhy rfl rfl qR qZ (by first|rfl|exact oneM_u8 _|exact oneL_u8 _|assumption|(simp [oneC]; done)) qZ ?_|refine Zhx rfl rfl qR qZ (by first|rfl|exact oneM_u8 _|exact oneL_u8 _|assumption|(simp [oneC]; done)) qZ rfl ?_
      refine V1 ?_
      refine rx1 (Zhe rfl qH qZ (Zg7)) ?_
      exact ⟨_, ⟨rfl, rfl⟩, qI⟩
end
end Go.Sl
