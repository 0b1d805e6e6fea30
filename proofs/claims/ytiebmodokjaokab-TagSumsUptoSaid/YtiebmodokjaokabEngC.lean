/- The engine, third part: operations that only reckon. -/
import Derived.Test.YtiebmodokjaokabEngB
import Derived.IntWalk
set_option linter.unusedVariables false
set_option linter.unusedSimpArgs false
namespace Go.Sl
open Go

def aggD : TypeDesc → Bool
  | .struct _ | .array _ _ => true
  | _ => false
def fldOf (P : Program) (T i : Nat) : Option (Nat × Nat) :=
  match P.underlying T with
  | some (.struct fs) => (fs[i]?).map fun f => (f.offset, f.type)
  | _ => none
class TyScal (P : Program) (T : Nat) : Prop where h : (P.underlying T).map aggD = some false
class TyAggr (P : Program) (T : Nat) : Prop where h : (P.underlying T).map aggD = some true
class TyI (P : Program) (T : Nat) (size bytes : outParam Nat) (zero : outParam Value) : Prop where
  h : (P.info? T).map (fun i => (i.size, i.bytes, i.zero)) = some (size, bytes, some zero)
  zs : zero.cells.size = size
class TyInt (P : Program) (T : Nat) (k : outParam IntKind) : Prop where h : P.underlying T = some (.int k)
class TyBool (P : Program) (T : Nat) : Prop where h : P.underlying T = some .bool
class TyStr (P : Program) (T : Nat) : Prop where h : P.underlying T = some .string
class TySlice (P : Program) (T : Nat) (E : outParam Nat) : Prop where h : P.underlying T = some (.slice E)
class TyArr (P : Program) (T : Nat) (n E : outParam Nat) : Prop where h : P.underlying T = some (.array n E)
class TyPtr (P : Program) (T : Nat) (E : outParam Nat) : Prop where h : P.underlying T = some (.pointer E)
class TyMap (P : Program) (T : Nat) (K E : outParam Nat) : Prop where h : P.underlying T = some (.map K E)
class Fld (P : Program) (T i : Nat) (off T' : outParam Nat) : Prop where h : fldOf P T i = some (off, T')

section base
variable {P : Program} {w : World}
theorem run_under {T : Nat} {d : TypeDesc} (h : P.underlying T = some d) : (underlying T).run P w = .ok d w := by
  show (match P.underlying T with | some d => (pure d : Sem TypeDesc) | none => stuck "no such type").run P w = _
  rw [h]; rfl
theorem run_tinfo {T : Nat} {i : TypeInfo} (h : P.info? T = some i) : (typeInfo T).run P w = .ok i w := by
  show (match P.info? T with | some d => (pure d : Sem TypeInfo) | none => stuck "no such type").run P w = _
  rw [h]; rfl
theorem TyI.out {T size bytes : Nat} {zero : Value} (h : TyI P T size bytes zero) : ∃ i, P.info? T = some i ∧ i.size = size ∧ i.bytes = bytes ∧ i.zero = some zero := by
  have h := h.h
  cases hi : P.info? T with
  | none => rw [hi] at h; cases h
  | some i =>
    rw [hi] at h
    simp only [Option.map_some, Option.some.injEq, Prod.mk.injEq] at h
    exact ⟨i, rfl, h.1, h.2.1, h.2.2⟩
theorem run_size {T size bytes : Nat} {zero : Value} (h : TyI P T size bytes zero) : (sizeOf T).run P w = .ok size w := by
  obtain ⟨i, hi, rfl, _, _⟩ := h.out
  show (typeInfo T >>= fun i => pure i.size).run P w = _
  rw [run_bind P _ _ w w i (run_tinfo hi)]; rfl
theorem run_zero {T size bytes : Nat} {zero : Value} (h : TyI P T size bytes zero) : (zeroValue T).run P w = .ok zero w := by
  obtain ⟨i, hi, _, _, hz⟩ := h.out
  show (typeInfo T >>= fun i => match i.zero with | some v => (pure v : Sem Value) | none => _).run P w = _
  rw [run_bind P _ _ w w i (run_tinfo hi), hz]; rfl
theorem run_bytes {α : Type} {T size bytes : Nat} {zero : Value} (h : TyI P T size bytes zero) (f : Nat → Sem α) : (typeInfo T >>= fun i => f i.bytes).run P w = (f bytes).run P w := by
  obtain ⟨i, hi, _, rfl, _⟩ := h.out
  rw [run_bind P _ _ w w i (run_tinfo hi)]
theorem run_isAgg {T : Nat} {b : Bool} (h : (P.underlying T).map aggD = some b) : (isAgg T).run P w = .ok b w := by
  cases hd : P.underlying T with
  | none => rw [hd] at h; cases h
  | some d =>
    rw [hd] at h
    simp only [Option.map_some, Option.some.injEq] at h
    show (underlying T >>= fun d => match d with | .struct _ | .array _ _ => (pure true : Sem Bool) | _ => pure false).run P w = _
    rw [run_bind P _ _ w w d (run_under hd)]
    cases d <;> simp only [aggD] at h <;> subst h <;> rfl
theorem Fld.out {T i off T' : Nat} (h : Fld P T i off T') : ∃ fs f, P.underlying T = some (.struct fs) ∧ fs[i]? = some f ∧ f.offset = off ∧ f.type = T' := by
  have h := h.h
  unfold fldOf at h
  split at h
  · rename_i fs hfs
    cases hf : fs[i]? with
    | none => rw [hf] at h; cases h
    | some f =>
      rw [hf] at h
      simp only [Option.map_some, Option.some.injEq, Prod.mk.injEq] at h
      exact ⟨fs, f, hfs, hf, h.1, h.2⟩
  · cases h
end base

/-- An operation that yields a value in whatever world, and leaves it alone. -/
def PV (P : Program) (o : Op) (ρ : Env) (v : Value) : Prop := ∀ (oo : Oper) (w : World), oo.op = o → (execOp (ev ρ) oo).run P w = .ok (.value v) w

theorem op_run_value {P : Program} {w w' : World} {s : Sem Value} {v : Value} (h : s.run P w = .ok v w') : (do pure (Next.value (← s)) : Sem Next).run P w = .ok (.value v) w' := by
  show (s >>= fun v => pure (Next.value v)).run P w = _
  rw [run_bind P _ _ w w' v h]; rfl
theorem op_run_unit {P : Program} {w w' : World} {s : Sem Unit} (h : s.run P w = .ok () w') : (do s; pure Next.skip : Sem Next).run P w = .ok .skip w' := by
  show (s >>= fun _ => pure Next.skip).run P w = _
  rw [run_bind P _ _ w w' () h]; rfl

section pv
variable {P : Program} {ρ : Env}
theorem pv_move {x : Operand} {v : Value} (h : ev ρ x = v) : PV P (.move x) ρ v := by
  intro oo w ho; unfold execOp; rw [ho]; subst h; rfl
theorem pv_assign {x : Operand} {v : Value} (h : ev ρ x = v) : PV P (.assign x) ρ v := by
  intro oo w ho; unfold execOp; rw [ho]; subst h; rfl
-- in constructors, so that what a slot holds stays written out
theorem pv_move_int {x : Operand} {k : IntKind} {n : Int} (h : ev ρ x = .int k n) : PV P (.move x) ρ (.int k n) := pv_move h
theorem pv_move_bool {x : Operand} {b : Bool} (h : ev ρ x = .bool b) : PV P (.move x) ρ (.bool b) := pv_move h
theorem pv_move_ptr {x : Operand} {a : Option Addr} (h : ev ρ x = .pointer a) : PV P (.move x) ρ (.pointer a) := pv_move h
theorem pv_move_slice {x : Operand} {a : Option Addr} {l c : Nat} (h : ev ρ x = .slice a l c) : PV P (.move x) ρ (.slice a l c) := pv_move h
theorem pv_move_agg {x : Operand} {a : Array Value} (h : ev ρ x = .agg a) : PV P (.move x) ρ (.agg a) := pv_move h
theorem pv_move_func {x : Operand} {f : Fn} {a b : Array Value} (h : ev ρ x = .func f a b) : PV P (.move x) ρ (.func f a b) := pv_move h
theorem pv_assign_int {x : Operand} {k : IntKind} {n : Int} (h : ev ρ x = .int k n) : PV P (.assign x) ρ (.int k n) := pv_assign h
theorem pv_assign_bool {x : Operand} {b : Bool} (h : ev ρ x = .bool b) : PV P (.assign x) ρ (.bool b) := pv_assign h
theorem pv_assign_ptr {x : Operand} {a : Option Addr} (h : ev ρ x = .pointer a) : PV P (.assign x) ρ (.pointer a) := pv_assign h
theorem pv_assign_slice {x : Operand} {a : Option Addr} {l c : Nat} (h : ev ρ x = .slice a l c) : PV P (.assign x) ρ (.slice a l c) := pv_assign h
theorem pv_assign_agg {x : Operand} {a : Array Value} (h : ev ρ x = .agg a) : PV P (.assign x) ρ (.agg a) := pv_assign h
theorem pv_pick {c a b : Operand} {t : Bool} {v : Value} (hc : ev ρ c = .bool t) (h : (bif t then ev ρ a else ev ρ b) = v) : PV P (.pick c a b) ρ v := by
  intro oo w ho; unfold execOp; rw [ho]; subst h
  show (asBool (ev ρ c) >>= fun t => pure (Next.value (if t then ev ρ a else ev ρ b))).run P w = _
  rw [hc]; cases t <;> rfl
theorem pv_pick_b {c a b : Operand} {t x y : Bool} (hc : ev ρ c = .bool t) (ha : ev ρ a = .bool x) (hb : ev ρ b = .bool y) : PV P (.pick c a b) ρ (.bool (bif t then x else y)) :=
  pv_pick hc (by rw [ha, hb]; cases t <;> rfl)
theorem pv_pick_and {c a : Operand} {t x : Bool} (hc : ev ρ c = .bool t) (ha : ev ρ a = .bool x) : PV P (.pick c a (.const (.bool false))) ρ (.bool (t && x)) :=
  pv_pick hc (by rw [ha]; cases t <;> rfl)
theorem pv_pick_or {c a : Operand} {t x : Bool} (hc : ev ρ c = .bool t) (ha : ev ρ a = .bool x) : PV P (.pick c (.const (.bool true)) a) ρ (.bool (t || x)) :=
  pv_pick hc (by rw [ha]; cases t <;> rfl)
theorem pv_pick_t {c a b : Operand} {v : Value} (hc : ev ρ c = .bool true) (h : ev ρ a = v) : PV P (.pick c a b) ρ v := pv_pick hc h
theorem pv_pick_f {c a b : Operand} {v : Value} (hc : ev ρ c = .bool false) (h : ev ρ b = v) : PV P (.pick c a b) ρ v := pv_pick hc h
theorem pv_nil_ptr {x : Operand} {a : Addr} (h : ev ρ x = .pointer (some a)) : PV P (.nilCheck x) ρ (.pointer (some a)) := by
  intro oo w ho; unfold execOp; rw [ho]; simp only [h]; rfl
theorem pv_nil_iface {x : Operand} {t : Nat} {v : Value} (h : ev ρ x = .iface t v) : PV P (.nilCheck x) ρ (.iface t v) := by
  intro oo w ho; unfold execOp; rw [ho]; simp only [h]; rfl

theorem eqGuard_int {op : BinOp} {T : Nat} {x y : Operand} {k k' : IntKind} {a b : Int} (w : World) : (eqGuard op T x y (.int k a) (.int k' b)).run P w = .ok () w := by
  unfold eqGuard; cases op <;> rfl
theorem pv_bin {op : BinOp} {T T' : Nat} {x y : Operand} {k k' : IntKind} {a b : Int} {v : Value} (hx : ev ρ x = .int k a) (hy : ev ρ y = .int k' b)
    (h : ∀ w, (binOp op T (.int k a) (.int k' b)).run P w = .ok v w) : PV P (.binOp op T x y T') ρ v := by
  intro oo w ho; unfold execOp; rw [ho]
  refine op_run_value ?_
  rw [hx, hy, run_bind P _ _ w w () (eqGuard_int w)]
  exact h w
variable {T T' : Nat} {x y : Operand} {k : IntKind} {a b : Int}
theorem pv_add (hx : ev ρ x = .int k a) (hy : ev ρ y = .int k b) : PV P (.binOp .add T x y T') ρ (.int k (k.wrap (a + b))) :=
  pv_bin hx hy fun w => by show (if k ≠ k then _ else _ : Sem Value).run P w = _; rw [if_neg (by simp)]; rfl
theorem pv_sub (hx : ev ρ x = .int k a) (hy : ev ρ y = .int k b) : PV P (.binOp .sub T x y T') ρ (.int k (k.wrap (a - b))) :=
  pv_bin hx hy fun w => by show (if k ≠ k then _ else _ : Sem Value).run P w = _; rw [if_neg (by simp)]; rfl
theorem pv_mul (hx : ev ρ x = .int k a) (hy : ev ρ y = .int k b) : PV P (.binOp .mul T x y T') ρ (.int k (k.wrap (a * b))) :=
  pv_bin hx hy fun w => by show (if k ≠ k then _ else _ : Sem Value).run P w = _; rw [if_neg (by simp)]; rfl
theorem pv_add_i (hx : ev ρ x = .int .i64 a) (hy : ev ρ y = .int .i64 b) (h : -9223372036854775808 ≤ a + b ∧ a + b ≤ 9223372036854775807) : PV P (.binOp .add T x y T') ρ (.int .i64 (a + b)) := by
  have := pv_add (P := P) (T := T) (T' := T') hx hy; rwa [IntWalk.i64_in _ h] at this
theorem pv_sub_i (hx : ev ρ x = .int .i64 a) (hy : ev ρ y = .int .i64 b) (h : -9223372036854775808 ≤ a - b ∧ a - b ≤ 9223372036854775807) : PV P (.binOp .sub T x y T') ρ (.int .i64 (a - b)) := by
  have := pv_sub (P := P) (T := T) (T' := T') hx hy; rwa [IntWalk.i64_in _ h] at this
theorem pv_mul_i (hx : ev ρ x = .int .i64 a) (hy : ev ρ y = .int .i64 b) (h : -9223372036854775808 ≤ a * b ∧ a * b ≤ 9223372036854775807) : PV P (.binOp .mul T x y T') ρ (.int .i64 (a * b)) := by
  have := pv_mul (P := P) (T := T) (T' := T') hx hy; rwa [IntWalk.i64_in _ h] at this
theorem pv_quo_i (hx : ev ρ x = .int .i64 a) (hy : ev ρ y = .int .i64 b) (h : 0 ≤ a ∧ 0 < b ∧ a ≤ 9223372036854775807) : PV P (.binOp .quo T x y T') ρ (.int .i64 (a / b)) := by
  refine pv_bin hx hy fun w => ?_
  rw [show binOp .quo T (.int .i64 a) (.int .i64 b) = Op.intDiv .quo .i64 a b from rfl]
  unfold Op.intDiv
  rw [if_neg (by omega)]
  show (Result.ok (Value.int .i64 (IntKind.i64.wrap (a.tdiv b))) w : Result Value) = _
  have h1 : a / b ≤ a := Int.ediv_le_self b h.1
  have h2 : 0 ≤ a / b := Int.ediv_nonneg h.1 (by omega)
  rw [Int.tdiv_eq_ediv_of_nonneg h.1, IntWalk.i64_in _ ⟨by omega, by omega⟩]
theorem pv_rem (hx : ev ρ x = .int k a) (hy : ev ρ y = .int k b) (h : b ≠ 0) : PV P (.binOp .rem T x y T') ρ (.int k (a.tmod b)) := by
  refine pv_bin hx hy fun w => ?_
  rw [show binOp .rem T (.int k a) (.int k b) = if k ≠ k then stuck "BinOp: operands of different kinds" else Op.intDiv .rem k a b from rfl, if_neg (by simp)]
  unfold Op.intDiv
  rw [if_neg h]; rfl
theorem pv_rem_i (hx : ev ρ x = .int k a) (hy : ev ρ y = .int k b) (h : 0 ≤ a ∧ 0 < b) : PV P (.binOp .rem T x y T') ρ (.int k (a % b)) := by
  have := pv_rem (P := P) (T := T) (T' := T') hx hy (by omega); rwa [Int.tmod_eq_emod_of_nonneg h.1] at this
theorem pv_quo_u (hx : ev ρ x = .int k a) (hy : ev ρ y = .int k b) (hk : k.signed = false) (h : 0 ≤ a ∧ 0 < b ∧ k.wrap (a / b) = a / b) : PV P (.binOp .quo T x y T') ρ (.int k (a / b)) := by
  refine pv_bin hx hy fun w => ?_
  rw [show binOp .quo T (.int k a) (.int k b) = if k ≠ k then stuck "BinOp: operands of different kinds" else Op.intDiv .quo k a b from rfl, if_neg (by simp)]
  unfold Op.intDiv
  rw [if_neg (by omega)]
  show (Result.ok (Value.int k (k.wrap (a.tdiv b))) w : Result Value) = _
  rw [Int.tdiv_eq_ediv_of_nonneg h.1, h.2.2]
theorem pv_lss (hx : ev ρ x = .int k a) (hy : ev ρ y = .int k b) : PV P (.binOp .lss T x y T') ρ (.bool (decide (a < b))) :=
  pv_bin hx hy fun w => by show (if k ≠ k then _ else _ : Sem Value).run P w = _; rw [if_neg (by simp)]; rfl
theorem pv_leq (hx : ev ρ x = .int k a) (hy : ev ρ y = .int k b) : PV P (.binOp .leq T x y T') ρ (.bool (decide (a ≤ b))) :=
  pv_bin hx hy fun w => by show (if k ≠ k then _ else _ : Sem Value).run P w = _; rw [if_neg (by simp)]; rfl
theorem pv_gtr (hx : ev ρ x = .int k a) (hy : ev ρ y = .int k b) : PV P (.binOp .gtr T x y T') ρ (.bool (decide (b < a))) :=
  pv_bin hx hy fun w => by show (if k ≠ k then _ else _ : Sem Value).run P w = _; rw [if_neg (by simp)]; rfl
theorem pv_geq (hx : ev ρ x = .int k a) (hy : ev ρ y = .int k b) : PV P (.binOp .geq T x y T') ρ (.bool (decide (b ≤ a))) :=
  pv_bin hx hy fun w => by show (if k ≠ k then _ else _ : Sem Value).run P w = _; rw [if_neg (by simp)]; rfl
theorem pv_eql (hx : ev ρ x = .int k a) (hy : ev ρ y = .int k b) : PV P (.binOp .eql T x y T') ρ (.bool (decide (a = b))) :=
  pv_bin hx hy fun w => by
    show (if k ≠ k then _ else _ : Sem Value).run P w = _; rw [if_neg (by simp)]
    show (Result.ok (Value.bool (a == b)) w : Result Value) = _
    rw [show (a == b) = decide (a = b) from rfl]
theorem pv_neq (hx : ev ρ x = .int k a) (hy : ev ρ y = .int k b) : PV P (.binOp .neq T x y T') ρ (.bool (decide (a ≠ b))) :=
  pv_bin hx hy fun w => by
    show (if k ≠ k then _ else _ : Sem Value).run P w = _; rw [if_neg (by simp)]
    show (Result.ok (Value.bool (a != b)) w : Result Value) = _
    rw [show (a != b) = decide (a ≠ b) from by rw [bne, show (a == b) = decide (a = b) from rfl]; simp]
/-- The bits of a kind. -/
theorem pv_bits (op : BinOp) (r : BitVec k.bits → BitVec k.bits → BitVec k.bits) (hop : ∀ a b : Int, (binOp op T (.int k a) (.int k b)) = (if k ≠ k then stuck "BinOp: operands of different kinds" else pure (.int k (k.wrap (r (BitVec.ofInt k.bits a) (BitVec.ofInt k.bits b)).toNat))))
    (hx : ev ρ x = .int k a) (hy : ev ρ y = .int k b) : PV P (.binOp op T x y T') ρ (.int k (k.wrap (r (BitVec.ofInt k.bits a) (BitVec.ofInt k.bits b)).toNat)) :=
  pv_bin hx hy fun w => by rw [hop, if_neg (by simp)]; rfl
theorem pv_and (hx : ev ρ x = .int k a) (hy : ev ρ y = .int k b) : PV P (.binOp .and T x y T') ρ (.int k (k.wrap (BitVec.ofInt k.bits a &&& BitVec.ofInt k.bits b).toNat)) := pv_bits .and (· &&& ·) (fun _ _ => rfl) hx hy
theorem pv_or (hx : ev ρ x = .int k a) (hy : ev ρ y = .int k b) : PV P (.binOp .or T x y T') ρ (.int k (k.wrap (BitVec.ofInt k.bits a ||| BitVec.ofInt k.bits b).toNat)) := pv_bits .or (· ||| ·) (fun _ _ => rfl) hx hy
theorem pv_xor (hx : ev ρ x = .int k a) (hy : ev ρ y = .int k b) : PV P (.binOp .xor T x y T') ρ (.int k (k.wrap (BitVec.ofInt k.bits a ^^^ BitVec.ofInt k.bits b).toNat)) := pv_bits .xor (· ^^^ ·) (fun _ _ => rfl) hx hy
theorem pv_andNot (hx : ev ρ x = .int k a) (hy : ev ρ y = .int k b) : PV P (.binOp .andNot T x y T') ρ (.int k (k.wrap (BitVec.ofInt k.bits a &&& ~~~ BitVec.ofInt k.bits b).toNat)) := pv_bits .andNot (fun a b => a &&& ~~~ b) (fun _ _ => rfl) hx hy
theorem pv_shl {k' : IntKind} (hx : ev ρ x = .int k a) (hy : ev ρ y = .int k' b) (h : 0 ≤ b) : PV P (.binOp .shl T x y T') ρ (.int k (k.wrap (a * 2 ^ (min b.toNat k.bits)))) :=
  pv_bin hx hy fun w => by show (if b < 0 then _ else _ : Sem Value).run P w = _; rw [if_neg (by omega)]; rfl
theorem pv_shr {k' : IntKind} (hx : ev ρ x = .int k a) (hy : ev ρ y = .int k' b) (h : 0 ≤ b) : PV P (.binOp .shr T x y T') ρ (.int k (a.fdiv (2 ^ (min b.toNat k.bits)))) :=
  pv_bin hx hy fun w => by show (if b < 0 then _ else _ : Sem Value).run P w = _; rw [if_neg (by omega)]; rfl
theorem pv_not {b : Bool} (hx : ev ρ x = .bool b) : PV P (.unOp .not T x) ρ (.bool !b) := by
  intro oo w ho; unfold execOp; rw [ho]; refine op_run_value ?_; rw [hx]; rfl
theorem pv_not_p {p : Prop} [Decidable p] (hx : ev ρ x = .bool (decide p)) : PV P (.unOp .not T x) ρ (.bool (decide (¬ p))) := by
  have := pv_not (P := P) (T := T) hx; rwa [show (!decide p) = decide (¬ p) from by simp] at this
theorem pv_neg (hx : ev ρ x = .int k a) : PV P (.unOp .neg T x) ρ (.int k (k.wrap (0 - a))) := by
  intro oo w ho; unfold execOp; rw [ho]; refine op_run_value ?_; rw [hx]; rfl
theorem pv_xor1 (hx : ev ρ x = .int k a) : PV P (.unOp .xor T x) ρ (.int k (k.wrap (BitVec.ofInt k.bits (if k.signed then -1 else k.max) ^^^ BitVec.ofInt k.bits a).toNat)) := by
  intro oo w ho; unfold execOp; rw [ho]; refine op_run_value ?_; rw [hx]; rfl
theorem pv_conv {S D : Nat} {k' : IntKind} [hs : TyInt P S k] [hd : TyInt P D k'] (hx : ev ρ x = .int k a) : PV P (.convert S D x) ρ (.int k' (k'.wrap a)) := by
  intro oo w ho; unfold execOp; rw [ho]; refine op_run_value ?_; rw [hx]
  unfold convert
  rw [run_bind P _ _ w w _ (run_under hs.h), run_bind P _ _ w w _ (run_under hd.h)]
  rfl
theorem pv_conv_in {S D : Nat} {k' : IntKind} [hs : TyInt P S k] [hd : TyInt P D k'] (hx : ev ρ x = .int k a) (h : k'.wrap a = a) : PV P (.convert S D x) ρ (.int k' a) := by
  have := pv_conv (P := P) (S := S) (D := D) hx; rwa [h] at this

-- bools
theorem pv_bin_bool {op : BinOp} {c d : Bool} {v : Value} (hx : ev ρ x = .bool c) (hy : ev ρ y = .bool d)
    (h : ∀ w, (binOp op T (.bool c) (.bool d)).run P w = .ok v w) : PV P (.binOp op T x y T') ρ v := by
  intro oo w ho; unfold execOp; rw [ho]
  refine op_run_value ?_
  have hg : (eqGuard op T x y (.bool c) (.bool d)).run P w = .ok () w := by unfold eqGuard; cases op <;> rfl
  rw [hx, hy, run_bind P _ _ w w () hg]
  exact h w
theorem run_equal_bool {c d : Bool} [h : TyBool P T] (w : World) : (Op.equal T (.bool c) (.bool d)).run P w = .ok (c == d) w := by
  unfold Op.equal Op.maxDepth Op.equalIn
  rw [run_bind P _ _ w w _ (run_under h.h)]; rfl
theorem pv_eql_bool {c d : Bool} [TyBool P T] (hx : ev ρ x = .bool c) (hy : ev ρ y = .bool d) : PV P (.binOp .eql T x y T') ρ (.bool (c == d)) :=
  pv_bin_bool hx hy fun w => by
    show (Op.equal T _ _ >>= fun b => pure (Value.bool b)).run P w = _
    rw [run_bind P _ _ w w _ (run_equal_bool w)]; rfl
theorem pv_neq_bool {c d : Bool} [TyBool P T] (hx : ev ρ x = .bool c) (hy : ev ρ y = .bool d) : PV P (.binOp .neq T x y T') ρ (.bool (c != d)) :=
  pv_bin_bool hx hy fun w => by
    show (Op.equal T _ _ >>= fun b => pure (Value.bool (!b))).run P w = _
    rw [run_bind P _ _ w w _ (run_equal_bool w)]; rfl

-- pointers against nil
theorem pv_bin_any {op : BinOp} {u v' v : Value} (hx : ev ρ x = u) (hy : ev ρ y = v') (hg : ∀ w, (eqGuard op T x y u v').run P w = .ok () w)
    (h : ∀ w, (binOp op T u v').run P w = .ok v w) : PV P (.binOp op T x y T') ρ v := by
  intro oo w ho; unfold execOp; rw [ho]
  refine op_run_value ?_
  rw [hx, hy, run_bind P _ _ w w () (hg w)]
  exact h w
theorem run_equal_ptr_nil {E : Nat} {p : Option Addr} [h : TyPtr P T E] (w : World) : (Op.equal T (.pointer p) (.pointer none)).run P w = .ok p.isNone w := by
  unfold Op.equal Op.maxDepth Op.equalIn
  rw [run_bind P _ _ w w _ (run_under h.h)]; cases p <;> rfl
theorem pv_eql_ptr_nil {E : Nat} {p : Option Addr} [TyPtr P T E] (hx : ev ρ x = .pointer p) (hy : ev ρ y = .pointer none) : PV P (.binOp .eql T x y T') ρ (.bool p.isNone) :=
  pv_bin_any hx hy (fun w => by unfold eqGuard; rfl) fun w => by
    have he : binOp .eql T (.pointer p) (.pointer none) = (Op.equal T (.pointer p) (.pointer none) >>= fun b => pure (Value.bool b)) := by cases p <;> rfl
    rw [he, run_bind P _ _ w w _ (run_equal_ptr_nil w)]; rfl
theorem pv_neq_ptr_nil {E : Nat} {p : Option Addr} [TyPtr P T E] (hx : ev ρ x = .pointer p) (hy : ev ρ y = .pointer none) : PV P (.binOp .neq T x y T') ρ (.bool (!p.isNone)) :=
  pv_bin_any hx hy (fun w => by unfold eqGuard; rfl) fun w => by
    have he : binOp .neq T (.pointer p) (.pointer none) = (Op.equal T (.pointer p) (.pointer none) >>= fun b => pure (Value.bool (!b))) := by cases p <;> rfl
    rw [he, run_bind P _ _ w w _ (run_equal_ptr_nil w)]; rfl
theorem run_equal_slice_nil {E l c l' c' : Nat} {p : Option Addr} [h : TySlice P T E] (w : World) : (Op.equal T (.slice p l c) (.slice none l' c')).run P w = .ok p.isNone w := by
  unfold Op.equal Op.maxDepth Op.equalIn
  rw [run_bind P _ _ w w _ (run_under h.h)]; cases p <;> rfl
theorem pv_eql_slice_nil {E l c l' c' : Nat} {p : Option Addr} [TySlice P T E] (hx : ev ρ x = .slice p l c) (hy : ev ρ y = .slice none l' c') : PV P (.binOp .eql T x y T') ρ (.bool p.isNone) :=
  pv_bin_any hx hy (fun w => by unfold eqGuard; rfl) fun w => by
    have he : binOp .eql T (.slice p l c) (.slice none l' c') = (Op.equal T (.slice p l c) (.slice none l' c') >>= fun b => pure (Value.bool b)) := by cases p <;> rfl
    rw [he, run_bind P _ _ w w _ (run_equal_slice_nil w)]; rfl
theorem pv_neq_slice_nil {E l c l' c' : Nat} {p : Option Addr} [TySlice P T E] (hx : ev ρ x = .slice p l c) (hy : ev ρ y = .slice none l' c') : PV P (.binOp .neq T x y T') ρ (.bool (!p.isNone)) :=
  pv_bin_any hx hy (fun w => by unfold eqGuard; rfl) fun w => by
    have he : binOp .neq T (.slice p l c) (.slice none l' c') = (Op.equal T (.slice p l c) (.slice none l' c') >>= fun b => pure (Value.bool (!b))) := by cases p <;> rfl
    rw [he, run_bind P _ _ w w _ (run_equal_slice_nil w)]; rfl

-- places
theorem addr_add (b o n : Nat) : (⟨b, o, none⟩ : Addr).add n = ⟨b, o + n, none⟩ := by
  unfold Addr.add; split
  · rename_i h; subst h; rfl
  · rfl
theorem pv_fieldAddr {S i off F sz by' bb o : Nat} {z : Value} [hf : Fld P S i off F] [hi : TyI P F sz by' z] (hx : ev ρ x = .pointer (some ⟨bb, o, none⟩)) (h0 : sz ≠ 0) :
    PV P (.fieldAddr S x i) ρ (.pointer (some ⟨bb, o + off, none⟩)) := by
  intro oo w ho; unfold execOp; rw [ho]; refine op_run_value ?_; rw [hx]
  obtain ⟨fs, f, h1, h2, rfl, rfl⟩ := hf.out
  unfold Instr.fieldAt
  rw [run_bind P _ _ w w _ (run_under h1)]
  simp only [h2]
  show ((fieldPlace ⟨bb, o, none⟩ f) >>= fun a => pure (Value.pointer (some a))).run P w = _
  have : (fieldPlace ⟨bb, o, none⟩ f).run P w = .ok ⟨bb, o + f.offset, none⟩ w := by
    unfold fieldPlace
    rw [run_bind P _ _ w w _ (run_size hi), if_neg h0, addr_add]; rfl
  rw [run_bind P _ _ w w _ this]; rfl
theorem pv_indexAddr {S E sz by' bb o l c : Nat} {z : Value} {n : Int} [hs : TySlice P S E] [hi : TyI P E sz by' z] (hx : ev ρ x = .slice (some ⟨bb, o, none⟩) l c) (hy : ev ρ y = .int k n) (h : 0 ≤ n ∧ n < l) :
    PV P (.indexAddr S x y) ρ (.pointer (some ⟨bb, o + n.toNat * sz, none⟩)) := by
  intro oo w ho; unfold execOp; rw [ho]; refine op_run_value ?_; rw [hx, hy]
  unfold Instr.indexAt
  simp only [asIntOf, Sem.run_bind, Sem.run_pure, Result.andThen_ok, run_under hs.h]
  rw [if_pos h]
  simp only [Sem.run_bind, Sem.run_pure, Result.andThen_ok, run_size hi, addr_add]
theorem pv_indexAddr_n {S E sz by' bb o l c : Nat} {z : Value} {n : Nat} [hs : TySlice P S E] [hi : TyI P E sz by' z] (hx : ev ρ x = .slice (some ⟨bb, o, none⟩) l c) (hy : ev ρ y = .int k (n : Int)) (h : n < l) :
    PV P (.indexAddr S x y) ρ (.pointer (some ⟨bb, o + n * sz, none⟩)) := by
  have := pv_indexAddr (P := P) (S := S) hx hy ⟨by omega, by omega⟩; simpa using this
theorem pv_indexAddr_a {S E sz by' bb o l : Nat} {z : Value} {n : Int} [hs : TyArr P S l E] [hi : TyI P E sz by' z] (hx : ev ρ x = .pointer (some ⟨bb, o, none⟩)) (hy : ev ρ y = .int k n) (h : 0 ≤ n ∧ n < l) :
    PV P (.indexAddr S x y) ρ (.pointer (some ⟨bb, o + n.toNat * sz, none⟩)) := by
  intro oo w ho; unfold execOp; rw [ho]; refine op_run_value ?_; rw [hx, hy]
  unfold Instr.indexAt
  simp only [asIntOf, Sem.run_bind, Sem.run_pure, Result.andThen_ok, run_under hs.h, Instr.sureAddr]
  rw [if_pos h]
  simp only [Sem.run_bind, Sem.run_pure, Result.andThen_ok, run_size hi, addr_add]

theorem run_bound {j : Value} {k : IntKind} {i : Int} {y : Nat} {code : BoundsCode} {w : World} (hj : j = .int k i) (h : 0 ≤ i ∧ i ≤ y) : (Instr.sliceBound j y code).run P w = .ok i.toNat w := by
  subst hj
  unfold Instr.sliceBound
  simp only [asIntOf, Sem.run_bind, Sem.run_pure, Result.andThen_ok]
  rw [if_pos h]; rfl
def optB (ρ : Env) (d : Int) : Option Operand → Option Int
  | none => some d
  | some x => match ev ρ x with | .int _ n => some n | _ => none
theorem run_bounds {ρ : Env} {b : Bool} {len cap : Nat} {lo hi : Option Operand} {l h : Int} {w : World} (hl : optB ρ 0 lo = some l) (hh : optB ρ len hi = some h) (hle : 0 ≤ l ∧ l ≤ h) (hc : h ≤ cap) :
    (Instr.sliceBounds b len cap (lo.map (ev ρ)) (hi.map (ev ρ)) none).run P w = .ok (l.toNat, h.toNat, cap) w := by
  have eh : (∃ x k, hi = some x ∧ ev ρ x = .int k h) ∨ (hi = none ∧ h = len) := by
    cases hi with
    | none => simp only [optB, Option.some.injEq] at hh; exact .inr ⟨rfl, hh.symm⟩
    | some x =>
      simp only [optB] at hh
      split at hh
      · rename_i k n hev
        simp only [Option.some.injEq] at hh; subst hh
        exact .inl ⟨x, k, rfl, hev⟩
      · cases hh
  have el : (∃ x k, lo = some x ∧ ev ρ x = .int k l) ∨ (lo = none ∧ l = 0) := by
    cases lo with
    | none => simp only [optB, Option.some.injEq] at hl; exact .inr ⟨rfl, hl.symm⟩
    | some x =>
      simp only [optB] at hl
      split at hl
      · rename_i k n hev
        simp only [Option.some.injEq] at hl; subst hl
        exact .inl ⟨x, k, rfl, hev⟩
      · cases hl
  unfold Instr.sliceBounds
  rcases eh with ⟨x, k, rfl, hx⟩ | ⟨rfl, rfl⟩ <;> rcases el with ⟨y, k', rfl, hy⟩ | ⟨rfl, rfl⟩ <;>
    simp only [Option.map_some, Option.map_none, pure_bind, Int.toNat_natCast]
  · rw [run_bind P _ _ w w _ (run_bound hx ⟨by omega, by omega⟩), run_bind P _ _ w w _ (run_bound hy ⟨by omega, by omega⟩)]; rfl
  · rw [run_bind P _ _ w w _ (run_bound hx ⟨by omega, by omega⟩)]; rfl
  · rw [run_bind P _ _ w w _ (run_bound hy ⟨by omega, by omega⟩)]; rfl
  · rfl
/-- Where a cut of a slice begins. -/
def cutOff (o l cap sz : Nat) : Nat := if cap = l then o else o + l * sz
theorem pv_slice {S E sz by' bb o len cap : Nat} {z : Value} {lo hi : Option Operand} {l h : Int} [hs : TySlice P S E] [hi' : TyI P E sz by' z] (hx : ev ρ x = .slice (some ⟨bb, o, none⟩) len cap)
    (hl : optB ρ 0 lo = some l) (hh : optB ρ len hi = some h) (hle : 0 ≤ l ∧ l ≤ h) (hc : h ≤ cap) :
    PV P (.slice S x lo hi none) ρ (.slice (some ⟨bb, cutOff o l.toNat cap sz, none⟩) (h.toNat - l.toNat) (cap - l.toNat)) := by
  intro oo w ho; unfold execOp; rw [ho]; refine op_run_value ?_; rw [hx]
  unfold Instr.sliceAt
  rw [run_bind P _ _ w w _ (run_under hs.h)]
  simp only []
  unfold Instr.slice
  rw [run_bind P _ _ w w _ (run_under hs.h)]
  simp only [Option.map_none]
  rw [run_bind P _ _ w w _ (run_bounds hl hh hle hc), run_bind P _ _ w w _ (run_size hi')]
  show (Result.ok (Value.slice _ _ _) w : Result Value) = _
  unfold cutOff
  split
  · rfl
  · simp only [Option.map_some, addr_add]
theorem pv_slice_nil {S E sz by' cap : Nat} {z : Value} {lo hi : Option Operand} [hs : TySlice P S E] [hi' : TyI P E sz by' z] (hx : ev ρ x = .slice none 0 0)
    (hl : optB ρ 0 lo = some 0) (hh : optB ρ 0 hi = some 0) :
    PV P (.slice S x lo hi none) ρ (.slice none 0 0) := by
  intro oo w ho; unfold execOp; rw [ho]; refine op_run_value ?_; rw [hx]
  unfold Instr.sliceAt
  rw [run_bind P _ _ w w _ (run_under hs.h)]
  simp only []
  unfold Instr.slice
  rw [run_bind P _ _ w w _ (run_under hs.h)]
  simp only [Option.map_none]
  rw [run_bind P _ _ w w _ (run_bounds hl hh ⟨by omega, by omega⟩ (by omega)), run_bind P _ _ w w _ (run_size hi')]
  rfl
theorem pv_slice_arr {S E sz by' bb o n : Nat} {z : Value} {lo hi : Option Operand} {l h : Int} [hs : TyArr P S n E] [hi' : TyI P E sz by' z] (hx : ev ρ x = .pointer (some ⟨bb, o, none⟩))
    (hl : optB ρ 0 lo = some l) (hh : optB ρ n hi = some h) (hle : 0 ≤ l ∧ l ≤ h) (hc : h ≤ n) :
    PV P (.slice S x lo hi none) ρ (.slice (some ⟨bb, cutOff o l.toNat n sz, none⟩) (h.toNat - l.toNat) (n - l.toNat)) := by
  intro oo w ho; unfold execOp; rw [ho]; refine op_run_value ?_; rw [hx]
  unfold Instr.sliceAt
  rw [run_bind P _ _ w w _ (run_under hs.h)]
  simp only [Option.map_none]
  simp only [Instr.sureAddr, pure_bind]
  rw [run_bind P _ _ w w _ (run_bounds hl hh hle hc), run_bind P _ _ w w _ (run_size hi')]
  show (Result.ok (Value.slice _ _ _) w : Result Value) = _
  unfold cutOff
  split
  · rfl
  · simp only [addr_add]

-- parts of values
theorem pv_field {S i off F : Nat} {cs : Array Value} {v : Value} [hf : Fld P S i off F] [hs : TyScal P F] (hx : ev ρ x = .agg cs) (hv : cs[off]? = some v) : PV P (.field S x i) ρ v := by
  intro oo w ho; unfold execOp; rw [ho]; refine op_run_value ?_; rw [hx]
  obtain ⟨fs, f, h1, h2, rfl, rfl⟩ := hf.out
  unfold Instr.field
  rw [run_bind P _ _ w w _ (run_under h1)]
  simp only [h2, asAgg, pure_bind]
  unfold part
  rw [run_bind P _ _ w w _ (run_isAgg hs.h)]
  simp only [hv]; rfl
theorem pv_field_agg {S i off F sz by' : Nat} {z : Value} {cs : Array Value} [hf : Fld P S i off F] [hs : TyAggr P F] [hi : TyI P F sz by' z] (hx : ev ρ x = .agg cs) : PV P (.field S x i) ρ (.agg (cs.extract off (off + sz))) := by
  intro oo w ho; unfold execOp; rw [ho]; refine op_run_value ?_; rw [hx]
  obtain ⟨fs, f, h1, h2, rfl, rfl⟩ := hf.out
  unfold Instr.field
  rw [run_bind P _ _ w w _ (run_under h1)]
  simp only [h2, asAgg, pure_bind]
  unfold part
  rw [run_bind P _ _ w w _ (run_isAgg hs.h)]
  simp only [if_true]
  rw [run_bind P _ _ w w _ (run_size hi)]; rfl
theorem pv_index {S n E : Nat} {by' : Nat} {z : Value} {cs : Array Value} {i : Int} {v : Value} [hs : TyArr P S n E] [he : TyScal P E] [hi : TyI P E 1 by' z] (hx : ev ρ x = .agg cs) (hy : ev ρ y = .int k i) (h : 0 ≤ i ∧ i < n) (hv : cs[i.toNat]? = some v) : PV P (.index S x y) ρ v := by
  intro oo w ho; unfold execOp; rw [ho]; refine op_run_value ?_; rw [hx, hy]
  unfold Instr.index
  simp only [asIntOf, pure_bind]
  rw [run_bind P _ _ w w _ (run_under hs.h)]
  simp only []
  rw [if_pos h, run_bind P _ _ w w _ (run_size hi)]
  unfold part
  rw [run_bind P _ _ w w _ (run_isAgg he.h)]
  simp only [Nat.mul_one, hv]; rfl
theorem pv_extract {i : Nat} {vs : Array Value} {v : Value} (hx : ev ρ x = .tuple vs) (hv : vs[i]? = some v) : PV P (.extract x i) ρ v := by
  intro oo w ho; unfold execOp; rw [ho]; refine op_run_value ?_; rw [hx]
  unfold Instr.extract
  simp only [hv]; rfl
theorem pv_makeFunc {f : Fn} {a b : Array Operand} : PV P (.makeFunc f a b) ρ (.func f (a.map (ev ρ)) (b.map (ev ρ))) := by
  intro oo w ho; unfold execOp; rw [ho]; rfl

-- builtins that only reckon
theorem pv_builtin {b : Builtin} {xs : Array Operand} {ts : Array TypeId} {v : Value} (h : ∀ ty cs w, (builtin b ts ty cs (xs.map (ev ρ))).run P w = .ok (.value v) w) : PV P (.call { callee := .builtin b, args := xs, argTypes := ts }) ρ v := by
  intro oo w ho; unfold execOp; rw [ho]
  exact h _ _ w
theorem pv_len {S E len cap : Nat} {a : Option Addr} [hs : TySlice P S E] (hx : ev ρ x = .slice a len cap) : PV P (.call { callee := .builtin .len, args := #[x], argTypes := #[S] }) ρ (.int .i64 (len : Int)) := by
  refine pv_builtin fun ty cs w => ?_
  refine op_run_value ?_
  simp only [List.map_toArray, List.map_cons, List.map_nil, hx, Builtin.len_]
  show ((underlying S) >>= _).run P w = _
  rw [run_bind P _ _ w w _ (run_under hs.h)]; rfl
theorem pv_cap {S E len cap : Nat} {a : Option Addr} [hs : TySlice P S E] (hx : ev ρ x = .slice a len cap) : PV P (.call { callee := .builtin .cap, args := #[x], argTypes := #[S] }) ρ (.int .i64 (cap : Int)) := by
  refine pv_builtin fun ty cs w => ?_
  refine op_run_value ?_
  simp only [List.map_toArray, List.map_cons, List.map_nil, hx, Builtin.cap_]
  show ((underlying S) >>= _).run P w = _
  rw [run_bind P _ _ w w _ (run_under hs.h)]; rfl
theorem pv_len_arr {S n E : Nat} [hs : TyArr P S n E] : PV P (.call { callee := .builtin .len, args := #[x], argTypes := #[S] }) ρ (.int .i64 (n : Int)) := by
  refine pv_builtin fun ty cs w => ?_
  refine op_run_value ?_
  simp only [List.map_toArray, List.map_cons, List.map_nil, Builtin.len_]
  show ((underlying S) >>= _).run P w = _
  rw [run_bind P _ _ w w _ (run_under hs.h)]; rfl
theorem pv_len_str {S : Nat} {s : ByteArray} [hs : TyStr P S] (hx : ev ρ x = .string s) : PV P (.call { callee := .builtin .len, args := #[x], argTypes := #[S] }) ρ (.int .i64 (s.size : Int)) := by
  refine pv_builtin fun ty cs w => ?_
  refine op_run_value ?_
  simp only [List.map_toArray, List.map_cons, List.map_nil, hx, Builtin.len_]
  show ((underlying S) >>= _).run P w = _
  rw [run_bind P _ _ w w _ (run_under hs.h)]; rfl
theorem pv_max {ts : Array TypeId} (hx : ev ρ x = .int k a) (hy : ev ρ y = .int k b) : PV P (.call { callee := .builtin .max, args := #[x, y], argTypes := ts }) ρ (.int k (max a b)) := by
  refine pv_builtin fun ty cs w => ?_
  refine op_run_value ?_
  simp only [List.map_toArray, List.map_cons, List.map_nil, hx, hy, Builtin.max_, List.foldlM]
  show (Result.ok (Value.int k (if b > a then b else a)) w : Result Value) = _
  rw [show (if b > a then b else a) = max a b from by split <;> omega]
theorem pv_min {ts : Array TypeId} (hx : ev ρ x = .int k a) (hy : ev ρ y = .int k b) : PV P (.call { callee := .builtin .min, args := #[x, y], argTypes := ts }) ρ (.int k (min a b)) := by
  refine pv_builtin fun ty cs w => ?_
  refine op_run_value ?_
  simp only [List.map_toArray, List.map_cons, List.map_nil, hx, hy, Builtin.min_, List.foldlM]
  show (Result.ok (Value.int k (if b < a then b else a)) w : Result Value) = _
  rw [show (if b < a then b else a) = min a b from by split <;> omega]
end pv
end Go.Sl
