/- the engine: structs and arrays compared. -/
import Derived.Test.YtiebmodokjaokabEngQ
import Derived.DeepKeys
set_option linter.unusedVariables false
namespace Go.Sl
open Go
section
variable {P : Program} {T T' : Nat} {x y : Operand} {ρ : Env} {xs ys : Array Value} {la lb : List Lit} {m D D' : Nat} {p : Prop} [Decidable p]
theorem run_eq_agg (w : World) (hk : P.keyTypeAt m T = true) (hm : m ≤ 10000) (fx : (Value.agg xs).formed P T = true) (fy : (Value.agg ys).formed P T = true) (ha : P.keyLits D T xs.toList = some la) (hb : P.keyLits D' T ys.toList = some lb) (hp : p ↔ la = lb) :
    (Op.equal T (.agg xs) (.agg ys)).run P w = .ok (decide p) w := by
  have e : Op.maxDepth = (10000 - m) + m := by unfold Op.maxDepth; omega
  obtain ⟨r, hr, hiff⟩ := run_equalIn_deep (P := P) (10000 - m) m T hk w D D' (.agg xs) (.agg ys) la lb fx fy ha hb
  unfold Op.equal
  rw [e, hr]
  congr 1
  by_cases h : p
  · rw [hiff.2 (hp.1 h), decide_eq_true h]
  · rw [decide_eq_false h]
    cases r
    · rfl
    · exact absurd (hp.2 (hiff.1 rfl)) h
theorem run_guard_agg {op : BinOp} (w : World) (hg : P.eqGuardType P.depth T = false) : (eqGuard op T x y (.agg xs) (.agg ys)).run P w = .ok () w := by
  unfold eqGuard
  cases op <;> first
    | rfl
    | (show (program >>= fun p => if !(p.eqGuardType p.depth T) then pure () else _ : Sem Unit).run P w = _
       rw [run_bind P _ _ w w P rfl, hg]; rfl)
theorem pv_eql_agg (hx : ev ρ x = .agg xs) (hy : ev ρ y = .agg ys) (hk : P.keyTypeAt m T = true) (hm : m ≤ 10000) (hg : P.eqGuardType P.depth T = false) (fx : (Value.agg xs).formed P T = true) (fy : (Value.agg ys).formed P T = true)
    (ha : P.keyLits D T xs.toList = some la) (hb : P.keyLits D' T ys.toList = some lb) (hp : p ↔ la = lb) : PV P (.binOp .eql T x y T') ρ (.bool (decide p)) := by
  intro oo w ho; unfold execOp; rw [ho]
  refine op_run_value ?_
  rw [hx, hy, run_bind P _ _ w w () (run_guard_agg w hg)]
  show (Op.equal T (.agg xs) (.agg ys) >>= fun b => pure (Value.bool b) : Sem Value).run P w = _
  rw [run_bind P _ _ w w _ (run_eq_agg w hk hm fx fy ha hb hp)]; rfl
theorem pv_neq_agg (hx : ev ρ x = .agg xs) (hy : ev ρ y = .agg ys) (hk : P.keyTypeAt m T = true) (hm : m ≤ 10000) (hg : P.eqGuardType P.depth T = false) (fx : (Value.agg xs).formed P T = true) (fy : (Value.agg ys).formed P T = true)
    (ha : P.keyLits D T xs.toList = some la) (hb : P.keyLits D' T ys.toList = some lb) (hp : p ↔ la = lb) : PV P (.binOp .neq T x y T') ρ (.bool (decide ¬p)) := by
  intro oo w ho; unfold execOp; rw [ho]
  refine op_run_value ?_
  rw [hx, hy, run_bind P _ _ w w () (run_guard_agg w hg)]
  show (Op.equal T (.agg xs) (.agg ys) >>= fun b => pure (Value.bool !b) : Sem Value).run P w = _
  rw [run_bind P _ _ w w _ (run_eq_agg w hk hm fx fy ha hb hp)]
  show (Result.ok (Value.bool !(decide p)) w : Result Value) = _
  simp
end
theorem SlW.cellsAt {α : Type} {enc : α → List Value} {w : World} {b o sz k : Nat} {l : List α} (he : ∀ a, (enc a).length = sz) (hsz : 0 < sz) (h : SlW w sz (.slice (some ⟨b, o, none⟩) l.length k) l.length (l.flatMap enc)) {i : Nat} (hi : i < l.length) :
    ∃ c E fr, w.heap[b]? = some (.cells c E fr) ∧ o + i * sz + sz ≤ c.size ∧ c.extract (o + i * sz) (o + i * sz + sz) = (enc l[i]).toArray := by
  obtain ⟨xb, xo, xk, xc, xE, xfr, hxv, hxb, hxs, hxe⟩ := h.elemN he hsz (by omega)
  simp only [Value.slice.injEq, Option.some.injEq, Addr.mk.injEq] at hxv
  obtain ⟨⟨rfl, rfl, _⟩, _, rfl⟩ := hxv
  exact ⟨xc, xE, xfr, hxb, hxe i hi⟩
theorem ds_load_agg_sl {P : Program} {ops : Array Oper} {dst : Option Nat} {ty T : TypeId} {pos : String} {after : Array Edge} {ρ : Env} {w : World} {x : Operand} {K : Env → World → Prop} {S : World → Prop} {r : List (Nat × Bool × Bool)} {i : Nat} {n : Bool} {b o k j sz by' : Nat} {z : Value} [hs : TyAggr P T] [hi : TyI P T sz by' z]
    {α : Type} {enc : α → List Value} {l : List α} (he : ∀ a, (enc a).length = sz) (hsz : 0 < sz) (ho : ops[i]? = some ⟨dst, .load T x, ty, pos, after, none⟩) (hx : ev ρ x = .pointer (some ⟨b, o + j * sz, none⟩)) (HS : ∀ w', S w' → SlW w' sz (.slice (some ⟨b, o, none⟩) l.length k) l.length (l.flatMap enc)) (hj : j < l.length) (hS : S w)
    (kk : denS P ops S K r (put ρ dst (.agg (enc l[j]).toArray)) w) : denS P ops S K ((i, true, n) :: r) ρ w := by
  refine ⟨_, .agg (enc l[j]).toArray, ho, ⟨fun _ w' hS' => ?_, fun e => by cases e⟩, hS, kk⟩
  obtain ⟨c, E, fr, hb, hle, hc⟩ := (HS w' hS').cellsAt he hsz hj
  have hr := run_loadAgg (P := P) (ρ := ρ) (x := x) (T := T) (n := sz) hb hle hx
  rw [hc] at hr
  exact op_run_value hr
theorem d_load_agg_sl {P : Program} {ops : Array Oper} {dst : Option Nat} {ty T : TypeId} {pos : String} {after : Array Edge} {rest : List Oper} {ρ : Env} {w : World} {x : Operand} {K : Env → World → Prop} {b o k j sz by' : Nat} {z : Value} [hs : TyAggr P T] [hi : TyI P T sz by' z]
    {α : Type} {enc : α → List Value} {l : List α} (he : ∀ a, (enc a).length = sz) (hsz : 0 < sz) (hx : ev ρ x = .pointer (some ⟨b, o + j * sz, none⟩)) (HS : SlW w sz (.slice (some ⟨b, o, none⟩) l.length k) l.length (l.flatMap enc)) (hj : j < l.length)
    (kk : denOps P ops rest (put ρ dst (.agg (enc l[j]).toArray)) w K) : denOps P ops (⟨dst, .load T x, ty, pos, after, none⟩ :: rest) ρ w K := by
  obtain ⟨c, E, fr, hb, hle, hc⟩ := HS.cellsAt he hsz hj
  exact d_load_agg_w hx hb hle hc kk
theorem SlW.cellAtN {α : Type} {enc : α → List Value} {w : World} {b o sz k : Nat} {l : List α} (he : ∀ a, (enc a).length = sz) (hsz : 0 < sz) (h : SlW w sz (.slice (some ⟨b, o, none⟩) l.length k) l.length (l.flatMap enc)) {i j : Nat} (hi : i < l.length) (hj : j < sz) :
    ∃ c E fr, w.heap[b]? = some (.cells c E fr) ∧ c[o + i * sz + j]? = (enc l[i])[j]? := by
  obtain ⟨c, E, fr, hb, hle, hc⟩ := h.cellsAt he hsz hi
  refine ⟨c, E, fr, hb, ?_⟩
  have h1 : (c.extract (o + i * sz) (o + i * sz + sz))[j]? = (enc l[i])[j]? := by rw [hc]; simp
  rw [← h1, Array.getElem?_extract_of_lt (by omega), Array.getElem?_eq_getElem (by omega)]
theorem d_load_sln {P : Program} {ops : Array Oper} {dst : Option Nat} {ty T : TypeId} {pos : String} {after : Array Edge} {rest : List Oper} {ρ : Env} {w : World} {x : Operand} {K : Env → World → Prop} {b o k i j sz : Nat} {v : Value} [hs : TyScal P T]
    {α : Type} {enc : α → List Value} {l : List α} (he : ∀ a, (enc a).length = sz) (hsz : 0 < sz) (hx : ev ρ x = .pointer (some ⟨b, o + i * sz + j, none⟩)) (HS : SlW w sz (.slice (some ⟨b, o, none⟩) l.length k) l.length (l.flatMap enc)) (hi : i < l.length) (hj : j < sz) (hv : (enc l[i])[j]? = some v)
    (kk : denOps P ops rest (put ρ dst v) w K) : denOps P ops (⟨dst, .load T x, ty, pos, after, none⟩ :: rest) ρ w K := by
  obtain ⟨c, E, fr, hb, hc⟩ := HS.cellAtN he hsz hi hj
  exact d_load_w hx hb (hc.trans hv) kk
/-- The literals of an array of numbers. -/
theorem lits_int {P : Program} {e : TypeId} {k : IntKind} {d : Nat} {n : Int} (he : P.underlying e = some (.int k)) (hw : (Lit.int k n).wf = true) : P.keyLits (d + 1) e [.int k n] = some [.int k n] := by
  unfold Program.keyLits; simp [he, hw]
theorem lits_arr {P : Program} {t e : TypeId} {k : IntKind} {d n : Nat} (ht : P.underlying t = some (.array n e)) (he : P.underlying e = some (.int k)) (hc : P.cellsOf e = 1) (hct : P.cellsOf t = n) (l : List Int) (hl : l.length = n) (hw : ∀ x ∈ l, (Lit.int k x).wf = true) :
    P.keyLits (d + 2) t (l.map (.int k)) = some (l.map (.int k)) := by
  unfold Program.keyLits
  rw [ht]
  simp only [List.length_map]
  rw [if_pos (by omega), hc]
  have h1 : ∀ (j : Nat) (r : List Int), l.drop j = r → ((List.range' j r.length).mapM fun i => P.keyLits (d + 1) e (((l.map (Value.int k)).drop (i * 1)).take 1)) = some (r.map fun x => [Lit.int k x]) := by
    intro j r
    induction r generalizing j with
    | nil => intro _; rfl
    | cons a r ih =>
      intro hr
      rw [List.length_cons, List.range'_succ, List.mapM_cons]
      have h2 : ((l.map (Value.int k)).drop (j * 1)).take 1 = [.int k a] := by rw [Nat.mul_one, ← List.map_drop, hr]; rfl
      have ha : a ∈ l := List.mem_of_mem_drop (by rw [hr]; simp : a ∈ l.drop j)
      have hd : l.drop (j + 1) = r := by rw [← List.drop_drop, hr]; rfl
      rw [h2, lits_int he (hw a ha), ih (j + 1) hd]
      rfl
  have h3 := h1 0 l rfl
  rw [← List.range_eq_range', hl] at h3
  rw [h3]
  simp only [Option.map_some, Option.some.injEq]
  clear h3 h1 hl hw
  induction l <;> simp_all
end Go.Sl
